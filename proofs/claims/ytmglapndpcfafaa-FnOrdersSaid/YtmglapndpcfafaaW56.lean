/-
  Walks of chapter 3: Linearize.
  Conditions: none beyond the bounds that each states.
-/
import Derived.Test.YtmglapndpcfafaaW55
import Derived.Test.YtmglapndpcfafaaP16
namespace Go.Proofs.Ytmglapndpcfafaa.Wk
open Go.RowKit Go.Proofs.Ytmglapndpcfafaa.M
set_option linter.unusedVariables false
attribute [local go_sem] cell_grow

def sliceLen : Value → Nat
  | .slice _ n _ => n
  | _ => 0
theorem linR_fit (l : List (Int × Int)) : ∀ x ∈ P.linR l, Fit x := by
  intro x hx
  have := P.linR_fit hx
  unfold Fit; omega
theorem lin_fit (l : List (Int × Int)) (k : Nat) : ∀ x ∈ P.lin l k, Fit x := by
  intro x hx
  have := P.lin_bd hx
  unfold Fit; omega
theorem own_len {w : World} {base E sz n : Nat} {v : Value} {xs : List Value} (h : w.ownsRow base E sz v n xs) : sliceLen v = n := by
  obtain ⟨A, c, rfl, _, _⟩ := own_form h
  rfl
theorem info_i1 : (Try.prog.info? 3).map (fun i => (i.zero, i.size, i.bytes)) = some (some (.int .i64 0), 1, 8) := by kernel_rfl
set_option maxHeartbeats 3200000 in
set_option maxRecDepth 100000 in
theorem specLinearize {A : Option Addr} {n c : Nat} {l : List (Int × Int)} (w : World) (h : Sl RP 2 w w.heap.size A n c l) : Calls Try.prog 14 #[.slice A n c] w (RetQs w (P.linR l)) := by
  obtain ⟨i0, hi, hz0, hz1, hz2⟩ := info_parts info_i1
  have HL := Lib.hid h.len
  have B0 := (Below.refl w.heap.size w).alloc (Nat.le_refl _) (.cells #[] 3)
  cases hok : P.okP l with
  | false =>
    have HE : Hid (P.linR l = []) := by show _ = _; unfold P.linR; rw [hok]; rfl
    have H1 := h.on RP.keeps B0
    go_enter Try.func14, Try.ntmps14
    go_wp2
    go_loopw [3, 4, 5, 6] (fun vo va vb vc wr => vo = .slice (some ⟨w.heap.size, 0, none⟩) 0 0 ∧ wr = w.alloc (.cells #[] 3)) (fun _ _ _ _ _ => 0)
    case atStart => exact ⟨rfl, rfl⟩
    case round =>
      obtain ⟨rfl, rfl⟩ := hrel
      go_wp2_with (go_at_call 9; refine (specArePairs _ H1).mono ?_; rintro e w2 ⟨rfl, b2⟩; rw [hok])
      go_ret
      have ho := own_below (own_emptyS w 3 1) b2
      refine ⟨_, rfl, ?_, B0.trans (b2.mono B0.size)⟩
      rw [HE.out]
      exact ⟨ho, own_und ho⟩
  | true =>
    have HE : Hid (P.linR l = P.lin l 10) := by show _ = _; unfold P.linR; rw [hok]; rfl
    have HK := Lib.hid hok
    have hn8 : n ≤ 8 := by have := P.okP_len hok; have := HL.out; omega
    clear hok
    go_enter Try.func14, Try.ntmps14
    go_wp2
    go_loopw [3, 4, 5, 6] (fun vo va vb vc wr => ∃ (k : Nat) (S : List Int), k ≤ 10 ∧ Hid (P.lin l k = S) ∧ wr.ownsRow w.heap.size 3 1 vo k (S.map (Value.int .i64)) ∧ Below w.heap.size w wr) (fun vo _ _ _ _ => 10 - sliceLen vo)
    case atStart => exact ⟨0, [], Nat.zero_le _, rfl, own_emptyS w 3 1, B0⟩
    case round =>
      clear B0
      obtain ⟨k, S, hk, HSk, hown, hbw⟩ := hrel
      have hSl : S.length = k := by rw [← HSk.out, P.lin_len]
      have HSF : Hid (∀ x ∈ S, Fit x) := by rw [← HSk.out]; exact lin_fit l k
      have HOL := Lib.hid (own_len hown)
      obtain ⟨wo, rfl⟩ : ∃ wo : World, wo = wr := ⟨_, rfl⟩
      obtain ⟨A', c', hv, _, _⟩ := own_form hown
      subst hv
      by_cases hk10 : k < 10
      · have q1 : (k : Int) ≤ 9 := by omega
        go_wp2_with fail
        refine (specArePairs _ (h.on RP.keeps hbw)).mono ?_
        rintro e w2 ⟨rfl, b2⟩
        rw [HK.out]
        have hown2 := own_below hown b2
        have hbw2 := hbw.trans (b2.mono hbw.size)
        have hS2 : Hid (Sl RI 1 w2 w2.heap.size A' k c' S) := by
          have := own_ints (xs := S) (by rw [hSl]; exact hown2) HSF.out
          obtain ⟨A2, n2, c2, e, hs⟩ := this
          injection e with e1 e2 e3
          subst e1 e2 e3
          exact hs
        clear hown hbw b2
        go_wp2
        go_loopw [3, 4, 5, 6] (fun vo va vb vc wr => ∃ v : Nat, v ≤ 10 ∧ va = .int .i64 v ∧ vo = .slice A' k c' ∧ Hid (∀ u : Nat, u < v → P.rdy l S u = false) ∧ w2 = wr) (fun _ va _ _ _ => 10 - (intOf va).toNat)
        case atStart => exact ⟨0, Nat.zero_le _, rfl, rfl, fun u hu => absurd hu (by omega), rfl⟩
        case round =>
          obtain ⟨v, hv, rfl, rfl, hno, rfl⟩ := hrel
          by_cases hv10 : v < 10
          · have q2 : (v : Int) ≤ 9 := by omega
            go_wp2_with (go_at_call 26; with_reducible (refine (l2Has _ hS2.out).mono ?_); rintro e w' ⟨rfl, rfl⟩)
            go_loopw [5, 6] (fun vb vc wr => ∃ i : Nat, i ≤ n ∧ vc = .int .i64 i ∧ vb = .bool (P.rdyK l S v i) ∧ w2 = wr) (fun _ vc _ => n - (intOf vc).toNat)
            case atStart => exact ⟨0, Nat.zero_le _, rfl, by rw [P.rdyK_zero], rfl⟩
            case round =>
              obtain ⟨i, hi', rfl, rfl, rfl⟩ := hrel
              by_cases hin : i < n
              · obtain ⟨b, o, p, rfl, hb, hx, hf1, hf2, g0, g1⟩ := pairAt h hin
                have e0 := ((cell_of hbw2) b (o + i * 2) hb).trans g0
                have e1 := ((cell_of hbw2) b (o + i * 2 + 1) hb).trans g1
                have HR := Lib.hid (P.rdyK_succ hx S v)
                clear hx g0 g1
                cases hr : P.rdyK l S v i with
                | false =>
                  go_wp2_with fail
                  go_roundw
                  case rel => exact ⟨i + 1, by omega, by go_num, by rw [HR.out, hr]; rfl, trivial⟩
                  case measure => simp [intOf]; omega
                | true =>
                  by_cases hp : p.2 = v
                  · have q3 : (p.2 != (v : Int)) = false := by simpa using hp
                    go_wp2_with (go_at_call 26; with_reducible (refine (l2Has _ hS2.out).mono ?_); rintro e w' ⟨rfl, rfl⟩)
                    go_roundw
                    case rel => exact ⟨i + 1, by omega, by go_num, by rw [HR.out, hr]; simp [hp], trivial⟩
                    case measure => simp [intOf]; omega
                  · have q3 : (p.2 != (v : Int)) = true := by simpa using hp
                    go_wp2_with fail
                    go_roundw
                    case rel => exact ⟨i + 1, by omega, by go_num, by rw [HR.out, hr]; simp [hp], trivial⟩
                    case measure => simp [intOf]; omega
              · have hii : i = n := by omega
                cases hr : P.rdyK l S v i with
                | false =>
                  have HNO := Lib.hid (P.later_of hr (by rw [HL.out, hii]) hno.out)
                  go_wp2
                  refine ⟨⟨v + 1, by omega, by go_num, rfl, HNO, trivial⟩, by simp [intOf]; omega⟩
                | true =>
                  have HST : Hid (P.lin l (k + 1) = S ++ [(v : Int)]) := by
                    show _ = _
                    rw [← HSk.out]
                    rw [← HSk.out] at hr
                    exact P.lin_step (P.first_of hr (by rw [HL.out, hii]) (by rw [HSk.out]; exact hno.out)) hv10
                  have hsz := hbw2.size
                  clear hS2
                  go_wp2_with (at_builtin; refine wpList_append_own _ rfl _ _ 32 rfl w.heap.size 3 i0 (.int .i64 0) 1 8 Try.underlying32 hi hz0 hz1 hz2 rfl (by decide) _ _ _ rfl (hown2.alloc _) ⟨w2.heap.size, 0, none⟩ 1 1 [_] rfl rfl (one_new _ _ _) (by simp [Value.oneCell']) (by unfold maxLen; omega) (by omega) (by simp; omega) ?_)
                  intro v' w4 hown4 hgrow _
                  have hbw4 := Lib.hid (app_below hbw2 hown2 hgrow)
                  have hown5 : Hid (w4.ownsRow w.heap.size 3 1 v' (k + 1) ((S ++ [(v : Int)]).map (Value.int .i64))) := by
                    refine Lib.hid ?_
                    simpa using hown4
                  clear hown4 hgrow hown2 hbw2
                  go_wp2
                  refine ⟨⟨k + 1, _, by omega, HST, hown5.out, hbw4.out⟩, by have h1 := own_len hown5.out; have h2 := HOL.out; omega⟩
          · exact (P.none_ready HK.out (S := S) (by omega) (fun u hu => hno.out u (by omega))).elim
      · have hkk : k = 10 := by omega
        rw [hkk] at hown
        have HO : Hid (OwnQ wo w.heap.size wo.heap.size (.slice A' k c') (P.linR l)) := by
          have e10 : P.lin l 10 = S := by rw [← HSk.out, hkk]
          rw [HE.out, e10, hkk]
          refine ⟨?_, own_und hown⟩
          rw [hSl, hkk]; exact hown
        clear h hown
        go_wp2
        go_ret
        exact ⟨_, rfl, HO.out, hbw⟩
theorem specLinearizeV {v : Value} {l : List (Int × Int)} (w : World) (h : V RP 2 w w.heap.size v l) : Calls Try.prog 14 #[v] w (RetQs w (P.linR l)) := by
  obtain ⟨A, n, c, rfl, hs⟩ := h
  exact specLinearize w hs
theorem rowL_at (r : Nat → Bool) {i : Nat} (hi : i < 10) : (rowL r)[i]? = some (.bool (r i)) := by unfold rowL; rw [List.getElem?_map, List.getElem?_range hi]; rfl
theorem rowL_set (r : Nat → Bool) {i : Nat} (hi : i < 10) (b : Bool) : (rowL r).set i (.bool b) = rowL fun j => if j = i then b else r j := by
  apply List.ext_getElem?
  intro t
  rw [List.getElem?_set]
  by_cases e : i = t
  · subst e
    rw [if_pos rfl, if_pos (by rw [rowL_len]; exact hi), rowL_at _ hi]; simp
  · rw [if_neg e]
    unfold rowL
    rw [List.getElem?_map, List.getElem?_map]
    rcases Nat.lt_or_ge t 10 with ht | ht
    · rw [List.getElem?_range ht]
      simp only [Option.map_some, Option.some.injEq, Value.bool.injEq]
      rw [if_neg (fun h => e h.symm)]
    · rw [List.getElem?_eq_none (by simpa using ht)]
      rfl
theorem rowL_ext {r r' : Nat → Bool} (h : ∀ j, j < 10 → r j = r' j) : rowL r = rowL r' := by
  unfold rowL
  apply List.map_congr_left
  intro j hj
  rw [h j (by simpa using hj)]
set_option maxHeartbeats 3200000 in
set_option maxRecDepth 100000 in
theorem implLinearize {A : Option Addr} {n c : Nat} {l : List (Int × Int)} (w : World) (h : Sl RP 2 w w.heap.size A n c l) : Calls Try.prog 12 #[.slice A n c] w (RetQs w (P.linR l)) := by
  obtain ⟨i0, hi, hz0, hz1, hz2⟩ := info_parts info_i1
  have hzero := zero_row
  have HL := Lib.hid h.len
  have mx1 := Nat.le_trans h.le h.max
  unfold maxLen at mx1
  have B0 := (Below.refl w.heap.size w).alloc (Nat.le_refl _) (.cells #[] 3)
  have H1 := h.on RP.keeps B0
  cases hok : P.okP l with
  | false =>
    have HE : Hid (P.linR l = []) := by show _ = _; unfold P.linR; rw [hok]; rfl
    go_enter Try.func12, Try.ntmps12
    go_wp2_with (go_at_call 8; refine (implArePairs _ H1).mono ?_; rintro e w2 ⟨rfl, b2⟩; rw [hok])
    go_ret
    have ho := own_below (own_emptyS w 3 1) b2
    refine ⟨_, rfl, ?_, B0.trans (b2.mono B0.size)⟩
    rw [HE.out]
    exact ⟨ho, own_und ho⟩
  | true =>
    have HE : Hid (P.linR l = P.lin l 10) := by show _ = _; unfold P.linR; rw [hok]; rfl
    have HK := Lib.hid hok
    have HIN := Lib.hid (P.okP_in hok)
    have hn8 : n ≤ 8 := by have := P.okP_len hok; have := HL.out; omega
    clear hok
    go_enter Try.func12, Try.ntmps12
    go_wp2_with fail
    refine (implArePairs _ H1).mono ?_
    rintro e w2 ⟨rfl, b2⟩
    rw [HK.out]
    have hownA := (own_below (own_emptyS w 3 1) b2).alloc (.cells (rowL fun _ => false).toArray 42)
    have hbwA := (B0.trans (b2.mono B0.size)).alloc (B0.trans (b2.mono B0.size)).size (.cells (rowL fun _ => false).toArray 42)
    have hrowA : Row (w2.alloc (.cells (rowL fun _ => false).toArray 42)) w2.heap.size 42 (rowL fun j => decide ((j : Int) ∈ ([] : List Int))) := by
      rw [rowL_ext (r := fun j => decide ((j : Int) ∈ ([] : List Int))) (r' := fun _ => false) (fun j _ => by simp)]
      exact Row.new _ _ _
    have hg2 : w.heap.size ≤ w2.heap.size := (B0.trans (b2.mono B0.size)).size
    obtain ⟨g, hg⟩ : ∃ g, w2.heap.size = g := ⟨_, rfl⟩
    clear b2 B0 H1
    go_wp2
    rw [hg] at hrowA hg2
    try simp only [hg]
    go_loopw [3, 5, 6, 8] (fun vo v5 v6 v8 wr => ∃ (k : Nat) (S : List Int), k ≤ 10 ∧ Hid (P.lin l k = S) ∧ wr.ownsRow w.heap.size 3 1 vo k (S.map (Value.int .i64)) ∧ Row wr g 42 (rowL fun j => decide ((j : Int) ∈ S)) ∧ Below w.heap.size w wr) (fun vo _ _ _ _ => 10 - sliceLen vo)
    case atStart => exact ⟨0, [], Nat.zero_le _, rfl, hownA, hrowA, hbwA⟩
    case round =>
      clear hownA hrowA hbwA
      obtain ⟨k, S, hk, HSk, hown, hrow, hbw⟩ := hrel
      have hSl : S.length = k := by rw [← HSk.out, P.lin_len]
      have HOL := Lib.hid (own_len hown)
      obtain ⟨wo, rfl⟩ : ∃ wo : World, wo = wr := ⟨_, rfl⟩
      obtain ⟨A', c', hv, _, _⟩ := own_form hown
      subst hv
      by_cases hk10 : k < 10
      · have q1 : (k : Int) ≤ 9 := by omega
        go_wp2
        go_loopw [3, 5, 6, 8, 17] (fun vo v5 v6 v8 v17 wr => ∃ v : Nat, v ≤ 10 ∧ v17 = .int .i64 v ∧ vo = .slice A' k c' ∧ Hid (∀ u : Nat, u < v → P.rdy l S u = false) ∧ wr.ownsRow w.heap.size 3 1 (.slice A' k c') k (S.map (Value.int .i64)) ∧ Row wr g 42 (rowL fun j => decide ((j : Int) ∈ S)) ∧ Below w.heap.size w wr) (fun _ _ _ _ v17 _ => 10 - (intOf v17).toNat)
        case atStart => exact ⟨0, Nat.zero_le _, rfl, rfl, fun u hu => absurd hu (by omega), hown, hrow, hbw⟩
        case round =>
          clear hown hrow hbw
          obtain ⟨v, hv, rfl, rfl, hno, hown, hrow, hbw⟩ := hrel
          obtain ⟨wv, rfl⟩ : ∃ wv : World, wv = wr := ⟨_, rfl⟩
          by_cases hv10 : v < 10
          · have q2 : (v : Int) < 10 := by omega
            have c0 := (hrow.cell v).trans (rowL_at _ hv10)
            have hlg := hrow.lt
            go_wp2
            go_loopw [6, 8, 26] (fun v6 v8 v26 wr => ∃ i : Nat, i ≤ n ∧ v26 = .int .i64 i ∧ v6 = .bool (P.rdyK l S v i) ∧ wr.ownsRow w.heap.size 3 1 (.slice A' k c') k (S.map (Value.int .i64)) ∧ Row wr g 42 (rowL fun j => decide ((j : Int) ∈ S)) ∧ Below w.heap.size w wr) (fun _ _ v26 _ => n - (intOf v26).toNat)
            case atStart => exact ⟨0, Nat.zero_le _, rfl, by rw [P.rdyK_zero], hown, hrow, hbw⟩
            case round =>
              clear hown hrow hbw c0 hlg
              obtain ⟨i, hi', rfl, rfl, hown, hrow, hbw⟩ := hrel
              have hsz := hbw.size
              have hlg := hrow.lt
              by_cases hin : i < n
              · obtain ⟨b, o, ⟨p1, p2⟩, rfl, hb, hx, hf1, hf2, g0, g1⟩ := pairAt h hin
                obtain ⟨⟨b1, b2⟩, ⟨b3, b4⟩⟩ := P.inP_mem HIN.out (List.mem_of_getElem? hx)
                simp only at b1 b2 b3 b4 g0 g1
                obtain ⟨j, rfl⟩ := Int.eq_ofNat_of_zero_le b1
                have e0 := ((cell_of hbw) b (o + i * 2) hb).trans g0
                have e1 := ((cell_of hbw) b (o + i * 2 + 1) hb).trans g1
                have HR := Lib.hid (P.rdyK_succ hx S v)
                have hj10 : j < 10 := by omega
                have q4 : (j : Int) < 10 := by omega
                have c1 := (hrow.cell j).trans (rowL_at _ hj10)
                have hgn : g ≠ wr.heap.size := by omega
                have hown1 := Lib.hid (hown.alloc (.cells #[.int .i64 (j : Int), .int .i64 p2] 29))
                have hrow1 := Lib.hid (hrow.alloc (.cells #[.int .i64 (j : Int), .int .i64 p2] 29))
                have hbw1 := Lib.hid (hbw.alloc hsz (.cells #[.int .i64 (j : Int), .int .i64 p2] 29))
                clear hx g0 g1 hown hrow hbw
                cases hr : P.rdyK l S v i with
                | false =>
                  go_wp2
                  go_roundw
                  case rel => exact ⟨i + 1, by omega, by go_num, by rw [HR.out, hr]; rfl, hown1.out, hrow1.out, hbw1.out⟩
                  case measure => simp [intOf]; omega
                | true =>
                  by_cases hp : p2 = v
                  · subst hp
                    have q3 : ((v : Int) != (v : Int)) = false := by simp
                    go_wp2
                    go_roundw
                    case rel => exact ⟨i + 1, by omega, by go_num, by rw [HR.out, hr]; simp, hown1.out, hrow1.out, hbw1.out⟩
                    case measure => simp [intOf]; omega
                  · have q3 : (p2 != (v : Int)) = true := by simpa using hp
                    go_wp2
                    go_roundw
                    case rel => exact ⟨i + 1, by omega, by go_num, by rw [HR.out, hr]; simp [hp], hown1.out, hrow1.out, hbw1.out⟩
                    case measure => simp [intOf]; omega
              · have hii : i = n := by omega
                cases hr : P.rdyK l S v i with
                | false =>
                  have HNO := Lib.hid (P.later_of hr (by rw [HL.out, hii]) hno.out)
                  go_wp2
                  refine ⟨⟨v + 1, by omega, by go_num, rfl, HNO, hown, hrow, hbw⟩, by simp [intOf]; omega⟩
                | true =>
                  have HST : Hid (P.lin l (k + 1) = S ++ [(v : Int)]) := by
                    show _ = _
                    rw [← HSk.out]
                    rw [← HSk.out] at hr
                    exact P.lin_step (P.first_of hr (by rw [HL.out, hii]) (by rw [HSk.out]; exact hno.out)) hv10
                  have c1 := (hrow.cell v).trans (rowL_at _ hv10)
                  have f1 := hrow.free v
                  have hne := own_row_ne hown hrow (by decide)
                  have hownS := own_chg hown ((Chg.refl (fun b => b = g) wr).setCell (p := ⟨g, v, none⟩) rfl (.bool true)) hne
                  have hrowS : Row (wr.setCell ⟨g, v, none⟩ (.bool true)) g 42 (rowL fun j => decide ((j : Int) ∈ S ++ [(v : Int)])) := by
                    have := hrow.set v (.bool true)
                    rw [rowL_set _ hv10] at this
                    rw [rowL_ext (r' := fun j => if j = v then true else decide ((j : Int) ∈ S)) (fun j _ => by
                      by_cases e : j = v
                      · subst e; simp
                      · have e' : ¬ ((j : Int) = v) := by omega
                        simp [e, e'])]
                    exact this
                  have hbwS := hbw.setCell (p := ⟨g, v, none⟩) hg2 (.bool true)
                  have hszS : w.heap.size ≤ wr.heap.size := hbw.size
                  clear hrow hown hbw
                  have hnew := one_new (wr.setCell ⟨g, v, none⟩ (.bool true)) (.int .i64 (v : Int)) 3
                  rw [show (wr.setCell ⟨g, v, none⟩ (.bool true)).heap.size = wr.heap.size by simp] at hnew
                  go_wp2_with (at_builtin; refine wpList_append_own _ rfl _ _ 32 rfl w.heap.size 3 i0 (.int .i64 0) 1 8 Try.underlying32 hi hz0 hz1 hz2 rfl (by decide) _ _ _ rfl (hownS.alloc _) ⟨wr.heap.size, 0, none⟩ 1 1 [_] rfl rfl hnew (by simp [Value.oneCell']) (by unfold maxLen; omega) (by omega) (by simp; omega) ?_)
                  intro v' w4 hown4 hgrow _
                  have hne2 := own_row_ne hownS hrowS (by decide)
                  have hrow4 := Lib.hid ((hrowS.alloc (.cells #[.int .i64 (v : Int)] 3)).grown hgrow (fun e => hne2 g e.symm rfl))
                  have hbw4 := Lib.hid (app_below hbwS hownS hgrow)
                  have hown5 : Hid (w4.ownsRow w.heap.size 3 1 v' (k + 1) ((S ++ [(v : Int)]).map (Value.int .i64))) := by
                    refine Lib.hid ?_
                    simpa using hown4
                  clear hown4 hgrow hownS hrowS hbwS hne hne2
                  go_wp2
                  refine ⟨⟨k + 1, _, by omega, HST, hown5.out, hrow4.out, hbw4.out⟩, by have h1 := own_len hown5.out; have h2 := HOL.out; omega⟩
          · exact (P.none_ready HK.out (S := S) (by omega) (fun u hu => hno.out u (by omega))).elim
      · have hkk : k = 10 := by omega
        rw [hkk] at hown
        have HO : Hid (OwnQ wo w.heap.size wo.heap.size (.slice A' k c') (P.linR l)) := by
          have e10 : P.lin l 10 = S := by rw [← HSk.out, hkk]
          rw [HE.out, e10, hkk]
          refine ⟨?_, own_und hown⟩
          rw [hSl, hkk]; exact hown
        clear h hown
        go_wp2
        go_ret
        exact ⟨_, rfl, HO.out, hbw⟩
theorem implLinearizeV {v : Value} {l : List (Int × Int)} (w : World) (h : V RP 2 w w.heap.size v l) : Calls Try.prog 12 #[v] w (RetQs w (P.linR l)) := by
  obtain ⟨A, n, c, rfl, hs⟩ := h
  exact implLinearize w hs
end Go.Proofs.Ytmglapndpcfafaa.Wk
