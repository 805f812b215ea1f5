/-
  Walks of chapter 3: ClosureOf.
  Conditions: none beyond the bounds that each states.
-/
import Derived.Test.YtmglapndpcfafaaW33
import Derived.Test.YtmglapndpcfafaaP15
import Derived.Test.YtmglapndpcfafaaM13
import Derived.Test.YtmglapndpcfafaaU5
namespace Go.Proofs.Ytmglapndpcfafaa.Wk
open Go.RowKit Go.Proofs.Ytmglapndpcfafaa.M
set_option linter.unusedVariables false
attribute [local go_sem] cell_grow

/-- It returns a list of pairs that the call laid. -/
def RetPs (w : World) (l : List (Int × Int)) (e : Ending) (w' : World) : Prop := ∃ v, e = .returned v ∧ w'.ownsRow w.heap.size 29 2 v l.length (prc l) ∧ Below w.heap.size w w'
theorem RetPs.read {w w' : World} {l : List (Int × Int)} {e : Ending} (h : RetPs w l e w') (hf : ∀ p ∈ l, Fit p.1 ∧ Fit p.2) : RetSl RP 2 w l e w' := by
  obtain ⟨v, he, ho, hb⟩ := h
  obtain ⟨A, n, c, rfl, hs⟩ := own_pairs ho hf
  exact ⟨A, n, c, he, hs, hb⟩
theorem closR_fit (l : List (Int × Int)) : ∀ p ∈ P.closR l, Fit p.1 ∧ Fit p.2 := by
  intro p hp
  unfold P.closR at hp
  split at hp
  · obtain ⟨⟨h1, h2⟩, ⟨h3, h4⟩, _⟩ := P.closC_mem hp
    unfold Fit; omega
  · simp at hp
theorem info_pair1 : (Try.prog.info? 29).map (fun i => (i.zero, i.size, i.bytes)) = some (some (.agg #[.int .i64 0, .int .i64 0]), 2, 16) := by kernel_rfl
set_option maxHeartbeats 3200000 in
set_option maxRecDepth 100000 in
theorem specClosureOf {A : Option Addr} {n c : Nat} {l : List (Int × Int)} (w : World) (h : Sl RP 2 w w.heap.size A n c l) : Calls Try.prog 7 #[.slice A n c] w (RetPs w (P.closR l)) := by
  obtain ⟨i0, hi, hz0, hz1, hz2⟩ := info_parts info_pair1
  have HL := Lib.hid h.len
  have B0 := (Below.refl w.heap.size w).alloc (Nat.le_refl _) (.cells #[] 29)
  cases hok : P.okP l with
  | false =>
    have HE : Hid (P.closR l = []) := by show _ = _; unfold P.closR; rw [hok]; rfl
    have H1 := h.on RP.keeps B0
    go_enter Try.func7, Try.ntmps7
    go_wp2
    go_loopw [3, 4, 5] (fun vo va vb wr => va = .int .i64 0 ∧ vo = .slice (some ⟨w.heap.size, 0, none⟩) 0 0 ∧ wr = w.alloc (.cells #[] 29)) (fun _ _ _ _ => 0)
    case atStart => exact ⟨rfl, rfl, rfl⟩
    case round =>
      obtain ⟨rfl, rfl, rfl⟩ := hrel
      go_wp2_with (go_at_call 9; refine (specArePairs _ H1).mono ?_; rintro e w2 ⟨rfl, b2⟩; rw [hok])
      go_ret
      refine ⟨_, rfl, ?_, B0.trans (b2.mono B0.size)⟩
      rw [HE.out]
      exact own_below (own_emptyS w 29 2) b2
  | true =>
    have HE : Hid (P.closR l = P.closC l 10) := by show _ = _; unfold P.closR; rw [hok]; rfl
    have hn8 : n ≤ 8 := by have := P.okP_len hok; have := HL.out; omega
    have HK := Lib.hid hok
    clear hok
    go_enter Try.func7, Try.ntmps7
    go_wp2
    go_loopw [3, 4, 5] (fun vo va vb wr => ∃ i m : Nat, i ≤ 10 ∧ va = .int .i64 i ∧ Hid ((P.closC l i).length = m) ∧ wr.ownsRow w.heap.size 29 2 vo m (prc (P.closC l i)) ∧ Below w.heap.size w wr) (fun _ va _ _ => 10 - (intOf va).toNat)
    case atStart => exact ⟨0, 0, Nat.zero_le _, rfl, rfl, own_emptyS w 29 2, B0⟩
    case round =>
      clear B0
      obtain ⟨i, m, hi', rfl, HM, hown, hbw⟩ := hrel
      obtain ⟨wo, rfl⟩ : ∃ wo : World, wo = wr := ⟨_, rfl⟩
      have hcl := P.closC_len l i
      by_cases hi10 : i < 10
      · have q1 : (i : Int) ≤ 9 := by omega
        go_wp2_with fail
        refine (specArePairs _ (h.on RP.keeps hbw)).mono ?_
        rintro e w2 ⟨rfl, b2⟩
        rw [HK.out]
        have hown2 := own_below hown b2
        have hbw2 := hbw.trans (b2.mono hbw.size)
        clear hown hbw b2
        go_wp2
        go_loopw [3, 5] (fun vo vb wr => ∃ j m : Nat, j ≤ 10 ∧ vb = .int .i64 j ∧ Hid ((P.closC l i ++ P.rowC l i j).length = m) ∧ wr.ownsRow w.heap.size 29 2 vo m (prc (P.closC l i ++ P.rowC l i j)) ∧ Below w.heap.size w wr) (fun _ vb _ => 10 - (intOf vb).toNat)
        case atStart => exact ⟨0, m, Nat.zero_le _, rfl, by show _ = _; simpa [P.rowC] using HM.out, by simpa [P.rowC] using hown2, hbw2⟩
        case round =>
          clear hown2 hbw2 HM
          obtain ⟨j, m, hj, rfl, HM, hown, hbw⟩ := hrel
          have hrl := P.rowC_len l i j
          by_cases hj10 : j < 10
          · have q2 : (j : Int) ≤ 9 := by omega
            cases hab : P.abv l i j with
            | false =>
              have HR : Hid (P.rowC l i (j + 1) = P.rowC l i j) := by show _ = _; rw [P.rowC, if_neg (by rw [hab]; simp)]
              go_wp2_with (go_at_call 22; refine (l3Reach _ (h.on RP.keeps hbw) hn8 (by unfold Fit; omega)).mono ?_; rintro e w3 ⟨rfl, b3⟩; rw [hab])
              go_roundw
              case rel => exact ⟨j + 1, m, by omega, by go_num, by show _ = _; rw [HR.out]; exact HM.out, by rw [HR.out]; exact own_below hown b3, hbw.trans (b3.mono hbw.size)⟩
              case measure => simp [intOf]; omega
            | true =>
              have HR : Hid (P.rowC l i (j + 1) = P.rowC l i j ++ [((i : Int), (j : Int))]) := by show _ = _; rw [P.rowC, if_pos hab]
              obtain ⟨A', c', rfl, _, _⟩ := own_form hown
              go_wp2_with fail
              refine (l3Reach _ (h.on RP.keeps hbw) hn8 (by unfold Fit; omega)).mono ?_
              rintro e w3 ⟨rfl, b3⟩
              rw [hab]
              have hown3 := own_below hown b3
              have hbw3 := hbw.trans (b3.mono hbw.size)
              have hsz3 := hbw3.size
              have hle : m ≤ 110 := by have := HM.out; rw [List.length_append] at this; omega
              have HM2 : Hid ((P.closC l i ++ P.rowC l i (j + 1)).length = m + 1) := by show _ = _; rw [HR.out, ← List.append_assoc, List.length_append, HM.out]; rfl
              clear hown hbw b3
              go_wp2_with (at_builtin; refine wpList_append_own _ rfl _ _ 24 rfl w.heap.size 29 i0 (.agg #[.int .i64 0, .int .i64 0]) 2 16 Try.underlying24 hi hz0 hz1 hz2 rfl (by decide) _ _ _ rfl (hown3.alloc _) ⟨w3.heap.size, 0, none⟩ 1 1 [_, _] rfl rfl (cell_two_new _ _ _ _) (by simp [Value.oneCell']) (by unfold maxLen; omega) (by omega) (by simp; omega) ?_)
              intro v' w4 hown4 hgrow _
              have hbw4 := Lib.hid (app_below hbw3 hown3 hgrow)
              have hown5 : Hid (w4.ownsRow w.heap.size 29 2 v' (m + 1) (prc (P.closC l i ++ P.rowC l i (j + 1)))) := by
                refine Lib.hid ?_
                rw [HR.out, ← List.append_assoc, prc_snoc]
                simpa using hown4
              clear hown4 hgrow hown3 hbw3
              go_wp2
              go_roundw
              case rel => exact ⟨j + 1, m + 1, by omega, by go_num, HM2, hown5.out, hbw4.out⟩
              case measure => simp [intOf]; omega
          · have HC : Hid (P.closC l i ++ P.rowC l i j = P.closC l (i + 1)) := by
              show _ = _
              rw [P.closC, show j = 10 by omega]
            have HM3 := HM.out
            rw [HC.out] at hown HM3
            have HM4 := Lib.hid HM3
            clear HM3
            go_wp2
            refine ⟨⟨i + 1, m, by omega, by go_num, HM4, hown, hbw⟩, by simp [intOf]; omega⟩
      · have hii : i = 10 := by omega
        have HM3 := HM.out
        obtain ⟨A', c', hv, _, _⟩ := own_form hown
        subst hv
        rw [hii] at hown HM3
        have HO : Hid (wo.ownsRow w.heap.size 29 2 (.slice A' m c') (P.closR l).length (prc (P.closR l))) := by rw [HE.out, HM3]; exact hown
        clear h hown
        go_wp2
        go_ret
        exact ⟨_, rfl, HO.out, hbw⟩
theorem info_row : (Try.prog.info? 42).map (·.size) = some 10 := by kernel_rfl
theorem rowL_len (r : Nat → Bool) : (rowL r).length = 10 := by simp [rowL]
theorem zero_row (w : World) : (zeroValue 42).run Try.prog w = .ok (.agg (rowL fun _ => false).toArray) w := by kernel_rfl
theorem sz_row (r : Nat → Bool) : (Try.prog.info? 42).map (·.size) = some (rowL r).length := by rw [rowL_len]; exact info_row
theorem rowL_one (r : Nat → Bool) : (rowL r).toArray.all (·.oneCell') = true := by
  refine Array.all_eq_true_iff_forall_mem.2 fun v hv => ?_
  simp [rowL] at hv
  obtain ⟨t, _, rfl⟩ := hv
  rfl
set_option maxHeartbeats 3200000 in
set_option maxRecDepth 100000 in
theorem implClosureOf {A : Option Addr} {n c : Nat} {l : List (Int × Int)} (w : World) (h : Sl RP 2 w w.heap.size A n c l) : Calls Try.prog 6 #[.slice A n c] w (RetPs w (P.closR l)) := by
  obtain ⟨i0, hi, hz0, hz1, hz2⟩ := info_parts info_pair1
  have hzero := zero_row
  have B0 := (Below.refl w.heap.size w).alloc (Nat.le_refl _) (.cells #[] 29)
  have H1 := h.on RP.keeps B0
  cases hok : P.okP l with
  | false =>
    have HE : Hid (P.closR l = []) := by show _ = _; unfold P.closR; rw [hok]; rfl
    go_enter Try.func6, Try.ntmps6
    go_wp2_with (go_at_call 8; refine (implArePairs _ H1).mono ?_; rintro e w2 ⟨rfl, b2⟩; rw [hok])
    go_ret
    refine ⟨_, rfl, ?_, B0.trans (b2.mono B0.size)⟩
    rw [HE.out]
    show World.ownsRow _ _ _ _ (.slice (some ⟨w.heap.size, 0, none⟩) 0 0) _ _
    exact own_below (own_emptyS w 29 2) b2
  | true =>
    have HE : Hid (P.closR l = P.closC l 10) := by show _ = _; unfold P.closR; rw [hok]; rfl
    have HIN := Lib.hid (P.okP_in hok)
    go_enter Try.func6, Try.ntmps6
    go_wp2_with fail
    refine (implArePairs _ H1).mono ?_
    rintro e w2 ⟨rfl, b2⟩
    rw [hok]
    go_wp2_with fail
    refine (above _ (H1.on RP.keeps b2) HIN.out).mono ?_
    rintro e w3 ⟨rfl, b3⟩
    have hown3 := own_below (own_below (own_emptyS w 29 2) b2) b3
    have hbw3 := (B0.trans (b2.mono B0.size)).trans (b3.mono (B0.trans (b2.mono B0.size)).size)
    clear b2 b3 H1 B0 hok h
    go_wp2
    go_loopw [3, 4, 5, 6, 7, 15] (fun vo v4 v5 v6 v7 vi wr => ∃ i m : Nat, i ≤ 10 ∧ vi = .int .i64 i ∧ Hid ((P.closC l i).length = m) ∧ wr.ownsRow w.heap.size 29 2 vo m (prc (P.closC l i)) ∧ Below w.heap.size w wr) (fun _ _ _ _ _ vi _ => 10 - (intOf vi).toNat)
    case atStart => exact ⟨0, 0, Nat.zero_le _, rfl, rfl, hown3, hbw3⟩
    case round =>
      clear hown3 hbw3
      obtain ⟨i, m, hi', rfl, HM, hown, hbw⟩ := hrel
      obtain ⟨wo, rfl⟩ : ∃ wo : World, wo = wr := ⟨_, rfl⟩
      have hcl := P.closC_len l i
      by_cases hi10 : i < 10
      · have q1 : (i : Int) < 10 := by omega
        have x1 := fun w => ix_tab (fun x y => P.abv l x y) w i hi10
        have r0 := Row.new wo 42 (rowL fun _ => false)
        have hsz := hbw.size
        have HB0 := hbw.alloc hsz (.cells (rowL fun _ => false).toArray 42)
        have HO0 := hown.alloc (.cells (rowL fun _ => false).toArray 42)
        obtain ⟨A', c', hv, _, _⟩ := own_form hown
        subst hv
        clear hbw
        go_wp2_with (first | (refine store_row (by rfl) 42 _ _ (by rfl) wo.heap.size (rowL fun y => P.abv l i y) _ 42 (by rfl) (by rfl) r0 (sz_row _) (by rw [rowL_len, rowL_len]) (rowL_one _) ?_; intro w9 r9 hg9) | (refine wpList_load_row (by rfl) 42 _ (by rfl) wo.heap.size (by rfl) 42 _ (0, 0) _ r9.is Try.underlying42 (by rfl) (by simpa using sz_row _) ?_))
        have hg1 : ∀ g, (Value.slice A' m c').ownBlock = some g → some g ≠ some wo.heap.size := fun g hg hh => by
          injection hh with hh
          have := (hown.lt g hg).2
          omega
        have HO9 := own_grown HO0 hg9 hg1
        have hb9 := HB0.grown hg9 HB0.size (fun k hk => by injection hk with hk; omega)
        clear HO0 HB0 hg9 r0 r9 hg1 hown x1
        go_loopw [3, 6, 7, 20] (fun vo v6 v7 vj wr => ∃ j m : Nat, j ≤ 10 ∧ vj = .int .i64 j ∧ Hid ((P.closC l i ++ P.rowC l i j).length = m) ∧ wr.ownsRow w.heap.size 29 2 vo m (prc (P.closC l i ++ P.rowC l i j)) ∧ Below w.heap.size w wr) (fun _ _ _ vj _ => 10 - (intOf vj).toNat)
        case atStart => exact ⟨0, m, Nat.zero_le _, rfl, by show _ = _; simpa [P.rowC] using HM.out, by simpa [P.rowC] using HO9, hb9⟩
        case round =>
          clear HO9 hb9 HM
          obtain ⟨j, m, hj, rfl, HM, hown, hbw⟩ := hrel
          have hrl := P.rowC_len l i j
          have hsz := hbw.size
          by_cases hj10 : j < 10
          · have q2 : (j : Int) < 10 := by omega
            have x2 := fun w => ix_row (fun y : Nat => P.abv l i y) w j hj10
            cases hab : P.abv l i j with
            | false =>
              simp only [hab] at x2
              have HR : Hid (P.rowC l i (j + 1) = P.rowC l i j) := by show _ = _; rw [P.rowC, if_neg (by rw [hab]; simp)]
              go_wp2
              go_roundw
              case rel => exact ⟨j + 1, m, by omega, by go_num, by show _ = _; rw [HR.out]; exact HM.out, by rw [HR.out]; exact hown, hbw⟩
              case measure => simp [intOf]; omega
            | true =>
              simp only [hab] at x2
              have HR : Hid (P.rowC l i (j + 1) = P.rowC l i j ++ [((i : Int), (j : Int))]) := by show _ = _; rw [P.rowC, if_pos hab]
              obtain ⟨A2, c2, rfl, _, _⟩ := own_form hown
              have hle : m ≤ 110 := by have := HM.out; rw [List.length_append] at this; omega
              have HM2 : Hid ((P.closC l i ++ P.rowC l i (j + 1)).length = m + 1) := by show _ = _; rw [HR.out, ← List.append_assoc, List.length_append, HM.out]; rfl
              go_wp2_with (at_builtin; refine wpList_append_own _ rfl _ _ 24 rfl w.heap.size 29 i0 (.agg #[.int .i64 0, .int .i64 0]) 2 16 Try.underlying24 hi hz0 hz1 hz2 rfl (by decide) _ _ _ rfl (hown.alloc _) ⟨wr.heap.size, 0, none⟩ 1 1 [_, _] rfl rfl (cell_two_new _ _ _ _) (by simp [Value.oneCell']) (by unfold maxLen; omega) (by omega) (by simp; omega) ?_)
              intro v' w4 hown4 hgrow _
              have hbw4 := Lib.hid (app_below hbw hown hgrow)
              have hown5 : Hid (w4.ownsRow w.heap.size 29 2 v' (m + 1) (prc (P.closC l i ++ P.rowC l i (j + 1)))) := by
                refine Lib.hid ?_
                rw [HR.out, ← List.append_assoc, prc_snoc]
                simpa using hown4
              clear hown4 hgrow hown hbw
              go_wp2
              go_roundw
              case rel => exact ⟨j + 1, m + 1, by omega, by go_num, HM2, hown5.out, hbw4.out⟩
              case measure => simp [intOf]; omega
          · have HC : Hid (P.closC l i ++ P.rowC l i j = P.closC l (i + 1)) := by
              show _ = _
              rw [P.closC, show j = 10 by omega]
            have HM3 := HM.out
            rw [HC.out] at hown HM3
            have HM4 := Lib.hid HM3
            clear HM3
            go_wp2
            refine ⟨⟨i + 1, m, by omega, by go_num, HM4, hown, hbw⟩, by simp [intOf]; omega⟩
      · have hii : i = 10 := by omega
        have HM3 := HM.out
        obtain ⟨A', c', hv, _, _⟩ := own_form hown
        subst hv
        rw [hii] at hown HM3
        have HO : Hid (wo.ownsRow w.heap.size 29 2 (.slice A' m c') (P.closR l).length (prc (P.closR l))) := by rw [HE.out, HM3]; exact hown
        clear hown
        go_wp2
        go_ret
        exact ⟨_, rfl, HO.out, hbw⟩
theorem specClosureOfV {v : Value} {l : List (Int × Int)} (w : World) (h : V RP 2 w w.heap.size v l) : Calls Try.prog 7 #[v] w (RetPP w (P.closR l)) := by
  obtain ⟨A, n, c, rfl, hs⟩ := h
  exact (specClosureOf w hs).mono fun e w' ⟨v, he, ho, hb⟩ => ⟨v, he, ⟨ho, own_und ho⟩, hb⟩
theorem implClosureOfV {v : Value} {l : List (Int × Int)} (w : World) (h : V RP 2 w w.heap.size v l) : Calls Try.prog 6 #[v] w (RetPP w (P.closR l)) := by
  obtain ⟨A, n, c, rfl, hs⟩ := h
  exact (implClosureOf w hs).mono fun e w' ⟨v, he, ho, hb⟩ => ⟨v, he, ⟨ho, own_und ho⟩, hb⟩
end Go.Proofs.Ytmglapndpcfafaa.Wk
