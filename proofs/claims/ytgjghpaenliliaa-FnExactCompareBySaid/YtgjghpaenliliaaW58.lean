/-
  Walks of chapter 5: CompareBy.
  Conditions: none beyond the bounds that each states.
-/
import Derived.Test.YtgjghpaenliliaaW52
import Derived.Test.YtgjghpaenliliaaW44
import Derived.Test.YtgjghpaenliliaaP17
import Derived.Test.YtgjghpaenliliaaM13
import Derived.Test.YtgjghpaenliliaaM11
namespace Go.Proofs.Ytgjghpaenliliaa.Wk
open Go.RowKit Go.Proofs.Ytgjghpaenliliaa.M
set_option linter.unusedVariables false
attribute [local go_sem] cell_grow

theorem info_i3 : (Try.prog.info? 3).map (fun i => (i.zero, i.size, i.bytes)) = some (some (.int .i64 0), 1, 8) := by kernel_rfl
theorem set_sameL {α : Type} {l : List α} {i : Nat} {x : α} (h : l[i]? = some x) : l.set i x = l := by
  apply List.ext_getElem?
  intro t
  rw [List.getElem?_set]
  by_cases e : i = t
  · subst e
    rw [if_pos rfl, if_pos (List.getElem?_eq_some_iff.1 h).1, h]
  · rw [if_neg e]
/-- The first m elements of a row of the call's own. -/
theorem own_take {w : World} {base E n c m : Nat} {A : Option Addr} {xs : List Value} (h : w.ownsRow base E 1 (.slice A n c) n xs) (hm : m ≤ n) (hn : 0 < n) : w.ownsRow base E 1 (.slice A m c) m (xs.take m) := by
  obtain ⟨g, c', cs, e, hb, h1, h2, hR, hL⟩ := own_row h hn
  injection e with e1 _ e3
  subst e1 e3
  have hxl : xs.length = n := by have := h.1; omega
  have e2 : xs ++ cs = xs.take m ++ (xs.drop m ++ cs) := by rw [← List.append_assoc, List.take_append_drop]
  rw [e2] at hR hL
  exact row_own hR (by rw [List.length_take]; omega) hb (by omega) h2 hL
set_option maxHeartbeats 1600000 in
theorem l5Pareto {a b : Int} (w : World) (ha : -1 ≤ a ∧ a ≤ 2) (hb : -1 ≤ b ∧ b ≤ 2) : Calls Try.prog 95 #[.int .i64 a, .int .i64 b] w fun e w' => e = .returned (.int .i64 (P.comb 1 a b)) ∧ w = w' := by
  rcases (by omega : a = -1 ∨ a = 0 ∨ a = 1 ∨ a = 2) with rfl | rfl | rfl | rfl <;> rcases (by omega : b = -1 ∨ b = 0 ∨ b = 1 ∨ b = 2) with rfl | rfl | rfl | rfl <;>
  · go_enter Try.func95, Try.ntmps95
    go_wp2
    go_ret
    exact ⟨rfl, rfl⟩
set_option maxHeartbeats 1600000 in
theorem l5Meet {a b : Int} (w : World) (ha : -1 ≤ a ∧ a ≤ 2) (hb : -1 ≤ b ∧ b ≤ 2) : Calls Try.prog 96 #[.int .i64 a, .int .i64 b] w fun e w' => e = .returned (.int .i64 (P.comb 4 a b)) ∧ w = w' := by
  rcases (by omega : a = -1 ∨ a = 0 ∨ a = 1 ∨ a = 2) with rfl | rfl | rfl | rfl <;> rcases (by omega : b = -1 ∨ b = 0 ∨ b = 1 ∨ b = 2) with rfl | rfl | rfl | rfl <;>
  · go_enter Try.func96, Try.ntmps96
    go_wp2
    go_ret
    exact ⟨rfl, rfl⟩
set_option maxHeartbeats 1600000 in
theorem l5Op {op a b : Int} (w : World) (hop : op = 1 ∨ op = 2 ∨ op = 4) (ha : -1 ≤ a ∧ a ≤ 2) (hb : -1 ≤ b ∧ b ≤ 2) : Calls Try.prog 70 #[.int .i64 op, .int .i64 a, .int .i64 b] w fun e w' => e = .returned (.int .i64 (P.comb op a b)) ∧ w = w' := by
  rcases hop with rfl | rfl | rfl
  · go_enter Try.func70, Try.ntmps70
    go_wp2_with (go_at_call 95; refine (l5Pareto _ ha hb).mono ?_; rintro e w' ⟨rfl, rfl⟩)
    go_ret
    exact ⟨rfl, rfl⟩
  · by_cases h : a = 0
    · have q : (a != 0) = false := by simpa using h
      have HE : Hid (P.comb 2 a b = b) := by show _ = _; unfold P.comb; simp [h]
      clear h
      go_enter Try.func70, Try.ntmps70
      go_wp2
      go_ret
      exact ⟨ret_int HE.out.symm, rfl⟩
    · have q : (a != 0) = true := by simpa using h
      have HE : Hid (P.comb 2 a b = a) := by show _ = _; unfold P.comb; simp [h]
      clear h
      go_enter Try.func70, Try.ntmps70
      go_wp2
      go_ret
      exact ⟨ret_int HE.out.symm, rfl⟩
  · go_enter Try.func70, Try.ntmps70
    go_wp2_with (go_at_call 96; refine (l5Meet _ ha hb).mono ?_; rintro e w' ⟨rfl, rfl⟩)
    go_ret
    exact ⟨rfl, rfl⟩
set_option maxHeartbeats 3200000 in
theorem combined {op a b : Int} (w : World) (hop : op = 1 ∨ op = 2 ∨ op = 4) (ha : -1 ≤ a ∧ a ≤ 2) (hb : -1 ≤ b ∧ b ≤ 2) : Calls Try.prog 73 #[.int .i64 op, .int .i64 a, .int .i64 b] w fun e w' => e = .returned (.int .i64 (P.comb op a b)) ∧ w = w' := by
  rcases hop with rfl | rfl | rfl <;> rcases (by omega : a = -1 ∨ a = 0 ∨ a = 1 ∨ a = 2) with rfl | rfl | rfl | rfl <;> rcases (by omega : b = -1 ∨ b = 0 ∨ b = 1 ∨ b = 2) with rfl | rfl | rfl | rfl <;>
  · go_enter Try.func73, Try.ntmps73
    go_wp2
    go_ret
    exact ⟨rfl, rfl⟩
set_option maxHeartbeats 6400000 in
set_option maxRecDepth 100000 in
theorem specWalk {A A1 A2 : Option Addr} {n c n1 c1 n2 c2 : Nat} {l : List Nd} {x y : It} (w : World) (h : Sl RN 6 w w.heap.size A n c l) (hx1 : Sl RI 1 w w.heap.size A1 n1 c1 x.vals) (fx : Fit x.id) (hy1 : Sl RI 1 w w.heap.size A2 n2 c2 y.vals) (fy : Fit y.id) (hE : P.okE l = true) (hox : P.okI x = true) (hoy : P.okI y = true) :
    Calls Try.prog 34 #[.slice A n c, .agg #[.int .i64 x.id, .slice A1 n1 c1], .agg #[.int .i64 y.id, .slice A2 n2 c2]] w fun e w' => e = .returned (.int .i64 (P.evE l x y)) ∧ Below w.heap.size w w' := by
  obtain ⟨i0, hi, hz0, hz1, hz2⟩ := info_parts info_i3
  have HL := Lib.hid h.len
  have HE := Lib.hid hE
  have hn9 : n ≤ 9 := by have := (P.okE_len hE).1; have := HL.out; omega
  have hle := h.le
  have hmx := h.max
  unfold maxLen at hmx
  have B2 := ((Below.refl w.heap.size w).alloc (Nat.le_refl _) (.cells #[.int .i64 x.id, .slice A1 n1 c1] 34)).alloc (by simp) (.cells #[.int .i64 y.id, .slice A2 n2 c2] 34)
  have R0 := Lib.hid ((Row.new w 34 [.int .i64 x.id, .slice A1 n1 c1]).alloc (.cells #[.int .i64 y.id, .slice A2 n2 c2] 34))
  have R1 : Hid (Row ((w.alloc (.cells #[.int .i64 x.id, .slice A1 n1 c1] 34)).alloc (.cells #[.int .i64 y.id, .slice A2 n2 c2] 34)) (w.heap.size + 1) 34 [.int .i64 y.id, .slice A2 n2 c2]) := by
    have := Row.new (w.alloc (.cells #[.int .i64 x.id, .slice A1 n1 c1] 34)) 34 [.int .i64 y.id, .slice A2 n2 c2]
    rw [World.size_alloc] at this
    exact this
  have hs2 : ((w.alloc (.cells #[.int .i64 x.id, .slice A1 n1 c1] 34)).alloc (.cells #[.int .i64 y.id, .slice A2 n2 c2] 34)).heap.size = w.heap.size + 1 + 1 := by simp
  have HOX := Lib.hid hox
  have HOY := Lib.hid hoy
  have HXS := Lib.hid hx1
  have HYS := Lib.hid hy1
  clear hE hox hoy hx1 hy1
  obtain ⟨W2, hW2⟩ : ∃ W2, (w.alloc (.cells #[.int .i64 x.id, .slice A1 n1 c1] 34)).alloc (.cells #[.int .i64 y.id, .slice A2 n2 c2] 34) = W2 := ⟨_, rfl⟩
  have HB2 : Hid (Below w.heap.size w W2) := by rw [← hW2]; exact B2
  have HR0 : Hid (Row W2 w.heap.size 34 [.int .i64 x.id, .slice A1 n1 c1]) := by rw [← hW2]; exact R0.out
  have HR1 : Hid (Row W2 (w.heap.size + 1) 34 [.int .i64 y.id, .slice A2 n2 c2]) := by rw [← hW2]; exact R1.out
  have hs3 : W2.heap.size = w.heap.size + 1 + 1 := by rw [← hW2]; exact hs2
  have HOWN : Hid ((W2.alloc (.cells #[] 3)).ownsRow (w.heap.size + 1 + 1) 3 1 (.slice (some ⟨w.heap.size + 1 + 1, 0, none⟩) 0 0) 0 []) := by
    have := own_emptyS W2 3 1
    rw [hs3] at this; exact this
  have HBE : Hid (Below (w.heap.size + 1 + 1) W2 (W2.alloc (.cells #[] 3))) := (Below.refl _ _).alloc (by omega) _
  clear B2 R0 R1 hs2
  go_enter Try.func34, Try.ntmps34
  go_wp2
  go_loopw [7, 8, 9, 10, 11] (fun vs vi v9 v10 v11 wr => ∃ (k d : Nat) (s : List Int), k ≤ n ∧ vi = .int .i64 k ∧ Hid (P.Dep l k d) ∧ Hid (P.runE x y l k = s) ∧ d ≤ k ∧ wr.ownsRow (w.heap.size + 1 + 1) 3 1 vs d (s.map (Value.int .i64)) ∧ Below (w.heap.size + 1 + 1) W2 wr) (fun _ vi _ _ _ _ => n - (intOf vi).toNat)
  case atStart => exact ⟨0, 0, [], Nat.zero_le _, rfl, P.dep_zero l, rfl, Nat.le_refl _, HOWN.out, HBE.out⟩
  case round =>
    clear HOWN HBE hW2
    obtain ⟨k, d, s, hk, rfl, HD, HS, hdk, hown, hb2⟩ := hrel
    have hsz2 := hb2.size
    have hbw := HB2.out.trans (hb2.mono (by omega))
    have hsz : w.heap.size + 1 + 1 ≤ wr.heap.size := by omega
    by_cases hlt : k < n
    · obtain ⟨b, o, nd, A3, n3, c3, E3, m3, d3, rfl, hb, hx, hf, hs, ht1, g0, g1, g2, g3, g4, g5⟩ := nodeAt h hlt
      obtain ⟨hokn, d', hd', hopd⟩ := P.okE_at HE.out hx
      obtain rfl := P.dep_unique HD.out hd'
      have hsl : s.length = d := by rw [← HS.out]; exact P.runE_len (by have := HL.out; omega) HD.out HE.out
      have HIV : Hid (P.InV s) := by rw [← HS.out]; exact P.InV.run x y l k
      have HD2 := Lib.hid (P.dep_step HD.out hx hokn hopd)
      have HS2 : Hid (P.runE x y l (k + 1) = P.stepE x y nd s) := by show _ = _; rw [P.runE_succ hx, HS.out]
      obtain ⟨f0, f1, f2, f3⟩ := hf
      have i1 : b < wr.heap.size := by omega
      have q1 : (k : Int) < (n : Int) := by omega
      have q2 : (n : Int) ≤ (c : Int) := by omega
      have e0 := ((cell_of hbw) b (o + k * 6) hb).trans g0
      have e1 := ((cell_of hbw) b (o + k * 6 + 1) hb).trans g1
      have e2 := ((cell_of hbw) b (o + k * 6 + 2) hb).trans g2
      have e3 := ((cell_of hbw) b (o + k * 6 + 3) hb).trans g3
      have e4 := ((cell_of hbw) b (o + k * 6 + 4) hb).trans g4
      have e5 := ((cell_of hbw) b (o + k * 6 + 5) hb).trans g5
      have hop := P.okE_at HE.out hx |>.1
      have hop4 : 0 ≤ nd.op ∧ nd.op ≤ 4 := by
        unfold P.okN at hop
        rw [Bool.and_eq_true] at hop
        exact P.inR_t hop.1
      have HN1 := Lib.hid (hs.on RI.keeps hbw)
      have HN2 := Lib.hid (ht1.on RP.keeps hbw)
      have HO := Lib.hid hown
      have HB3 := Lib.hid hb2
      have HBW := Lib.hid hbw
      obtain ⟨A', c', hv, hdc, hcm⟩ := own_form hown
      subst hv
      clear g0 g1 g2 g3 g4 g5 hs ht1
      by_cases hp0 : nd.op = 0
      · have q0 : (nd.op == 0) = true := by simpa using hp0
        have HST : Hid (P.stepE x y nd s = s ++ [P.cmpIs nd.wish x y]) := P.stepE_0 hp0 s
        have hdd : d + 1 - P.opnds nd.op = d + 1 := by rw [hp0]; rfl
        rw [hdd] at HD2
        have HW : Hid (P.okW nd.wish = true) := by
          show _ = _
          rw [← P.okN_0 hp0]; exact hop
        obtain ⟨p0, p2⟩ := P.okW_field HW.out
        obtain ⟨L1, va, hxa, hva⟩ := okI_val HOX.out (show nd.wish.field.toNat ≤ 2 by omega)
        obtain ⟨L2, vb, hxb, hvb⟩ := okI_val HOY.out (show nd.wish.field.toNat ≤ 2 by omega)
        have hC : Hid (P.cmpIs nd.wish x y = P.cmpV nd.wish va vb) := by
          show _ = _
          unfold P.cmpIs
          rw [HW.out, HOX.out, HOY.out]
          simp [List.getD, hxa, hxb]
        obtain ⟨ba, oa, va', ea, hba, hxa', _, ca⟩ := HXS.out.int (k := nd.wish.field.toNat) (by have := HXS.out.len; omega)
        obtain ⟨bb, ob, vb', eb, hbb, hxb', _, cb⟩ := HYS.out.int (k := nd.wish.field.toNat) (by have := HYS.out.len; omega)
        obtain rfl : va' = va := by rw [hxa] at hxa'; injection hxa' with hxa'; exact hxa'.symm
        obtain rfl : vb' = vb := by rw [hxb] at hxb'; injection hxb' with hxb'; exact hxb'.symm
        have n13 : n1 = 3 := by have := HXS.out.len; omega
        have n23 : n2 = 3 := by have := HYS.out.len; omega
        have d0 := (HR0.out.below hb2 (by omega)).cell 1
        have d1 := (HR1.out.below hb2 (by omega)).cell 1
        simp at d0 d1
        rw [ea] at d0
        rw [eb] at d1
        have da := ((cell_of hbw) ba (oa + nd.wish.field.toNat) hba).trans ca
        have db := ((cell_of hbw) bb (ob + nd.wish.field.toNat) hbb).trans cb
        have ua : ba < wr.heap.size := by omega
        have ub : bb < wr.heap.size := by omega
        have uc : w.heap.size < wr.heap.size := by omega
        have ud : w.heap.size + 1 < wr.heap.size := by omega
        have q4 : nd.wish.field < (n1 : Int) := by omega
        have q5 : nd.wish.field < (n2 : Int) := by omega
        have q6 : (0 : Int) ≤ nd.wish.field := by omega
        have q7 : (n1 : Int) ≤ (c1 : Int) := by have := HXS.out.le; omega
        have q8 : (n2 : Int) ≤ (c2 : Int) := by have := HYS.out.le; omega
        clear hx hxa hxb hxa' hxb' hp0 hop hopd hokn hd' L1 L2 ca cb p0 p2 hown ea eb n13 n23
        go_wp2_with fail
        refine wp_region_mt 16 _ (by kernel_rfl) rfl rfl (fun _ _ _ _ h => h) (by kernel_rfl) ?_; simp only [List.take_succ_cons, List.take_zero, List.drop_succ_cons, List.drop_zero, Act.put, Act.eval, List.setIfInBounds_toArray, List.set_cons_zero, List.set_cons_succ, Array.getD_eq_getD_getElem?, List.getElem?_toArray, List.getElem?_cons_succ, List.getElem?_cons_zero, Option.getD_some]; (repeat (go_big_quiet_step ((go_at_call 69; exact quietB (l4Compare _ (HN1.out.gr RI.keeps _ _) (HN2.out.gr RP.keeps _ _) HW.out hva hvb))))); refine wpQuiet_nil ?_; intro w8 hb8
        have hown8 := own_below HO.out hb8
        have hb28 := HB3.out.trans (hb8.mono hsz)
        have hsz8 : w.heap.size + 1 + 1 ≤ w8.heap.size := by have := hb8.size; omega
        clear hb8
        go_wp2_with (at_builtin; refine wpList_append_own _ rfl _ _ 29 rfl (w.heap.size + 1 + 1) 3 i0 (.int .i64 0) 1 8 Try.underlying29 hi hz0 hz1 hz2 rfl (by decide) _ _ _ rfl (hown8.alloc _) ⟨w8.heap.size, 0, none⟩ 1 1 [_] rfl rfl (one_new _ _ _) (by simp [Value.oneCell']) (by unfold maxLen; omega) (by omega) (by simp; omega) ?_)
        intro v' w4 hown4 hgrow _
        have hb24 := Lib.hid ((hb28.alloc hsz8 (.cells #[.int .i64 (P.cmpV nd.wish va' vb')] 3)).grown hgrow (by simp; omega) (fun k hk => (hown8.lt k hk).1))
        have hown5 : Hid (w4.ownsRow (w.heap.size + 1 + 1) 3 1 v' (d + 1) ((P.stepE x y nd s).map (Value.int .i64))) := by
          refine Lib.hid ?_
          rw [HST.out, hC.out]
          simpa using hown4
        clear hown4 hgrow hown8 hb28
        go_wp2
        go_roundw
        case rel =>
          exact ⟨k + 1, d + 1, _, by omega, by go_num, HD2, HS2, by omega, hown5.out, hb24.out⟩
        case measure => simp [intOf]; omega
      · have q0 : (nd.op == 0) = false := by simpa using hp0
        have hd0 : 0 < d := by
          have : 0 < P.opnds nd.op := by unfold P.opnds; rw [if_neg hp0]; split <;> omega
          omega
        obtain ⟨g, c'', cs, ee, hgb, hn1, hn2, hR, hLL⟩ := own_row hown hd0
        injection ee with ee1 ee2 ee3
        subst ee1 ee3
        have hgl : g < wr.heap.size := hR.lt
        have hgl0 : g < wr.heap.size := (hown.lt g rfl).2
        have hmx2 := hn2
        unfold maxLen at hmx2
        have lz : s.length - 1 = d - 1 := by omega
        have ly : s.length - 2 = d - 2 := by omega
        obtain ⟨a1, ha1⟩ : ∃ a, s[d - 1]? = some a := ⟨_, List.getElem?_eq_getElem (by omega)⟩
        have hA1 : s.getD (s.length - 1) 0 = a1 := by rw [lz]; simp [List.getD, ha1]
        have r1 := HIV.out a1 (List.mem_of_getElem? ha1)
        have hc1 : wr.cell? ⟨g, d - 1, none⟩ = some (.int .i64 a1) := by
          rw [hR.cell, List.getElem?_append_left (by rw [List.length_map]; omega), List.getElem?_map, ha1]; rfl
        have hf1 := hR.free (d - 1)
        have w1 : IntKind.i64.wrap ((d : Int) - 1) = (d : Int) - 1 := IntWalk.i64_in _ (by omega)
        have w2 : ((d : Int) - 1).toNat = d - 1 := by omega
        have w3 : (d : Int) - 1 < (d : Int) := by omega
        have w4 : (0 : Int) ≤ (d : Int) - 1 := by omega
        have w5 : (d : Int) ≤ (c' : Int) := by omega
        by_cases hp3 : nd.op = 3
        · have q3 : (nd.op == 3) = true := by simpa using hp3
          have hdd : d + 1 - P.opnds nd.op = d := by rw [hp3]; show d + 1 - 1 = d; omega
          rw [hdd] at HD2
          have HST : Hid (P.stepE x y nd s = s.set (d - 1) (P.negV a1)) := by show _ = _; rw [P.stepE_3 hp3, hA1, lz]
          by_cases h2 : a1 = 2
          · have q5 : (a1 != 2) = false := by simpa using h2
            have HSS : Hid (P.stepE x y nd s = s) := by
              show _ = _
              rw [HST.out, h2]
              exact set_sameL (by rw [ha1, h2]; rfl)
            have HO2 := Lib.hid HO.out
            clear hx hp0 hp3 hop hopd hokn hd' hown hR h2 ha1 hA1
            go_wp2
            go_roundw
            case rel => exact ⟨k + 1, d, _, by omega, by go_num, HD2, HS2, by omega, by rw [HSS.out]; exact HO2.out, HB3.out⟩
            case measure => simp [intOf]; omega
          · have q5 : (a1 != 2) = true := by simpa using h2
            have q6 : IntKind.i64.wrap (-a1) = -a1 := IntWalk.i64_in _ (by omega)
            have hng : P.negV a1 = -a1 := if_pos h2
            have R2 : Row (wr.setCell ⟨g, d - 1, none⟩ (.int .i64 (-a1))) g 3 ((s.set (d - 1) (-a1)).map (Value.int .i64) ++ cs) := by
              have := hR.set (d - 1) (.int .i64 (-a1))
              rwa [map_set_app _ _ _ (by omega)] at this
            have HO2 := Lib.hid ((row_own (base := w.heap.size + 1 + 1) (n := d) (sz := 1) R2 (by rw [List.length_map, List.length_set]; omega) hgb hn1 hn2 (by rw [List.length_append, List.length_map] at hLL ⊢; rw [List.length_set]; exact hLL)))
            have HB4 := Lib.hid ((hb2.setCell (p := ⟨g, d - 1, none⟩) hgb (.int .i64 (-a1))))
            have HSS : Hid (P.stepE x y nd s = s.set (d - 1) (-a1)) := by show _ = _; rw [HST.out, hng]
            clear hx hp0 hp3 hop hopd hokn hd' hown hR R2 h2 ha1 hA1
            go_wp2
            go_roundw
            case rel => exact ⟨k + 1, d, _, by omega, by go_num, HD2, HS2, by omega, by rw [HSS.out]; exact HO2.out, HB4.out⟩
            case measure => simp [intOf]; omega
        · have q3 : (nd.op == 3) = false := by simpa using hp3
          have h124 : nd.op = 1 ∨ nd.op = 2 ∨ nd.op = 4 := by omega
          have hop2 : P.opnds nd.op = 2 := by unfold P.opnds; rw [if_neg hp0, if_neg hp3]
          have hd2 : 2 ≤ d := by omega
          have hdd : d + 1 - P.opnds nd.op = d - 1 := by rw [hop2]; omega
          rw [hdd] at HD2
          obtain ⟨a2, ha2⟩ : ∃ a, s[d - 2]? = some a := ⟨_, List.getElem?_eq_getElem (by omega)⟩
          have hA2 : s.getD (s.length - 2) 0 = a2 := by rw [ly]; simp [List.getD, ha2]
          have r2 := HIV.out a2 (List.mem_of_getElem? ha2)
          have HST : Hid (P.stepE x y nd s = s.take (d - 2) ++ [P.comb nd.op a2 a1]) := by show _ = _; rw [P.stepE_2 hp0 hp3, hA1, hA2, ly]
          have hc2 : wr.cell? ⟨g, d - 2, none⟩ = some (.int .i64 a2) := by
            rw [hR.cell, List.getElem?_append_left (by rw [List.length_map]; omega), List.getElem?_map, ha2]; rfl
          have hf2 := hR.free (d - 2)
          have x1 : IntKind.i64.wrap ((d : Int) - 2) = (d : Int) - 2 := IntWalk.i64_in _ (by omega)
          have x2 : ((d : Int) - 2).toNat = d - 2 := by omega
          have x3 : (d : Int) - 2 < (d : Int) := by omega
          have x4 : (0 : Int) ≤ (d : Int) - 2 := by omega
          have hcb := P.comb_bd nd.op r2 r1
          obtain ⟨cv, hcv⟩ : ∃ cv, P.comb nd.op a2 a1 = cv := ⟨_, rfl⟩
          rw [hcv] at hcb
          have HST2 : Hid (P.stepE x y nd s = s.take (d - 2) ++ [cv]) := by show _ = _; rw [HST.out, hcv]
          have HT := Lib.hid (own_take HO.out (m := d - 2) (by omega) hd0)
          clear hx hp0 hp3 hop hopd hokn hd' hown hR HST hA1 hA2 ha1 ha2
          go_wp2_with fail
          refine wp_region_qb (by kernel_rfl) (by kernel_rfl) ?_; (repeat (go_big_quiet_step ((go_at_call 70; (try rw [← hcv]); exact quietS rfl (l5Op _ h124 r2 r1))))); refine wpQuiet_nil ?_; intro w8 hb8
          have hown8 := own_below HT.out hb8
          have hb28 := HB3.out.trans (hb8.mono hsz)
          have hsz8 : w.heap.size + 1 + 1 ≤ w8.heap.size := by have := hb8.size; omega
          clear hb8
          (try rw [hcv])
          go_wp2_with (at_builtin; refine wpList_append_own _ rfl _ _ 29 rfl (w.heap.size + 1 + 1) 3 i0 (.int .i64 0) 1 8 Try.underlying29 hi hz0 hz1 hz2 rfl (by decide) _ _ _ rfl (hown8.alloc _) ⟨w8.heap.size, 0, none⟩ 1 1 [_] rfl rfl (one_new _ _ _) (by simp [Value.oneCell']) (by unfold maxLen; omega) (by omega) (by simp; omega) ?_)
          intro v' w4 hown4 hgrow _
          have hb24 := Lib.hid ((hb28.alloc hsz8 (.cells #[.int .i64 cv] 3)).grown hgrow (by simp; omega) (fun k hk => (hown8.lt k hk).1))
          have hown5 : Hid (w4.ownsRow (w.heap.size + 1 + 1) 3 1 v' (d - 1) ((P.stepE x y nd s).map (Value.int .i64))) := by
            refine Lib.hid ?_
            rw [HST2.out]
            rw [show d - 2 + 1 = d - 1 by omega] at hown4
            simpa [List.map_take] using hown4
          clear hown4 hgrow hown8 hb28
          go_wp2
          go_roundw
          case rel => exact ⟨k + 1, d - 1, _, by omega, by go_num, HD2, HS2, by omega, hown5.out, hb24.out⟩
          case measure => simp [intOf]; omega
    · have hkn : k = n := by omega
      have hd1 : d = 1 := by
        have h3 := HD.out
        unfold P.Dep at h3
        rw [List.take_of_length_le (by have := HL.out; omega), (P.okE_len HE.out).2] at h3
        injection h3 with h3
        exact h3.symm
      subst hd1
      have hsl : s.length = 1 := by rw [← HS.out]; exact P.runE_len (by have := HL.out; omega) HD.out HE.out
      obtain ⟨a1, ha1⟩ : ∃ a, s[0]? = some a := ⟨_, List.getElem?_eq_getElem (by omega)⟩
      obtain ⟨g, c'', cs, ee, hgb, hn1, hn2, hR, hLL⟩ := own_row hown (by omega)
      subst ee
      have hc1 : wr.cell? ⟨g, 0, none⟩ = some (.int .i64 a1) := by
        rw [hR.cell, List.getElem?_append_left (by rw [List.length_map]; omega), List.getElem?_map, ha1]; rfl
      have HV : Hid (P.evE l x y = a1) := by
        show _ = _
        unfold P.evE
        rw [HL.out, ← hkn, HS.out]
        simp [List.getD, ha1]
      have hgl := hR.lt
      clear h hown hR
      go_wp2
      go_ret
      exact ⟨ret_int HV.out.symm, hbw⟩
set_option maxHeartbeats 6400000 in
set_option maxRecDepth 100000 in
theorem implWalk {A A1 A2 : Option Addr} {n c n1 c1 n2 c2 : Nat} {l : List Nd} {x y : It} (w : World) (h : Sl RN 6 w w.heap.size A n c l) (hx1 : Sl RI 1 w w.heap.size A1 n1 c1 x.vals) (fx : Fit x.id) (hy1 : Sl RI 1 w w.heap.size A2 n2 c2 y.vals) (fy : Fit y.id) (hE : P.okE l = true) (hox : P.okI x = true) (hoy : P.okI y = true) :
    Calls Try.prog 37 #[.slice A n c, .agg #[.int .i64 x.id, .slice A1 n1 c1], .agg #[.int .i64 y.id, .slice A2 n2 c2]] w fun e w' => e = .returned (.int .i64 (P.evE l x y)) ∧ Below w.heap.size w w' := by
  obtain ⟨i0, hi, hz0, hz1, hz2⟩ := info_parts info_i3
  have HL := Lib.hid h.len
  have HE := Lib.hid hE
  have hn9 : n ≤ 9 := by have := (P.okE_len hE).1; have := HL.out; omega
  have hle := h.le
  have hmx := h.max
  unfold maxLen at hmx
  have B2 := ((Below.refl w.heap.size w).alloc (Nat.le_refl _) (.cells #[.int .i64 x.id, .slice A1 n1 c1] 34)).alloc (by simp) (.cells #[.int .i64 y.id, .slice A2 n2 c2] 34)
  have R0 := Lib.hid ((Row.new w 34 [.int .i64 x.id, .slice A1 n1 c1]).alloc (.cells #[.int .i64 y.id, .slice A2 n2 c2] 34))
  have R1 : Hid (Row ((w.alloc (.cells #[.int .i64 x.id, .slice A1 n1 c1] 34)).alloc (.cells #[.int .i64 y.id, .slice A2 n2 c2] 34)) (w.heap.size + 1) 34 [.int .i64 y.id, .slice A2 n2 c2]) := by
    have := Row.new (w.alloc (.cells #[.int .i64 x.id, .slice A1 n1 c1] 34)) 34 [.int .i64 y.id, .slice A2 n2 c2]
    rw [World.size_alloc] at this
    exact this
  have hs2 : ((w.alloc (.cells #[.int .i64 x.id, .slice A1 n1 c1] 34)).alloc (.cells #[.int .i64 y.id, .slice A2 n2 c2] 34)).heap.size = w.heap.size + 1 + 1 := by simp
  have HOX := Lib.hid hox
  have HOY := Lib.hid hoy
  have HXS := Lib.hid hx1
  have HYS := Lib.hid hy1
  clear hE hox hoy hx1 hy1
  obtain ⟨W2, hW2⟩ : ∃ W2, (w.alloc (.cells #[.int .i64 x.id, .slice A1 n1 c1] 34)).alloc (.cells #[.int .i64 y.id, .slice A2 n2 c2] 34) = W2 := ⟨_, rfl⟩
  have HB2 : Hid (Below w.heap.size w W2) := by rw [← hW2]; exact B2
  have HR0 : Hid (Row W2 w.heap.size 34 [.int .i64 x.id, .slice A1 n1 c1]) := by rw [← hW2]; exact R0.out
  have HR1 : Hid (Row W2 (w.heap.size + 1) 34 [.int .i64 y.id, .slice A2 n2 c2]) := by rw [← hW2]; exact R1.out
  have hs3 : W2.heap.size = w.heap.size + 1 + 1 := by rw [← hW2]; exact hs2
  have HOWN : Hid ((W2.alloc (.cells #[] 3)).ownsRow (w.heap.size + 1 + 1) 3 1 (.slice (some ⟨w.heap.size + 1 + 1, 0, none⟩) 0 0) 0 []) := by
    have := own_emptyS W2 3 1
    rw [hs3] at this; exact this
  have HBE : Hid (Below (w.heap.size + 1 + 1) W2 (W2.alloc (.cells #[] 3))) := (Below.refl _ _).alloc (by omega) _
  clear B2 R0 R1 hs2
  go_enter Try.func37, Try.ntmps37
  go_wp2
  go_loopw [7, 9, 10, 14] (fun vs v9 v10 vi wr => ∃ (k d : Nat) (s : List Int), k ≤ n ∧ vi = .int .i64 k ∧ Hid (P.Dep l k d) ∧ Hid (P.runE x y l k = s) ∧ d ≤ k ∧ wr.ownsRow (w.heap.size + 1 + 1) 3 1 vs d (s.map (Value.int .i64)) ∧ Below (w.heap.size + 1 + 1) W2 wr) (fun _ _ _ vi _ => n - (intOf vi).toNat)
  case atStart => exact ⟨0, 0, [], Nat.zero_le _, rfl, P.dep_zero l, rfl, Nat.le_refl _, HOWN.out, HBE.out⟩
  case round =>
    clear HOWN HBE hW2
    obtain ⟨k, d, s, hk, rfl, HD, HS, hdk, hown, hb2⟩ := hrel
    have hsz2 := hb2.size
    have hbw := HB2.out.trans (hb2.mono (by omega))
    have hsz : w.heap.size + 1 + 1 ≤ wr.heap.size := by omega
    by_cases hlt : k < n
    · obtain ⟨b, o, nd, A3, n3, c3, E3, m3, d3, rfl, hb, hx, hf, hs, ht1, g0, g1, g2, g3, g4, g5⟩ := nodeAt h hlt
      obtain ⟨hokn, d', hd', hopd⟩ := P.okE_at HE.out hx
      obtain rfl := P.dep_unique HD.out hd'
      have hsl : s.length = d := by rw [← HS.out]; exact P.runE_len (by have := HL.out; omega) HD.out HE.out
      have HIV : Hid (P.InV s) := by rw [← HS.out]; exact P.InV.run x y l k
      have HD2 := Lib.hid (P.dep_step HD.out hx hokn hopd)
      have HS2 : Hid (P.runE x y l (k + 1) = P.stepE x y nd s) := by show _ = _; rw [P.runE_succ hx, HS.out]
      obtain ⟨f0, f1, f2, f3⟩ := hf
      have i1 : b < wr.heap.size := by omega
      have q1 : (k : Int) < (n : Int) := by omega
      have q2 : (n : Int) ≤ (c : Int) := by omega
      have e0 := ((cell_of hbw) b (o + k * 6) hb).trans g0
      have e1 := ((cell_of hbw) b (o + k * 6 + 1) hb).trans g1
      have e2 := ((cell_of hbw) b (o + k * 6 + 2) hb).trans g2
      have e3 := ((cell_of hbw) b (o + k * 6 + 3) hb).trans g3
      have e4 := ((cell_of hbw) b (o + k * 6 + 4) hb).trans g4
      have e5 := ((cell_of hbw) b (o + k * 6 + 5) hb).trans g5
      have hop := P.okE_at HE.out hx |>.1
      have hop4 : 0 ≤ nd.op ∧ nd.op ≤ 4 := by
        unfold P.okN at hop
        rw [Bool.and_eq_true] at hop
        exact P.inR_t hop.1
      have BN := (Below.refl wr.heap.size wr).alloc (Nat.le_refl _) (.cells #[.int .i64 nd.op, .int .i64 nd.wish.kind, .int .i64 nd.wish.field, .int .i64 nd.wish.value, .slice A3 n3 c3, .slice E3 m3 d3] 55)
      have HN1 := Lib.hid ((hs.on RI.keeps hbw).on RI.keeps BN)
      have HN2 := Lib.hid ((ht1.on RP.keeps hbw).on RP.keeps BN)
      have HO := Lib.hid (own_below hown BN)
      have HB3 := Lib.hid (hb2.trans (BN.mono hsz))
      have HBW := Lib.hid (hbw.trans (BN.mono hbw.size))
      have HR0' := HR0.out.below HB3.out (by omega)
      have HR1' := HR1.out.below HB3.out (by omega)
      have hw1 : (wr.alloc (.cells #[.int .i64 nd.op, .int .i64 nd.wish.kind, .int .i64 nd.wish.field, .int .i64 nd.wish.value, .slice A3 n3 c3, .slice E3 m3 d3] 55)).heap.size = wr.heap.size + 1 := by simp
      obtain ⟨A', c', hv, hdc, hcm⟩ := own_form hown
      subst hv
      clear g0 g1 g2 g3 g4 g5 hs ht1
      by_cases hp0 : nd.op = 0
      · have q0 : (nd.op == 0) = true := by simpa using hp0
        have HST : Hid (P.stepE x y nd s = s ++ [P.cmpIs nd.wish x y]) := P.stepE_0 hp0 s
        have hdd : d + 1 - P.opnds nd.op = d + 1 := by rw [hp0]; rfl
        rw [hdd] at HD2
        have HW : Hid (P.okW nd.wish = true) := by
          show _ = _
          rw [← P.okN_0 hp0]; exact hop
        have d0 := HR0'.cell 0
        have d1 := HR0'.cell 1
        have d2 := HR1'.cell 0
        have d3 := HR1'.cell 1
        simp at d0 d1 d2 d3
        have uc : w.heap.size < wr.heap.size := by omega
        have ud : w.heap.size + 1 < wr.heap.size := by omega
        have HX3 := Lib.hid (HXS.out.on RI.keeps HBW.out)
        have HY3 := Lib.hid (HYS.out.on RI.keeps HBW.out)
        have hszB := HB3.out.size
        rw [hw1] at hszB
        clear hx hp0 hop hopd hokn hd' hown HR0' HR1' BN
        go_wp2_with fail
        refine (implCompareItems (x := nd.wish) (y := x) (z := y) _ HN1.out HN2.out f1 f2 f3 HX3.out fx HY3.out fy).mono ?_
        rintro e w8 ⟨rfl, hb8⟩
        have hown8 := own_below HO.out hb8
        have hb28 := HB3.out.trans (hb8.mono (by simp; omega))
        have hsz8 : w.heap.size + 1 + 1 ≤ w8.heap.size := by have := hb8.size; simp at this; omega
        clear hb8
        go_wp2_with (at_builtin; refine wpList_append_own _ rfl _ _ 29 rfl (w.heap.size + 1 + 1) 3 i0 (.int .i64 0) 1 8 Try.underlying29 hi hz0 hz1 hz2 rfl (by decide) _ _ _ rfl (hown8.alloc _) ⟨w8.heap.size, 0, none⟩ 1 1 [_] rfl rfl (one_new _ _ _) (by simp [Value.oneCell']) (by unfold maxLen; omega) (by omega) (by simp; omega) ?_)
        intro v' w4 hown4 hgrow _
        have hb24 := Lib.hid ((hb28.alloc hsz8 (.cells #[.int .i64 (P.cmpIs nd.wish x y)] 3)).grown hgrow (by simp; omega) (fun k hk => (hown8.lt k hk).1))
        have hown5 : Hid (w4.ownsRow (w.heap.size + 1 + 1) 3 1 v' (d + 1) ((P.stepE x y nd s).map (Value.int .i64))) := by
          refine Lib.hid ?_
          rw [HST.out]
          simpa using hown4
        clear hown4 hgrow hown8 hb28
        go_wp2
        go_roundw
        case rel => exact ⟨k + 1, d + 1, _, by omega, by go_num, HD2, HS2, by omega, hown5.out, hb24.out⟩
        case measure => simp [intOf]; omega
      · have q0 : (nd.op == 0) = false := by simpa using hp0
        have hd0 : 0 < d := by
          have : 0 < P.opnds nd.op := by unfold P.opnds; rw [if_neg hp0]; split <;> omega
          omega
        obtain ⟨g, c'', cs, ee, hgb, hn1, hn2, hR, hLL⟩ := own_row hown hd0
        injection ee with ee1 ee2 ee3
        subst ee1 ee3
        have hgl : g < wr.heap.size := hR.lt
        have hgl0 : g < wr.heap.size := (hown.lt g rfl).2
        have hmx2 := hn2
        unfold maxLen at hmx2
        have lz : s.length - 1 = d - 1 := by omega
        have ly : s.length - 2 = d - 2 := by omega
        obtain ⟨a1, ha1⟩ : ∃ a, s[d - 1]? = some a := ⟨_, List.getElem?_eq_getElem (by omega)⟩
        have hA1 : s.getD (s.length - 1) 0 = a1 := by rw [lz]; simp [List.getD, ha1]
        have r1 := HIV.out a1 (List.mem_of_getElem? ha1)
        have hc1 : wr.cell? ⟨g, d - 1, none⟩ = some (.int .i64 a1) := by
          rw [hR.cell, List.getElem?_append_left (by rw [List.length_map]; omega), List.getElem?_map, ha1]; rfl
        have hf1 := hR.free (d - 1)
        have w1 : IntKind.i64.wrap ((d : Int) - 1) = (d : Int) - 1 := IntWalk.i64_in _ (by omega)
        have w2 : ((d : Int) - 1).toNat = d - 1 := by omega
        have w3 : (d : Int) - 1 < (d : Int) := by omega
        have w4 : (0 : Int) ≤ (d : Int) - 1 := by omega
        have w5 : (d : Int) ≤ (c' : Int) := by omega
        by_cases hp3 : nd.op = 3
        · have q3 : (nd.op == 3) = true := by simpa using hp3
          have hdd : d + 1 - P.opnds nd.op = d := by rw [hp3]; show d + 1 - 1 = d; omega
          rw [hdd] at HD2
          have HST : Hid (P.stepE x y nd s = s.set (d - 1) (P.negV a1)) := by show _ = _; rw [P.stepE_3 hp3, hA1, lz]
          by_cases h2 : a1 = 2
          · have q5 : (a1 != 2) = false := by simpa using h2
            have HSS : Hid (P.stepE x y nd s = s) := by
              show _ = _
              rw [HST.out, h2]
              exact set_sameL (by rw [ha1, h2]; rfl)
            have HO2 := Lib.hid HO.out
            clear hx hp0 hp3 hop hopd hokn hd' hown hR h2 ha1 hA1
            go_wp2
            go_roundw
            case rel => exact ⟨k + 1, d, _, by omega, by go_num, HD2, HS2, by omega, by rw [HSS.out]; exact HO2.out, HB3.out⟩
            case measure => simp [intOf]; omega
          · have q5 : (a1 != 2) = true := by simpa using h2
            have q6 : IntKind.i64.wrap (-a1) = -a1 := IntWalk.i64_in _ (by omega)
            have hng : P.negV a1 = -a1 := if_pos h2
            have R2 : Row (wr.setCell ⟨g, d - 1, none⟩ (.int .i64 (-a1))) g 3 ((s.set (d - 1) (-a1)).map (Value.int .i64) ++ cs) := by
              have := hR.set (d - 1) (.int .i64 (-a1))
              rwa [map_set_app _ _ _ (by omega)] at this
            have HO2 := Lib.hid ((row_own (base := w.heap.size + 1 + 1) (n := d) (sz := 1) R2 (by rw [List.length_map, List.length_set]; omega) hgb hn1 hn2 (by rw [List.length_append, List.length_map] at hLL ⊢; rw [List.length_set]; exact hLL)).alloc (.cells #[.int .i64 nd.op, .int .i64 nd.wish.kind, .int .i64 nd.wish.field, .int .i64 nd.wish.value, .slice A3 n3 c3, .slice E3 m3 d3] 55))
            have HB4 := Lib.hid ((hb2.setCell (p := ⟨g, d - 1, none⟩) hgb (.int .i64 (-a1))).alloc (by have := hb2.size; simp; omega) (.cells #[.int .i64 nd.op, .int .i64 nd.wish.kind, .int .i64 nd.wish.field, .int .i64 nd.wish.value, .slice A3 n3 c3, .slice E3 m3 d3] 55))
            have HSS : Hid (P.stepE x y nd s = s.set (d - 1) (-a1)) := by show _ = _; rw [HST.out, hng]
            clear hx hp0 hp3 hop hopd hokn hd' hown hR R2 h2 ha1 hA1
            go_wp2
            go_roundw
            case rel => exact ⟨k + 1, d, _, by omega, by go_num, HD2, HS2, by omega, by rw [HSS.out]; exact HO2.out, HB4.out⟩
            case measure => simp [intOf]; omega
        · have q3 : (nd.op == 3) = false := by simpa using hp3
          have h124 : nd.op = 1 ∨ nd.op = 2 ∨ nd.op = 4 := by omega
          have hop2 : P.opnds nd.op = 2 := by unfold P.opnds; rw [if_neg hp0, if_neg hp3]
          have hd2 : 2 ≤ d := by omega
          have hdd : d + 1 - P.opnds nd.op = d - 1 := by rw [hop2]; omega
          rw [hdd] at HD2
          obtain ⟨a2, ha2⟩ : ∃ a, s[d - 2]? = some a := ⟨_, List.getElem?_eq_getElem (by omega)⟩
          have hA2 : s.getD (s.length - 2) 0 = a2 := by rw [ly]; simp [List.getD, ha2]
          have r2 := HIV.out a2 (List.mem_of_getElem? ha2)
          have HST : Hid (P.stepE x y nd s = s.take (d - 2) ++ [P.comb nd.op a2 a1]) := by show _ = _; rw [P.stepE_2 hp0 hp3, hA1, hA2, ly]
          have hc2 : wr.cell? ⟨g, d - 2, none⟩ = some (.int .i64 a2) := by
            rw [hR.cell, List.getElem?_append_left (by rw [List.length_map]; omega), List.getElem?_map, ha2]; rfl
          have hf2 := hR.free (d - 2)
          have x1 : IntKind.i64.wrap ((d : Int) - 2) = (d : Int) - 2 := IntWalk.i64_in _ (by omega)
          have x2 : ((d : Int) - 2).toNat = d - 2 := by omega
          have x3 : (d : Int) - 2 < (d : Int) := by omega
          have x4 : (0 : Int) ≤ (d : Int) - 2 := by omega
          have hcb := P.comb_bd nd.op r2 r1
          obtain ⟨cv, hcv⟩ : ∃ cv, P.comb nd.op a2 a1 = cv := ⟨_, rfl⟩
          rw [hcv] at hcb
          have HST2 : Hid (P.stepE x y nd s = s.take (d - 2) ++ [cv]) := by show _ = _; rw [HST.out, hcv]
          have HRA := Lib.hid (hR.alloc (.cells #[.int .i64 nd.op, .int .i64 nd.wish.kind, .int .i64 nd.wish.field, .int .i64 nd.wish.value, .slice A3 n3 c3, .slice E3 m3 d3] 55))
          have hgA : g < (wr.alloc (.cells #[.int .i64 nd.op, .int .i64 nd.wish.kind, .int .i64 nd.wish.field, .int .i64 nd.wish.value, .slice A3 n3 c3, .slice E3 m3 d3] 55)).heap.size := by simp; omega
          have hszA : w.heap.size + 1 + 1 ≤ (wr.alloc (.cells #[.int .i64 nd.op, .int .i64 nd.wish.kind, .int .i64 nd.wish.field, .int .i64 nd.wish.value, .slice A3 n3 c3, .slice E3 m3 d3] 55)).heap.size := by simp; omega
          clear hx hp0 hp3 hop hopd hokn hd' hown hR HST hA1 hA2 ha1 ha2
          go_wp2_with fail
          refine wp_region_bt 17 (by kernel_rfl) (by kernel_rfl) ?_; simp only [List.take_succ_cons, List.take_zero, List.drop_succ_cons, List.drop_zero]; (repeat (go_big_quiet_step ((go_at_call 73; (try rw [← hcv]); exact quietS rfl (combined _ h124 r2 r1))))); refine wpQuiet_nil ?_; intro w8 hb8
          (try rw [hcv])
          have R8 := HRA.out.below hb8 hgA
          have hb28 := HB3.out.trans (hb8.mono hszA)
          have hc8 := R8.cell (d - 2)
          rw [List.getElem?_append_left (by rw [List.length_map]; omega)] at hc8
          obtain ⟨a8, ha8⟩ : ∃ a8 : Value, (s.map (Value.int .i64))[d - 2]? = some a8 := ⟨_, List.getElem?_eq_getElem (by rw [List.length_map]; omega)⟩
          rw [ha8] at hc8
          have hf8 := R8.free (d - 2)
          have hl8 := R8.lt
          have R9 : Row (w8.setCell ⟨g, d - 2, none⟩ (.int .i64 cv)) g 3 ((s.set (d - 2) cv).map (Value.int .i64) ++ cs) := by
            have := R8.set (d - 2) (.int .i64 cv)
            rwa [map_set_app _ _ _ (by omega)] at this
          have hO3 := own_take (row_own (base := w.heap.size + 1 + 1) (n := d) (sz := 1) R9 (by rw [List.length_map, List.length_set]; omega) hgb hn1 hn2 (by rw [List.length_append, List.length_map] at hLL ⊢; rw [List.length_set]; exact hLL)) (m := d - 1) (by omega) hd0
          rw [← List.map_take] at hO3
          have hst3 : (s.set (d - 2) cv).take (d - 1) = P.stepE x y nd s := by
            rw [HST2.out]
            have := P.set_take s cv (by omega)
            rw [hsl] at this
            exact this
          rw [hst3] at hO3
          have HO3 := Lib.hid hO3
          have HB9 := Lib.hid (hb28.setCell (p := ⟨g, d - 2, none⟩) hgb (.int .i64 cv))
          clear R8 R9 hO3 hst3 ha8 hb8 hb28 hc1 hc2 hf1 hf2
          go_wp2
          go_roundw
          case rel => exact ⟨k + 1, d - 1, _, by omega, by go_num, HD2, HS2, by omega, HO3.out, HB9.out⟩
          case measure => simp [intOf]; omega
    · have hkn : k = n := by omega
      have hd1 : d = 1 := by
        have h3 := HD.out
        unfold P.Dep at h3
        rw [List.take_of_length_le (by have := HL.out; omega), (P.okE_len HE.out).2] at h3
        injection h3 with h3
        exact h3.symm
      subst hd1
      have hsl : s.length = 1 := by rw [← HS.out]; exact P.runE_len (by have := HL.out; omega) HD.out HE.out
      obtain ⟨a1, ha1⟩ : ∃ a, s[0]? = some a := ⟨_, List.getElem?_eq_getElem (by omega)⟩
      obtain ⟨g, c'', cs, ee, hgb, hn1, hn2, hR, hLL⟩ := own_row hown (by omega)
      subst ee
      have hc1 : wr.cell? ⟨g, 0, none⟩ = some (.int .i64 a1) := by
        rw [hR.cell, List.getElem?_append_left (by rw [List.length_map]; omega), List.getElem?_map, ha1]; rfl
      have HV : Hid (P.evE l x y = a1) := by
        show _ = _
        unfold P.evE
        rw [HL.out, ← hkn, HS.out]
        simp [List.getD, ha1]
      have hgl := hR.lt
      clear h hown hR
      go_wp2
      go_ret
      exact ⟨ret_int HV.out.symm, hbw⟩
end Go.Proofs.Ytgjghpaenliliaa.Wk
