/-
  Walks of chapter 4: items compared by a wish.
  Conditions: none beyond the bounds that each states.
-/
import Derived.Test.YtgjghpaenliliaaW43
import Derived.Test.YtgjghpaenliliaaW14
namespace Go.Proofs.Ytgjghpaenliliaa.Wk
open Go.RowKit Go.Proofs.Ytgjghpaenliliaa.M
set_option linter.unusedVariables false
attribute [local go_sem] cell_grow

theorem okI_val {x : It} (h : P.okI x = true) {f : Nat} (hf : f ≤ 2) : x.vals.length = 3 ∧ ∃ v, x.vals[f]? = some v ∧ 0 ≤ v ∧ v ≤ 9 := by
  simp only [P.okI, Bool.and_eq_true, decide_eq_true_eq] at h
  obtain ⟨⟨_, hl⟩, hv⟩ := h
  refine ⟨hl, x.vals[f]'(by omega), List.getElem?_eq_getElem (by omega), ?_⟩
  exact P.inR_t (List.all_eq_true.1 hv _ (List.getElem_mem _))
set_option maxHeartbeats 1000000 in
set_option maxRecDepth 100000 in
theorem implCompareItems {A E A1 A2 : Option Addr} {n c m d n1 c1 n2 c2 : Nat} {x : Wi} {y z : It} (w : World) (h : Sl RI 1 w w.heap.size A n c x.list) (g : Sl RP 2 w w.heap.size E m d x.pairs) (f1 : Fit x.kind) (f2 : Fit x.field) (f3 : Fit x.value)
    (k : Sl RI 1 w w.heap.size A1 n1 c1 y.vals) (f4 : Fit y.id) (j : Sl RI 1 w w.heap.size A2 n2 c2 z.vals) (f5 : Fit z.id) :
    Calls Try.prog 72 #[.agg #[.int .i64 x.kind, .int .i64 x.field, .int .i64 x.value, .slice A n c, .slice E m d], .agg #[.int .i64 y.id, .slice A1 n1 c1], .agg #[.int .i64 z.id, .slice A2 n2 c2]] w fun e w' => e = .returned (.int .i64 (P.cmpIs x y z)) ∧ Below w.heap.size w w' := by
  have BW := (((Below.refl w.heap.size w).alloc (Nat.le_refl _) (.cells #[.int .i64 x.kind, .int .i64 x.field, .int .i64 x.value, .slice A n c, .slice E m d] 53)).alloc (by simp) (.cells #[.int .i64 y.id, .slice A1 n1 c1] 34)).alloc (by simp; omega) (.cells #[.int .i64 z.id, .slice A2 n2 c2] 34)
  have H := Lib.hid (h.on RI.keeps BW)
  have G := Lib.hid (g.on RP.keeps BW)
  have K := Lib.hid (k.on RI.keeps BW)
  have J := Lib.hid (j.on RI.keeps BW)
  have hsz := BW.size
  have ww0 : w.heap.size < (((w.alloc (.cells #[.int .i64 x.kind, .int .i64 x.field, .int .i64 x.value, .slice A n c, .slice E m d] 53)).alloc (.cells #[.int .i64 y.id, .slice A1 n1 c1] 34)).alloc (.cells #[.int .i64 z.id, .slice A2 n2 c2] 34)).heap.size := by simp; omega
  have ww1 : w.heap.size + 1 < (((w.alloc (.cells #[.int .i64 x.kind, .int .i64 x.field, .int .i64 x.value, .slice A n c, .slice E m d] 53)).alloc (.cells #[.int .i64 y.id, .slice A1 n1 c1] 34)).alloc (.cells #[.int .i64 z.id, .slice A2 n2 c2] 34)).heap.size := by simp
  have ww2 : w.heap.size + 1 + 1 < (((w.alloc (.cells #[.int .i64 x.kind, .int .i64 x.field, .int .i64 x.value, .slice A n c, .slice E m d] 53)).alloc (.cells #[.int .i64 y.id, .slice A1 n1 c1] 34)).alloc (.cells #[.int .i64 z.id, .slice A2 n2 c2] 34)).heap.size := by simp
  have HK0 := Lib.hid k
  have HJ0 := Lib.hid j
  clear h g k j
  cases hok : P.okW x with
  | false =>
    have HE : Hid (P.cmpIs x y z = 2) := by show _ = _; unfold P.cmpIs; rw [hok]; rfl
    go_enter Try.func72, Try.ntmps72
    go_wp2_with (go_at_call 63; refine (implIsWish _ H.out G.out).mono ?_; rintro e w2 ⟨rfl, b2⟩; rw [hok])
    go_ret
    exact ⟨ret_int HE.out.symm, BW.trans (b2.mono hsz)⟩
  | true =>
    cases h1 : P.okI y with
    | false =>
      have HE : Hid (P.cmpIs x y z = 2) := by show _ = _; unfold P.cmpIs; rw [hok, h1]; rfl
      go_enter Try.func72, Try.ntmps72
      go_wp2_with fail
      refine (implIsWish _ H.out G.out).mono ?_
      rintro e w2 ⟨rfl, b2⟩
      rw [hok]
      have hC2 := cell_of b2
      have z0 : w.heap.size < w2.heap.size := Nat.lt_of_lt_of_le (by simp; omega) b2.size
      have z1 : w.heap.size + 1 < w2.heap.size := Nat.lt_of_lt_of_le (by simp) b2.size
      have z2 : w.heap.size + 1 + 1 < w2.heap.size := Nat.lt_of_lt_of_le (by simp) b2.size
      have B2 := BW.trans (b2.mono hsz)
      have K2 := Lib.hid (K.out.on RI.keeps b2)
      go_wp2_with fail
      refine (implIsItem (id := y.id) (xs := y.vals) _ K2.out (Nat.le_refl _)).mono ?_
      rintro e w3 ⟨rfl, b3⟩
      rw [h1]
      go_wp2_with fail
      go_ret
      exact ⟨ret_int HE.out.symm, B2.trans (b3.mono B2.size)⟩
    | true =>
      cases h2 : P.okI z with
      | false =>
        have HE : Hid (P.cmpIs x y z = 2) := by show _ = _; unfold P.cmpIs; rw [hok, h1, h2]; rfl
        go_enter Try.func72, Try.ntmps72
        go_wp2_with fail
        refine (implIsWish _ H.out G.out).mono ?_
        rintro e w2 ⟨rfl, b2⟩
        rw [hok]
        have hC2 := cell_of b2
        have z0 : w.heap.size < w2.heap.size := Nat.lt_of_lt_of_le (by simp; omega) b2.size
        have z1 : w.heap.size + 1 < w2.heap.size := Nat.lt_of_lt_of_le (by simp) b2.size
        have z2 : w.heap.size + 1 + 1 < w2.heap.size := Nat.lt_of_lt_of_le (by simp) b2.size
        have B2 := BW.trans (b2.mono hsz)
        have K2 := Lib.hid (K.out.on RI.keeps b2)
        go_wp2_with fail
        refine (implIsItem (id := y.id) (xs := y.vals) _ K2.out (Nat.le_refl _)).mono ?_
        rintro e w3 ⟨rfl, b3⟩
        rw [h1]
        have hC3 := cell_of b3
        have y0 : w.heap.size < w3.heap.size := Nat.lt_of_lt_of_le z0 b3.size
        have y1 : w.heap.size + 1 < w3.heap.size := Nat.lt_of_lt_of_le z1 b3.size
        have y2 : w.heap.size + 1 + 1 < w3.heap.size := Nat.lt_of_lt_of_le z2 b3.size
        have B3 := B2.trans (b3.mono B2.size)
        have J3 := Lib.hid ((J.out.on RI.keeps b2).on RI.keeps b3)
        go_wp2_with fail
        refine (implIsItem (id := z.id) (xs := z.vals) _ J3.out (Nat.le_refl _)).mono ?_
        rintro e w4 ⟨rfl, b4⟩
        rw [h2]
        go_wp2_with fail
        go_ret
        exact ⟨ret_int HE.out.symm, B3.trans (b4.mono B3.size)⟩
      | true =>
        have HE : Hid (P.cmpIs x y z = P.cmpV x (y.vals.getD x.field.toNat 0) (z.vals.getD x.field.toNat 0)) := by show _ = _; unfold P.cmpIs; rw [hok, h1, h2]; rfl
        have HOK := Lib.hid hok
        obtain ⟨p0, p2⟩ := P.okW_field hok
        have hf2 : x.field.toNat ≤ 2 := by omega
        obtain ⟨L1, v1, hx1, hv1⟩ := okI_val h1 hf2
        obtain ⟨L2, v2, hx2, hv2⟩ := okI_val h2 hf2
        have n13 : n1 = 3 := by have := HK0.out.len; omega
        have n23 : n2 = 3 := by have := HJ0.out.len; omega
        obtain ⟨ba, oa, va, ea, hba, hxa, _, ca⟩ := HK0.out.int (k := x.field.toNat) (by omega)
        obtain ⟨bb, ob, vb, eb, hbb, hxb, _, cb⟩ := HJ0.out.int (k := x.field.toNat) (by omega)
        obtain rfl : va = v1 := by rw [hx1] at hxa; injection hxa with hxa; exact hxa.symm
        obtain rfl : vb = v2 := by rw [hx2] at hxb; injection hxb with hxb; exact hxb.symm
        have HE2 : Hid (P.cmpIs x y z = P.cmpV x va vb ∧ P.cmpVals x va vb = P.cmpV x va vb) := by
          refine Lib.hid ⟨?_, ?_⟩
          · rw [HE.out]
            have e1 : y.vals.getD x.field.toNat 0 = va := by simp [List.getD, hx1]
            have e2 : z.vals.getD x.field.toNat 0 = vb := by simp [List.getD, hx2]
            rw [e1, e2]
          · unfold P.cmpVals
            rw [hok, P.inR_mk hv1, P.inR_mk hv2]; rfl
        have fa : Fit va := by unfold Fit; omega
        have fb : Fit vb := by unfold Fit; omega
        have HN := Lib.hid (And.intro n13 n23)
        subst ea eb
        have l1 := HK0.out.le
        have l2 := HJ0.out.le
        have q1 : x.field < (n1 : Int) := by omega
        have q2 : x.field < (n2 : Int) := by omega
        have q3 : (0 : Int) ≤ x.field := by omega
        have q4 : (n1 : Int) ≤ (c1 : Int) := by omega
        have q5 : (n2 : Int) ≤ (c2 : Int) := by omega
        clear n13 n23 L1 L2 hx1 hx2 hxa hxb p0 p2 HK0 HJ0 hf2
        go_enter Try.func72, Try.ntmps72
        go_wp2_with fail
        refine (implIsWish _ H.out G.out).mono ?_
        rintro e w2 ⟨rfl, b2⟩
        rw [hok]
        have hC2 := cell_of b2
        have z0 : w.heap.size < w2.heap.size := Nat.lt_of_lt_of_le (by simp; omega) b2.size
        have z1 : w.heap.size + 1 < w2.heap.size := Nat.lt_of_lt_of_le (by simp) b2.size
        have z2 : w.heap.size + 1 + 1 < w2.heap.size := Nat.lt_of_lt_of_le (by simp) b2.size
        have B2 := BW.trans (b2.mono hsz)
        have K2 := Lib.hid (K.out.on RI.keeps b2)
        go_wp2_with fail
        refine (implIsItem (id := y.id) (xs := y.vals) _ K2.out (Nat.le_refl _)).mono ?_
        rintro e w3 ⟨rfl, b3⟩
        rw [h1]
        have hC3 := cell_of b3
        have y0 : w.heap.size < w3.heap.size := Nat.lt_of_lt_of_le z0 b3.size
        have y1 : w.heap.size + 1 < w3.heap.size := Nat.lt_of_lt_of_le z1 b3.size
        have y2 : w.heap.size + 1 + 1 < w3.heap.size := Nat.lt_of_lt_of_le z2 b3.size
        have B3 := B2.trans (b3.mono B2.size)
        have J3 := Lib.hid ((J.out.on RI.keeps b2).on RI.keeps b3)
        go_wp2_with fail
        refine (implIsItem (id := z.id) (xs := z.vals) _ J3.out (Nat.le_refl _)).mono ?_
        rintro e w4 ⟨rfl, b4⟩
        rw [h2]
        have hC4 := cell_of b4
        have x0 : w.heap.size < w4.heap.size := Nat.lt_of_lt_of_le y0 b4.size
        have x1 : w.heap.size + 1 < w4.heap.size := Nat.lt_of_lt_of_le y1 b4.size
        have x2 : w.heap.size + 1 + 1 < w4.heap.size := Nat.lt_of_lt_of_le y2 b4.size
        have B4 := B3.trans (b4.mono B3.size)
        have ua : ba < w4.heap.size := by have := B4.size; omega
        have ub : bb < w4.heap.size := by have := B4.size; omega
        have da : w4.cell? ⟨ba, oa + x.field.toNat, none⟩ = some (.int .i64 va) := (B4.cell (p := ⟨ba, oa + x.field.toNat, none⟩) hba).trans ca
        have db : w4.cell? ⟨bb, ob + x.field.toNat, none⟩ = some (.int .i64 vb) := (B4.cell (p := ⟨bb, ob + x.field.toNat, none⟩) hbb).trans cb
        have H3 := Lib.hid (((H.out.on RI.keeps b2).on RI.keeps b3).on RI.keeps b4)
        have G3 := Lib.hid (((G.out.on RP.keeps b2).on RP.keeps b3).on RP.keeps b4)
        have S0 := ((((((Row.new w 53 [.int .i64 x.kind, .int .i64 x.field, .int .i64 x.value, .slice A n c, .slice E m d]).alloc (.cells #[.int .i64 y.id, .slice (some ⟨ba, oa, none⟩) n1 c1] 34)).alloc (.cells #[.int .i64 z.id, .slice (some ⟨bb, ob, none⟩) n2 c2] 34)).below b2 ww0).below b3 z0).below b4 y0)
        have S1 := (Row.new (w.alloc (.cells #[.int .i64 x.kind, .int .i64 x.field, .int .i64 x.value, .slice A n c, .slice E m d] 53)) 34 [.int .i64 y.id, .slice (some ⟨ba, oa, none⟩) n1 c1]).alloc (.cells #[.int .i64 z.id, .slice (some ⟨bb, ob, none⟩) n2 c2] 34)
        have S2 := Row.new ((w.alloc (.cells #[.int .i64 x.kind, .int .i64 x.field, .int .i64 x.value, .slice A n c, .slice E m d] 53)).alloc (.cells #[.int .i64 y.id, .slice (some ⟨ba, oa, none⟩) n1 c1] 34)) 34 [.int .i64 z.id, .slice (some ⟨bb, ob, none⟩) n2 c2]
        rw [World.size_alloc] at S1
        rw [World.size_alloc, World.size_alloc] at S2
        have S1 := ((S1.below b2 ww1).below b3 z1).below b4 y1
        have S2 := ((S2.below b2 ww2).below b3 z2).below b4 y2
        have d0 := S0.cell 0
        have d1 := S0.cell 1
        have d2 := S0.cell 2
        have d3 := S0.cell 3
        have d4 := S0.cell 4
        have d5 := S1.cell 1
        have d6 := S2.cell 1
        simp at d0 d1 d2 d3 d4 d5 d6
        clear S0 S1 S2
        clear hC2 hC3 hC4 hok h1 h2 ca cb
        go_wp2_with fail
        refine wp_region_qb (by kernel_rfl) (by kernel_rfl) ?_; (repeat (go_big_quiet_step ((go_at_call 97; exact quietB (implCompareValues _ (H3.out.gr RI.keeps _ _) (G3.out.gr RP.keeps _ _) f1 f2 f3 fa fb))))); refine wpQuiet_nil ?_; intro w8 hb8
        go_wp2
        go_ret
        exact ⟨ret_int (HE2.out.2.trans HE2.out.1.symm), B4.trans (hb8.mono B4.size)⟩
end Go.Proofs.Ytgjghpaenliliaa.Wk
