/-
  Walks of chapter 5: CompareBy.
  Conditions: none beyond the bounds that each states.
-/
import Derived.Test.YtgjghpaenliliaaW58
namespace Go.Proofs.Ytgjghpaenliliaa.Wk
open Go.RowKit Go.Proofs.Ytgjghpaenliliaa.M
set_option linter.unusedVariables false
attribute [local go_sem] cell_grow

set_option maxHeartbeats 3200000 in
set_option maxRecDepth 100000 in
theorem specCompareBy {A A1 A2 : Option Addr} {n c n1 c1 n2 c2 : Nat} {l : List Nd} {x y : It} (w : World) (h : Sl RN 6 w w.heap.size A n c l) (hx1 : Sl RI 1 w w.heap.size A1 n1 c1 x.vals) (fx : Fit x.id) (hy1 : Sl RI 1 w w.heap.size A2 n2 c2 y.vals) (fy : Fit y.id) :
    Calls Try.prog 13 #[.slice A n c, .agg #[.int .i64 x.id, .slice A1 n1 c1], .agg #[.int .i64 y.id, .slice A2 n2 c2]] w fun e w' => e = .returned (.int .i64 (P.cmpE l x y)) ∧ Below w.heap.size w w' := by
  have BW := ((Below.refl w.heap.size w).alloc (Nat.le_refl _) (.cells #[.int .i64 x.id, .slice A1 n1 c1] 34)).alloc (by simp) (.cells #[.int .i64 y.id, .slice A2 n2 c2] 34)
  have H := Lib.hid (h.on RN.keeps BW)
  have K := Lib.hid (hx1.on RI.keeps BW)
  have J := Lib.hid (hy1.on RI.keeps BW)
  have hsz := BW.size
  have ww0 : w.heap.size < ((w.alloc (.cells #[.int .i64 x.id, .slice A1 n1 c1] 34)).alloc (.cells #[.int .i64 y.id, .slice A2 n2 c2] 34)).heap.size := by simp; omega
  have ww1 : w.heap.size + 1 < ((w.alloc (.cells #[.int .i64 x.id, .slice A1 n1 c1] 34)).alloc (.cells #[.int .i64 y.id, .slice A2 n2 c2] 34)).heap.size := by simp
  clear h hx1 hy1
  cases hok : P.okE l with
  | false =>
    have HE : Hid (P.cmpE l x y = 2) := by show _ = _; unfold P.cmpE; rw [hok]; rfl
    go_enter Try.func13, Try.ntmps13
    go_wp2_with fail
    refine (specIsExpression _ H.out).mono ?_
    rintro e w2 ⟨rfl, b2⟩
    rw [hok]
    go_wp2_with fail
    go_ret
    exact ⟨ret_int HE.out.symm, BW.trans (b2.mono hsz)⟩
  | true =>
    cases h1 : P.okI x with
    | false =>
      have HE : Hid (P.cmpE l x y = 2) := by show _ = _; unfold P.cmpE; rw [hok, h1]; rfl
      go_enter Try.func13, Try.ntmps13
      go_wp2_with fail
      refine (specIsExpression _ H.out).mono ?_
      rintro e w2 ⟨rfl, b2⟩
      rw [hok]
      have hC2 := cell_of b2
      have z0 : w.heap.size < w2.heap.size := Nat.lt_of_lt_of_le ww0 b2.size
      have z1 : w.heap.size + 1 < w2.heap.size := Nat.lt_of_lt_of_le ww1 b2.size
      have B2 := BW.trans (b2.mono hsz)
      have K2 := Lib.hid (K.out.on RI.keeps b2)
      go_wp2_with fail
      refine (specIsItem (id := x.id) (xs := x.vals) _ K2.out (Nat.le_refl _)).mono ?_
      rintro e w3 ⟨rfl, b3⟩
      rw [h1]
      go_wp2_with fail
      go_ret
      exact ⟨ret_int HE.out.symm, B2.trans (b3.mono B2.size)⟩
    | true =>
      cases h2 : P.okI y with
      | false =>
        have HE : Hid (P.cmpE l x y = 2) := by show _ = _; unfold P.cmpE; rw [hok, h1, h2]; rfl
        go_enter Try.func13, Try.ntmps13
        go_wp2_with fail
        refine (specIsExpression _ H.out).mono ?_
        rintro e w2 ⟨rfl, b2⟩
        rw [hok]
        have hC2 := cell_of b2
        have z0 : w.heap.size < w2.heap.size := Nat.lt_of_lt_of_le ww0 b2.size
        have z1 : w.heap.size + 1 < w2.heap.size := Nat.lt_of_lt_of_le ww1 b2.size
        have B2 := BW.trans (b2.mono hsz)
        have K2 := Lib.hid (K.out.on RI.keeps b2)
        go_wp2_with fail
        refine (specIsItem (id := x.id) (xs := x.vals) _ K2.out (Nat.le_refl _)).mono ?_
        rintro e w3 ⟨rfl, b3⟩
        rw [h1]
        have hC3 := cell_of b3
        have y0 : w.heap.size < w3.heap.size := Nat.lt_of_lt_of_le z0 b3.size
        have y1 : w.heap.size + 1 < w3.heap.size := Nat.lt_of_lt_of_le z1 b3.size
        have B3 := B2.trans (b3.mono B2.size)
        have J3 := Lib.hid ((J.out.on RI.keeps b2).on RI.keeps b3)
        go_wp2_with fail
        refine (specIsItem (id := y.id) (xs := y.vals) _ J3.out (Nat.le_refl _)).mono ?_
        rintro e w4 ⟨rfl, b4⟩
        rw [h2]
        go_wp2_with fail
        go_ret
        exact ⟨ret_int HE.out.symm, B3.trans (b4.mono B3.size)⟩
      | true =>
        have HE : Hid (P.cmpE l x y = P.evE l x y) := by show _ = _; unfold P.cmpE; rw [hok, h1, h2]; rfl
        have HOK := Lib.hid hok
        have HO1 := Lib.hid h1
        have HO2 := Lib.hid h2
        go_enter Try.func13, Try.ntmps13
        go_wp2_with fail
        refine (specIsExpression _ H.out).mono ?_
        rintro e w2 ⟨rfl, b2⟩
        rw [hok]
        have hC2 := cell_of b2
        have z0 : w.heap.size < w2.heap.size := Nat.lt_of_lt_of_le ww0 b2.size
        have z1 : w.heap.size + 1 < w2.heap.size := Nat.lt_of_lt_of_le ww1 b2.size
        have B2 := BW.trans (b2.mono hsz)
        have K2 := Lib.hid (K.out.on RI.keeps b2)
        go_wp2_with fail
        refine (specIsItem (id := x.id) (xs := x.vals) _ K2.out (Nat.le_refl _)).mono ?_
        rintro e w3 ⟨rfl, b3⟩
        rw [h1]
        have hC3 := cell_of b3
        have y0 : w.heap.size < w3.heap.size := Nat.lt_of_lt_of_le z0 b3.size
        have y1 : w.heap.size + 1 < w3.heap.size := Nat.lt_of_lt_of_le z1 b3.size
        have B3 := B2.trans (b3.mono B2.size)
        have J3 := Lib.hid ((J.out.on RI.keeps b2).on RI.keeps b3)
        go_wp2_with fail
        refine (specIsItem (id := y.id) (xs := y.vals) _ J3.out (Nat.le_refl _)).mono ?_
        rintro e w4 ⟨rfl, b4⟩
        rw [h2]
        have hC4 := cell_of b4
        have x0 : w.heap.size < w4.heap.size := Nat.lt_of_lt_of_le y0 b4.size
        have x1 : w.heap.size + 1 < w4.heap.size := Nat.lt_of_lt_of_le y1 b4.size
        have B4 := B3.trans (b4.mono B3.size)
        have H4 := Lib.hid (((H.out.on RN.keeps b2).on RN.keeps b3).on RN.keeps b4)
        have K4 := Lib.hid (((K.out.on RI.keeps b2).on RI.keeps b3).on RI.keeps b4)
        have J4 := Lib.hid (((J.out.on RI.keeps b2).on RI.keeps b3).on RI.keeps b4)
        go_wp2_with fail
        refine (specWalk _ H4.out K4.out fx J4.out fy HOK.out HO1.out HO2.out).mono ?_
        rintro e w5 ⟨rfl, b5⟩
        clear hC2 hC3 hC4
        go_wp2_with fail
        go_ret
        exact ⟨ret_int HE.out.symm, B4.trans (b5.mono B4.size)⟩
set_option maxHeartbeats 3200000 in
set_option maxRecDepth 100000 in
theorem implCompareBy {A A1 A2 : Option Addr} {n c n1 c1 n2 c2 : Nat} {l : List Nd} {x y : It} (w : World) (h : Sl RN 6 w w.heap.size A n c l) (hx1 : Sl RI 1 w w.heap.size A1 n1 c1 x.vals) (fx : Fit x.id) (hy1 : Sl RI 1 w w.heap.size A2 n2 c2 y.vals) (fy : Fit y.id) :
    Calls Try.prog 15 #[.slice A n c, .agg #[.int .i64 x.id, .slice A1 n1 c1], .agg #[.int .i64 y.id, .slice A2 n2 c2]] w fun e w' => e = .returned (.int .i64 (P.cmpE l x y)) ∧ Below w.heap.size w w' := by
  have BW := ((Below.refl w.heap.size w).alloc (Nat.le_refl _) (.cells #[.int .i64 x.id, .slice A1 n1 c1] 34)).alloc (by simp) (.cells #[.int .i64 y.id, .slice A2 n2 c2] 34)
  have H := Lib.hid (h.on RN.keeps BW)
  have K := Lib.hid (hx1.on RI.keeps BW)
  have J := Lib.hid (hy1.on RI.keeps BW)
  have hsz := BW.size
  have ww0 : w.heap.size < ((w.alloc (.cells #[.int .i64 x.id, .slice A1 n1 c1] 34)).alloc (.cells #[.int .i64 y.id, .slice A2 n2 c2] 34)).heap.size := by simp; omega
  have ww1 : w.heap.size + 1 < ((w.alloc (.cells #[.int .i64 x.id, .slice A1 n1 c1] 34)).alloc (.cells #[.int .i64 y.id, .slice A2 n2 c2] 34)).heap.size := by simp
  clear h hx1 hy1
  cases hok : P.okE l with
  | false =>
    have HE : Hid (P.cmpE l x y = 2) := by show _ = _; unfold P.cmpE; rw [hok]; rfl
    go_enter Try.func15, Try.ntmps15
    go_wp2_with fail
    refine (implIsExpression _ H.out).mono ?_
    rintro e w2 ⟨rfl, b2⟩
    rw [hok]
    go_wp2_with fail
    go_ret
    exact ⟨ret_int HE.out.symm, BW.trans (b2.mono hsz)⟩
  | true =>
    cases h1 : P.okI x with
    | false =>
      have HE : Hid (P.cmpE l x y = 2) := by show _ = _; unfold P.cmpE; rw [hok, h1]; rfl
      go_enter Try.func15, Try.ntmps15
      go_wp2_with fail
      refine (implIsExpression _ H.out).mono ?_
      rintro e w2 ⟨rfl, b2⟩
      rw [hok]
      have hC2 := cell_of b2
      have z0 : w.heap.size < w2.heap.size := Nat.lt_of_lt_of_le ww0 b2.size
      have z1 : w.heap.size + 1 < w2.heap.size := Nat.lt_of_lt_of_le ww1 b2.size
      have B2 := BW.trans (b2.mono hsz)
      have K2 := Lib.hid (K.out.on RI.keeps b2)
      go_wp2_with fail
      refine (implIsItem (id := x.id) (xs := x.vals) _ K2.out (Nat.le_refl _)).mono ?_
      rintro e w3 ⟨rfl, b3⟩
      rw [h1]
      go_wp2_with fail
      go_ret
      exact ⟨ret_int HE.out.symm, B2.trans (b3.mono B2.size)⟩
    | true =>
      cases h2 : P.okI y with
      | false =>
        have HE : Hid (P.cmpE l x y = 2) := by show _ = _; unfold P.cmpE; rw [hok, h1, h2]; rfl
        go_enter Try.func15, Try.ntmps15
        go_wp2_with fail
        refine (implIsExpression _ H.out).mono ?_
        rintro e w2 ⟨rfl, b2⟩
        rw [hok]
        have hC2 := cell_of b2
        have z0 : w.heap.size < w2.heap.size := Nat.lt_of_lt_of_le ww0 b2.size
        have z1 : w.heap.size + 1 < w2.heap.size := Nat.lt_of_lt_of_le ww1 b2.size
        have B2 := BW.trans (b2.mono hsz)
        have K2 := Lib.hid (K.out.on RI.keeps b2)
        go_wp2_with fail
        refine (implIsItem (id := x.id) (xs := x.vals) _ K2.out (Nat.le_refl _)).mono ?_
        rintro e w3 ⟨rfl, b3⟩
        rw [h1]
        have hC3 := cell_of b3
        have y0 : w.heap.size < w3.heap.size := Nat.lt_of_lt_of_le z0 b3.size
        have y1 : w.heap.size + 1 < w3.heap.size := Nat.lt_of_lt_of_le z1 b3.size
        have B3 := B2.trans (b3.mono B2.size)
        have J3 := Lib.hid ((J.out.on RI.keeps b2).on RI.keeps b3)
        go_wp2_with fail
        refine (implIsItem (id := y.id) (xs := y.vals) _ J3.out (Nat.le_refl _)).mono ?_
        rintro e w4 ⟨rfl, b4⟩
        rw [h2]
        go_wp2_with fail
        go_ret
        exact ⟨ret_int HE.out.symm, B3.trans (b4.mono B3.size)⟩
      | true =>
        have HE : Hid (P.cmpE l x y = P.evE l x y) := by show _ = _; unfold P.cmpE; rw [hok, h1, h2]; rfl
        have HOK := Lib.hid hok
        have HO1 := Lib.hid h1
        have HO2 := Lib.hid h2
        go_enter Try.func15, Try.ntmps15
        go_wp2_with fail
        refine (implIsExpression _ H.out).mono ?_
        rintro e w2 ⟨rfl, b2⟩
        rw [hok]
        have hC2 := cell_of b2
        have z0 : w.heap.size < w2.heap.size := Nat.lt_of_lt_of_le ww0 b2.size
        have z1 : w.heap.size + 1 < w2.heap.size := Nat.lt_of_lt_of_le ww1 b2.size
        have B2 := BW.trans (b2.mono hsz)
        have K2 := Lib.hid (K.out.on RI.keeps b2)
        go_wp2_with fail
        refine (implIsItem (id := x.id) (xs := x.vals) _ K2.out (Nat.le_refl _)).mono ?_
        rintro e w3 ⟨rfl, b3⟩
        rw [h1]
        have hC3 := cell_of b3
        have y0 : w.heap.size < w3.heap.size := Nat.lt_of_lt_of_le z0 b3.size
        have y1 : w.heap.size + 1 < w3.heap.size := Nat.lt_of_lt_of_le z1 b3.size
        have B3 := B2.trans (b3.mono B2.size)
        have J3 := Lib.hid ((J.out.on RI.keeps b2).on RI.keeps b3)
        go_wp2_with fail
        refine (implIsItem (id := y.id) (xs := y.vals) _ J3.out (Nat.le_refl _)).mono ?_
        rintro e w4 ⟨rfl, b4⟩
        rw [h2]
        have hC4 := cell_of b4
        have x0 : w.heap.size < w4.heap.size := Nat.lt_of_lt_of_le y0 b4.size
        have x1 : w.heap.size + 1 < w4.heap.size := Nat.lt_of_lt_of_le y1 b4.size
        have B4 := B3.trans (b4.mono B3.size)
        have H4 := Lib.hid (((H.out.on RN.keeps b2).on RN.keeps b3).on RN.keeps b4)
        have K4 := Lib.hid (((K.out.on RI.keeps b2).on RI.keeps b3).on RI.keeps b4)
        have J4 := Lib.hid (((J.out.on RI.keeps b2).on RI.keeps b3).on RI.keeps b4)
        go_wp2_with fail
        refine (implWalk _ H4.out K4.out fx J4.out fy HOK.out HO1.out HO2.out).mono ?_
        rintro e w5 ⟨rfl, b5⟩
        clear hC2 hC3 hC4
        go_wp2_with fail
        go_ret
        exact ⟨ret_int HE.out.symm, B4.trans (b5.mono B4.size)⟩
end Go.Proofs.Ytgjghpaenliliaa.Wk
