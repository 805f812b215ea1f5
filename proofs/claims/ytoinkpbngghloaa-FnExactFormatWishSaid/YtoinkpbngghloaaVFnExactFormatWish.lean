/-
  The walk of the law on FormatWish: the call returns true and has only made memory.
  Conditions: none beyond what the arguments read as.
-/
import Derived.Test.YtoinkpbngghloaaW46
import Derived.Test.YtoinkpbngghloaaW40
import Derived.Deep.RegionHeld3
namespace Go.Proofs.Ytoinkpbngghloaa.Wk
open Go.RowKit Go.Proofs.Ytoinkpbngghloaa.M
set_option linter.unusedVariables false

set_option maxHeartbeats 3200000 in
set_option maxRecDepth 100000 in
theorem FnExactFormatWish_no0 (w : World) (v0 : Value) (x0 : Wi) (e0 : WishV w v0 x0)  (hbad : 1048576 < (x0.list.length + x0.pairs.length)) : Calls Try.prog 6 #[v0] w fun e w' => e = .returned (.bool true) ∧ Below w.heap.size w w' := by
  obtain ⟨A0, n0, c0, E0, m0, d0, rfl, f0, g0, h0, S0, T0⟩ := e0
  have HS0 := Lib.hid S0
  have HT0 := Lib.hid T0
  have X00 := Row.new w 25 [.int .i64 x0.kind, .int .i64 x0.field, .int .i64 x0.value, .slice A0 n0 c0, .slice E0 m0 d0]
  have B0 := (Below.refl w.heap.size w).alloc (by simp) (.cells [Value.int .i64 x0.kind, .int .i64 x0.field, .int .i64 x0.value, .slice A0 n0 c0, .slice E0 m0 d0].toArray 25)
  skip
  clear S0 T0
  go_enter Try.func6, Try.ntmps6
  have cX00_0 := X00.cell 0
  have cX00_1 := X00.cell 1
  have cX00_2 := X00.cell 2
  have cX00_3 := X00.cell 3
  have cX00_4 := X00.cell 4
  simp at cX00_0 cX00_1 cX00_2 cX00_3 cX00_4
  go_wp2_with fail
  refine (sz_wish _ (HS0.out.on RI.keeps B0) (HT0.out.on RP.keeps B0) (by omega) (by omega)).mono ?_
  rintro e w1 ⟨rfl, b1⟩
  have B1 := B0.trans (b1.mono B0.size)
  have X0_1 := X00.below b1 X00.lt
  clear cX00_0 cX00_1 cX00_2 cX00_3 cX00_4
  clear X00 b1
  have cX0_1_0 := X0_1.cell 0
  have cX0_1_1 := X0_1.cell 1
  have cX0_1_2 := X0_1.cell 2
  have cX0_1_3 := X0_1.cell 3
  have cX0_1_4 := X0_1.cell 4
  simp at cX0_1_0 cX0_1_1 cX0_1_2 cX0_1_3 cX0_1_4
  rw [less_no (left := 1048576) (t := (x0.list.length + x0.pairs.length)) (by omega)]
  clear cX0_1_0 cX0_1_1 cX0_1_2 cX0_1_3 cX0_1_4
  go_wp2_with fail
  go_ret
  exact ⟨rfl, B1⟩
set_option maxHeartbeats 3200000 in
set_option maxRecDepth 100000 in
theorem FnExactFormatWish_yes (w : World) (v0 : Value) (x0 : Wi) (e0 : WishV w v0 x0) (hfit : (x0.list.length + x0.pairs.length) ≤ 1048576) : Calls Try.prog 6 #[v0] w fun e w' => e = .returned (.bool true) ∧ Below w.heap.size w w' := by
  obtain ⟨A0, n0, c0, E0, m0, d0, rfl, f0, g0, h0, S0, T0⟩ := e0
  have HS0 := Lib.hid S0
  have HT0 := Lib.hid T0
  have X00 := Row.new w 25 [.int .i64 x0.kind, .int .i64 x0.field, .int .i64 x0.value, .slice A0 n0 c0, .slice E0 m0 d0]
  have B0 := (Below.refl w.heap.size w).alloc (by simp) (.cells [Value.int .i64 x0.kind, .int .i64 x0.field, .int .i64 x0.value, .slice A0 n0 c0, .slice E0 m0 d0].toArray 25)
  skip
  clear S0 T0
  go_enter Try.func6, Try.ntmps6
  have cX00_0 := X00.cell 0
  have cX00_1 := X00.cell 1
  have cX00_2 := X00.cell 2
  have cX00_3 := X00.cell 3
  have cX00_4 := X00.cell 4
  simp at cX00_0 cX00_1 cX00_2 cX00_3 cX00_4
  go_wp2_with fail
  refine (sz_wish _ (HS0.out.on RI.keeps B0) (HT0.out.on RP.keeps B0) (by omega) (by omega)).mono ?_
  rintro e w1 ⟨rfl, b1⟩
  have B1 := B0.trans (b1.mono B0.size)
  have X0_1 := X00.below b1 X00.lt
  clear cX00_0 cX00_1 cX00_2 cX00_3 cX00_4
  clear X00 b1
  have cX0_1_0 := X0_1.cell 0
  have cX0_1_1 := X0_1.cell 1
  have cX0_1_2 := X0_1.cell 2
  have cX0_1_3 := X0_1.cell 3
  have cX0_1_4 := X0_1.cell 4
  simp at cX0_1_0 cX0_1_1 cX0_1_2 cX0_1_3 cX0_1_4
  rw [less_fit (left := 1048576) (t := (x0.list.length + x0.pairs.length)) (by omega)]
  go_wp2_with fail
  refine (to_wish _ (HS0.out.on RI.keeps B1) (HT0.out.on RP.keeps B1) (by omega)).mono ?_
  rintro e w2 ⟨A2, n2, c2, E2, m2, d2, rfl, S2, T2, b2⟩
  have B2 := B1.trans (b2.mono B1.size)
  have X0_2 := X0_1.below b2 X0_1.lt
  clear cX0_1_0 cX0_1_1 cX0_1_2 cX0_1_3 cX0_1_4
  clear X0_1
  have cX0_2_0 := X0_2.cell 0
  have cX0_2_1 := X0_2.cell 1
  have cX0_2_2 := X0_2.cell 2
  have cX0_2_3 := X0_2.cell 3
  have cX0_2_4 := X0_2.cell 4
  simp at cX0_2_0 cX0_2_1 cX0_2_2 cX0_2_3 cX0_2_4
  clear b2
  go_wp2_with fail
  refine (specFormatWish _ S2 T2 f0 g0 h0).mono ?_
  rintro e w3 ⟨rfl, b3⟩
  have B3 := B2.trans (b3.mono B2.size)
  have X0_3 := X0_2.below b3 X0_2.lt
  clear cX0_2_0 cX0_2_1 cX0_2_2 cX0_2_3 cX0_2_4
  clear X0_2 b3
  have cX0_3_0 := X0_3.cell 0
  have cX0_3_1 := X0_3.cell 1
  have cX0_3_2 := X0_3.cell 2
  have cX0_3_3 := X0_3.cell 3
  have cX0_3_4 := X0_3.cell 4
  simp at cX0_3_0 cX0_3_1 cX0_3_2 cX0_3_3 cX0_3_4
  clear S2 T2
  go_wp2_with fail
  refine (to_wish _ (HS0.out.on RI.keeps B3) (HT0.out.on RP.keeps B3) (by omega)).mono ?_
  rintro e w4 ⟨A4, n4, c4, E4, m4, d4, rfl, S4, T4, b4⟩
  have B4 := B3.trans (b4.mono B3.size)
  have X0_4 := X0_3.below b4 X0_3.lt
  clear cX0_3_0 cX0_3_1 cX0_3_2 cX0_3_3 cX0_3_4
  clear X0_3
  have cX0_4_0 := X0_4.cell 0
  have cX0_4_1 := X0_4.cell 1
  have cX0_4_2 := X0_4.cell 2
  have cX0_4_3 := X0_4.cell 3
  have cX0_4_4 := X0_4.cell 4
  simp at cX0_4_0 cX0_4_1 cX0_4_2 cX0_4_3 cX0_4_4
  clear b4
  have Y0_4 := Row.new w4 30 [.int .i64 x0.kind, .int .i64 x0.field, .int .i64 x0.value, .slice A4 n4 c4, .slice E4 m4 d4]
  have b4 := (Below.refl w4.heap.size w4).alloc (Nat.le_refl _) (.cells [Value.int .i64 x0.kind, .int .i64 x0.field, .int .i64 x0.value, .slice A4 n4 c4, .slice E4 m4 d4].toArray 30)
  have X0_4a := X0_4.alloc (.cells [Value.int .i64 x0.kind, .int .i64 x0.field, .int .i64 x0.value, .slice A4 n4 c4, .slice E4 m4 d4].toArray 30)
  have S4 := S4.on RI.keeps b4
  have T4 := T4.on RP.keeps b4
  have B4a := B4.trans (b4.mono B4.size)
  clear cX0_4_0 cX0_4_1 cX0_4_2 cX0_4_3 cX0_4_4
  clear b4 X0_4
  have hlt4 := Y0_4.lt
  have cX0_4a_0 := X0_4a.cell 0
  have cX0_4a_1 := X0_4a.cell 1
  have cX0_4a_2 := X0_4a.cell 2
  have cX0_4a_3 := X0_4a.cell 3
  have cX0_4a_4 := X0_4a.cell 4
  have cY0_4_0 := Y0_4.cell 0
  have cY0_4_1 := Y0_4.cell 1
  have cY0_4_2 := Y0_4.cell 2
  have cY0_4_3 := Y0_4.cell 3
  have cY0_4_4 := Y0_4.cell 4
  simp at cX0_4a_0 cX0_4a_1 cX0_4a_2 cX0_4a_3 cX0_4a_4 cY0_4_0 cY0_4_1 cY0_4_2 cY0_4_3 cY0_4_4
  go_wp2_with fail
  refine (implFormatWish _ S4 T4 f0 g0 h0).mono ?_
  rintro e w5 ⟨rfl, b5⟩
  have B5 := B4a.trans (b5.mono B4a.size)
  have X0_5 := X0_4a.below b5 X0_4a.lt
  have Y0_5 := Y0_4.below b5 Y0_4.lt
  clear cX0_4a_0 cX0_4a_1 cX0_4a_2 cX0_4a_3 cX0_4a_4 cY0_4_0 cY0_4_1 cY0_4_2 cY0_4_3 cY0_4_4
  clear X0_4a Y0_4
  have cX0_5_0 := X0_5.cell 0
  have cX0_5_1 := X0_5.cell 1
  have cX0_5_2 := X0_5.cell 2
  have cX0_5_3 := X0_5.cell 3
  have cX0_5_4 := X0_5.cell 4
  have cY0_5_0 := Y0_5.cell 0
  have cY0_5_1 := Y0_5.cell 1
  have cY0_5_2 := Y0_5.cell 2
  have cY0_5_3 := Y0_5.cell 3
  have cY0_5_4 := Y0_5.cell 4
  simp at cX0_5_0 cX0_5_1 cX0_5_2 cX0_5_3 cX0_5_4 cY0_5_0 cY0_5_1 cY0_5_2 cY0_5_3 cY0_5_4
  have S4 := S4.on RI.keeps b5
  have T4 := T4.on RP.keeps b5
  clear b5
  have lX0_5 := X0_5.lt
  have lY0_5 := Y0_5.lt
  have ZS4 := Lib.hid S4
  have ZT4 := Lib.hid T4
  have QS0 := Lib.hid (HS0.out.on RI.keeps B5)
  have QT0 := Lib.hid (HT0.out.on RP.keeps B5)
  go_wp2_with fail
  go_region_held3 (fun w' => Below (w5).heap.size (w5) w' ∧ ∀ b o, b < (w5).heap.size → w'.cell? ⟨b, o, none⟩ = (w5).cell? ⟨b, o, none⟩) (first | exact ext_drew _ | exact ext_step (by assumption) (by assumption) | exact ext_alloc _ (by assumption)) ((first | (go_simp; go_at_call 11; with_reducible (refine (to_wish _ (QS0.out.held RI.keeps (by assumption)) (QT0.out.held RP.keeps (by assumption)) (by omega)).mono ?_); rintro e w6 ⟨A6, n6, c6, E6, m6, d6, rfl, S6, T6, b6⟩) | (go_simp; go_at_call 13; with_reducible (refine (eq_wish _ (ZS4.out.held RI.keeps (by assumption)) (ZT4.out.held RP.keeps (by assumption)) S6 T6).mono ?_); rintro e w7 ⟨rfl, b7⟩)))
  rename_i hHd
  have b107 : Below w5.heap.size w5 w7 := held_below hHd
  clear hHd
  have B7 := B5.trans (b107.mono B5.size)
  have X0_7 := X0_5.below b107 X0_5.lt
  have Y0_7 := Y0_5.below b107 Y0_5.lt
  have S4 := S4.on RI.keeps b107
  have T4 := T4.on RP.keeps b107
  clear cX0_5_0 cX0_5_1 cX0_5_2 cX0_5_3 cX0_5_4 cY0_5_0 cY0_5_1 cY0_5_2 cY0_5_3 cY0_5_4 X0_5 Y0_5
  go_wp2_with fail
  go_ret
  exact ⟨rfl, B7⟩
theorem FnExactFormatWish  (w : World) (v0 : Value) (x0 : Wi) (e0 : WishV w v0 x0) : Calls Try.prog 6 #[v0] w fun e w' => e = .returned (.bool true) ∧ Below w.heap.size w w' := by
  by_cases h0 : 1048576 < (x0.list.length + x0.pairs.length)
  · exact FnExactFormatWish_no0 w v0 x0 e0  h0
  exact FnExactFormatWish_yes w v0 x0 e0 (by omega)
end Go.Proofs.Ytoinkpbngghloaa.Wk
