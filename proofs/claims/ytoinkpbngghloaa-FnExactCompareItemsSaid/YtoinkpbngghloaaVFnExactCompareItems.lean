/-
  The walk of the law on CompareItems: the call returns true and has only made memory.
  Conditions: none beyond what the arguments read as.
-/
import Derived.Test.YtoinkpbngghloaaW40
import Derived.Test.YtoinkpbngghloaaU1
import Derived.Test.YtoinkpbngghloaaW44
import Derived.Deep.RegionHeld3
namespace Go.Proofs.Ytoinkpbngghloaa.Wk
open Go.RowKit Go.Proofs.Ytoinkpbngghloaa.M
set_option linter.unusedVariables false

set_option maxHeartbeats 3200000 in
set_option maxRecDepth 100000 in
theorem FnExactCompareItems_no0 (w : World) (v0 : Value) (x0 : Wi) (e0 : WishV w v0 x0) (v1 : Value) (x1 : It) (e1 : ItemV w v1 x1) (v2 : Value) (x2 : It) (e2 : ItemV w v2 x2)  (hbad : 1048576 < (x0.list.length + x0.pairs.length)) : Calls Try.prog 7 #[v0, v1, v2] w fun e w' => e = .returned (.bool true) ∧ Below w.heap.size w w' := by
  obtain ⟨A0, n0, c0, E0, m0, d0, rfl, f0, g0, h0, S0, T0⟩ := e0
  obtain ⟨A1, n1, c1, rfl, f1, S1⟩ := e1
  obtain ⟨A2, n2, c2, rfl, f2, S2⟩ := e2
  have HS0 := Lib.hid S0
  have HT0 := Lib.hid T0
  have HS1 := Lib.hid S1
  have HS2 := Lib.hid S2
  have X00 := Row.new w 25 [.int .i64 x0.kind, .int .i64 x0.field, .int .i64 x0.value, .slice A0 n0 c0, .slice E0 m0 d0]
  have X10 := Row.new (w.alloc (.cells [Value.int .i64 x0.kind, .int .i64 x0.field, .int .i64 x0.value, .slice A0 n0 c0, .slice E0 m0 d0].toArray 25)) 41 [.int .i64 x1.id, .slice A1 n1 c1]
  have X00 := X00.alloc (.cells [Value.int .i64 x1.id, .slice A1 n1 c1].toArray 41)
  have X20 := Row.new ((w.alloc (.cells [Value.int .i64 x0.kind, .int .i64 x0.field, .int .i64 x0.value, .slice A0 n0 c0, .slice E0 m0 d0].toArray 25)).alloc (.cells [Value.int .i64 x1.id, .slice A1 n1 c1].toArray 41)) 41 [.int .i64 x2.id, .slice A2 n2 c2]
  have X00 := X00.alloc (.cells [Value.int .i64 x2.id, .slice A2 n2 c2].toArray 41)
  have X10 := X10.alloc (.cells [Value.int .i64 x2.id, .slice A2 n2 c2].toArray 41)
  have B0 := (((Below.refl w.heap.size w).alloc (by simp) (.cells [Value.int .i64 x0.kind, .int .i64 x0.field, .int .i64 x0.value, .slice A0 n0 c0, .slice E0 m0 d0].toArray 25)).alloc (by simp) (.cells [Value.int .i64 x1.id, .slice A1 n1 c1].toArray 41)).alloc (by simp; omega) (.cells [Value.int .i64 x2.id, .slice A2 n2 c2].toArray 41)
  simp only [World.size_alloc] at X00 X10 X20
  clear S0 T0
  clear S1
  clear S2
  go_enter Try.func7, Try.ntmps7
  have cX00_0 := X00.cell 0
  have cX00_1 := X00.cell 1
  have cX00_2 := X00.cell 2
  have cX00_3 := X00.cell 3
  have cX00_4 := X00.cell 4
  have cX10_0 := X10.cell 0
  have cX10_1 := X10.cell 1
  have cX20_0 := X20.cell 0
  have cX20_1 := X20.cell 1
  simp at cX00_0 cX00_1 cX00_2 cX00_3 cX00_4 cX10_0 cX10_1 cX20_0 cX20_1
  go_wp2_with fail
  refine (sz_wish _ (HS0.out.on RI.keeps B0) (HT0.out.on RP.keeps B0) (by omega) (by omega)).mono ?_
  rintro e w1 ⟨rfl, b1⟩
  have B1 := B0.trans (b1.mono B0.size)
  have X0_1 := X00.below b1 X00.lt
  have X1_1 := X10.below b1 X10.lt
  have X2_1 := X20.below b1 X20.lt
  clear cX00_0 cX00_1 cX00_2 cX00_3 cX00_4 cX10_0 cX10_1 cX20_0 cX20_1
  clear X00 X10 X20 b1
  have cX0_1_0 := X0_1.cell 0
  have cX0_1_1 := X0_1.cell 1
  have cX0_1_2 := X0_1.cell 2
  have cX0_1_3 := X0_1.cell 3
  have cX0_1_4 := X0_1.cell 4
  have cX1_1_0 := X1_1.cell 0
  have cX1_1_1 := X1_1.cell 1
  have cX2_1_0 := X2_1.cell 0
  have cX2_1_1 := X2_1.cell 1
  simp at cX0_1_0 cX0_1_1 cX0_1_2 cX0_1_3 cX0_1_4 cX1_1_0 cX1_1_1 cX2_1_0 cX2_1_1
  rw [less_no (left := 1048576) (t := (x0.list.length + x0.pairs.length)) (by omega)]
  clear cX0_1_0 cX0_1_1 cX0_1_2 cX0_1_3 cX0_1_4 cX1_1_0 cX1_1_1 cX2_1_0 cX2_1_1
  go_wp2_with fail
  go_ret
  exact ⟨rfl, B1⟩
set_option maxHeartbeats 3200000 in
set_option maxRecDepth 100000 in
theorem FnExactCompareItems_no1 (w : World) (v0 : Value) (x0 : Wi) (e0 : WishV w v0 x0) (v1 : Value) (x1 : It) (e1 : ItemV w v1 x1) (v2 : Value) (x2 : It) (e2 : ItemV w v2 x2) (hfit : (x0.list.length + x0.pairs.length) ≤ 1048576) (hbad : 1048576 < (x0.list.length + x0.pairs.length) + x1.vals.length) : Calls Try.prog 7 #[v0, v1, v2] w fun e w' => e = .returned (.bool true) ∧ Below w.heap.size w w' := by
  obtain ⟨A0, n0, c0, E0, m0, d0, rfl, f0, g0, h0, S0, T0⟩ := e0
  obtain ⟨A1, n1, c1, rfl, f1, S1⟩ := e1
  obtain ⟨A2, n2, c2, rfl, f2, S2⟩ := e2
  have HS0 := Lib.hid S0
  have HT0 := Lib.hid T0
  have HS1 := Lib.hid S1
  have HS2 := Lib.hid S2
  have X00 := Row.new w 25 [.int .i64 x0.kind, .int .i64 x0.field, .int .i64 x0.value, .slice A0 n0 c0, .slice E0 m0 d0]
  have X10 := Row.new (w.alloc (.cells [Value.int .i64 x0.kind, .int .i64 x0.field, .int .i64 x0.value, .slice A0 n0 c0, .slice E0 m0 d0].toArray 25)) 41 [.int .i64 x1.id, .slice A1 n1 c1]
  have X00 := X00.alloc (.cells [Value.int .i64 x1.id, .slice A1 n1 c1].toArray 41)
  have X20 := Row.new ((w.alloc (.cells [Value.int .i64 x0.kind, .int .i64 x0.field, .int .i64 x0.value, .slice A0 n0 c0, .slice E0 m0 d0].toArray 25)).alloc (.cells [Value.int .i64 x1.id, .slice A1 n1 c1].toArray 41)) 41 [.int .i64 x2.id, .slice A2 n2 c2]
  have X00 := X00.alloc (.cells [Value.int .i64 x2.id, .slice A2 n2 c2].toArray 41)
  have X10 := X10.alloc (.cells [Value.int .i64 x2.id, .slice A2 n2 c2].toArray 41)
  have B0 := (((Below.refl w.heap.size w).alloc (by simp) (.cells [Value.int .i64 x0.kind, .int .i64 x0.field, .int .i64 x0.value, .slice A0 n0 c0, .slice E0 m0 d0].toArray 25)).alloc (by simp) (.cells [Value.int .i64 x1.id, .slice A1 n1 c1].toArray 41)).alloc (by simp; omega) (.cells [Value.int .i64 x2.id, .slice A2 n2 c2].toArray 41)
  simp only [World.size_alloc] at X00 X10 X20
  clear S0 T0
  clear S1
  clear S2
  go_enter Try.func7, Try.ntmps7
  have cX00_0 := X00.cell 0
  have cX00_1 := X00.cell 1
  have cX00_2 := X00.cell 2
  have cX00_3 := X00.cell 3
  have cX00_4 := X00.cell 4
  have cX10_0 := X10.cell 0
  have cX10_1 := X10.cell 1
  have cX20_0 := X20.cell 0
  have cX20_1 := X20.cell 1
  simp at cX00_0 cX00_1 cX00_2 cX00_3 cX00_4 cX10_0 cX10_1 cX20_0 cX20_1
  go_wp2_with fail
  refine (sz_wish _ (HS0.out.on RI.keeps B0) (HT0.out.on RP.keeps B0) (by omega) (by omega)).mono ?_
  rintro e w1 ⟨rfl, b1⟩
  have B1 := B0.trans (b1.mono B0.size)
  have X0_1 := X00.below b1 X00.lt
  have X1_1 := X10.below b1 X10.lt
  have X2_1 := X20.below b1 X20.lt
  clear cX00_0 cX00_1 cX00_2 cX00_3 cX00_4 cX10_0 cX10_1 cX20_0 cX20_1
  clear X00 X10 X20 b1
  have cX0_1_0 := X0_1.cell 0
  have cX0_1_1 := X0_1.cell 1
  have cX0_1_2 := X0_1.cell 2
  have cX0_1_3 := X0_1.cell 3
  have cX0_1_4 := X0_1.cell 4
  have cX1_1_0 := X1_1.cell 0
  have cX1_1_1 := X1_1.cell 1
  have cX2_1_0 := X2_1.cell 0
  have cX2_1_1 := X2_1.cell 1
  simp at cX0_1_0 cX0_1_1 cX0_1_2 cX0_1_3 cX0_1_4 cX1_1_0 cX1_1_1 cX2_1_0 cX2_1_1
  rw [less_fit (left := 1048576) (t := (x0.list.length + x0.pairs.length)) (by omega)]
  go_wp2_with fail
  refine (sz_item _ (HS1.out.on RI.keeps B1) (by omega) (by omega)).mono ?_
  rintro e w2 ⟨rfl, b2⟩
  have B2 := B1.trans (b2.mono B1.size)
  have X0_2 := X0_1.below b2 X0_1.lt
  have X1_2 := X1_1.below b2 X1_1.lt
  have X2_2 := X2_1.below b2 X2_1.lt
  clear cX0_1_0 cX0_1_1 cX0_1_2 cX0_1_3 cX0_1_4 cX1_1_0 cX1_1_1 cX2_1_0 cX2_1_1
  clear X0_1 X1_1 X2_1 b2
  have cX0_2_0 := X0_2.cell 0
  have cX0_2_1 := X0_2.cell 1
  have cX0_2_2 := X0_2.cell 2
  have cX0_2_3 := X0_2.cell 3
  have cX0_2_4 := X0_2.cell 4
  have cX1_2_0 := X1_2.cell 0
  have cX1_2_1 := X1_2.cell 1
  have cX2_2_0 := X2_2.cell 0
  have cX2_2_1 := X2_2.cell 1
  simp at cX0_2_0 cX0_2_1 cX0_2_2 cX0_2_3 cX0_2_4 cX1_2_0 cX1_2_1 cX2_2_0 cX2_2_1
  rw [less_no (left := 1048576 - ((x0.list.length : Int) + (x0.pairs.length : Int))) (t := x1.vals.length) (by omega)]
  clear cX0_2_0 cX0_2_1 cX0_2_2 cX0_2_3 cX0_2_4 cX1_2_0 cX1_2_1 cX2_2_0 cX2_2_1
  go_wp2_with fail
  go_ret
  exact ⟨rfl, B2⟩
set_option maxHeartbeats 3200000 in
set_option maxRecDepth 100000 in
theorem FnExactCompareItems_no2 (w : World) (v0 : Value) (x0 : Wi) (e0 : WishV w v0 x0) (v1 : Value) (x1 : It) (e1 : ItemV w v1 x1) (v2 : Value) (x2 : It) (e2 : ItemV w v2 x2) (hfit : (x0.list.length + x0.pairs.length) + x1.vals.length ≤ 1048576) (hbad : 1048576 < (x0.list.length + x0.pairs.length) + x1.vals.length + x2.vals.length) : Calls Try.prog 7 #[v0, v1, v2] w fun e w' => e = .returned (.bool true) ∧ Below w.heap.size w w' := by
  obtain ⟨A0, n0, c0, E0, m0, d0, rfl, f0, g0, h0, S0, T0⟩ := e0
  obtain ⟨A1, n1, c1, rfl, f1, S1⟩ := e1
  obtain ⟨A2, n2, c2, rfl, f2, S2⟩ := e2
  have HS0 := Lib.hid S0
  have HT0 := Lib.hid T0
  have HS1 := Lib.hid S1
  have HS2 := Lib.hid S2
  have X00 := Row.new w 25 [.int .i64 x0.kind, .int .i64 x0.field, .int .i64 x0.value, .slice A0 n0 c0, .slice E0 m0 d0]
  have X10 := Row.new (w.alloc (.cells [Value.int .i64 x0.kind, .int .i64 x0.field, .int .i64 x0.value, .slice A0 n0 c0, .slice E0 m0 d0].toArray 25)) 41 [.int .i64 x1.id, .slice A1 n1 c1]
  have X00 := X00.alloc (.cells [Value.int .i64 x1.id, .slice A1 n1 c1].toArray 41)
  have X20 := Row.new ((w.alloc (.cells [Value.int .i64 x0.kind, .int .i64 x0.field, .int .i64 x0.value, .slice A0 n0 c0, .slice E0 m0 d0].toArray 25)).alloc (.cells [Value.int .i64 x1.id, .slice A1 n1 c1].toArray 41)) 41 [.int .i64 x2.id, .slice A2 n2 c2]
  have X00 := X00.alloc (.cells [Value.int .i64 x2.id, .slice A2 n2 c2].toArray 41)
  have X10 := X10.alloc (.cells [Value.int .i64 x2.id, .slice A2 n2 c2].toArray 41)
  have B0 := (((Below.refl w.heap.size w).alloc (by simp) (.cells [Value.int .i64 x0.kind, .int .i64 x0.field, .int .i64 x0.value, .slice A0 n0 c0, .slice E0 m0 d0].toArray 25)).alloc (by simp) (.cells [Value.int .i64 x1.id, .slice A1 n1 c1].toArray 41)).alloc (by simp; omega) (.cells [Value.int .i64 x2.id, .slice A2 n2 c2].toArray 41)
  simp only [World.size_alloc] at X00 X10 X20
  clear S0 T0
  clear S1
  clear S2
  go_enter Try.func7, Try.ntmps7
  have cX00_0 := X00.cell 0
  have cX00_1 := X00.cell 1
  have cX00_2 := X00.cell 2
  have cX00_3 := X00.cell 3
  have cX00_4 := X00.cell 4
  have cX10_0 := X10.cell 0
  have cX10_1 := X10.cell 1
  have cX20_0 := X20.cell 0
  have cX20_1 := X20.cell 1
  simp at cX00_0 cX00_1 cX00_2 cX00_3 cX00_4 cX10_0 cX10_1 cX20_0 cX20_1
  go_wp2_with fail
  refine (sz_wish _ (HS0.out.on RI.keeps B0) (HT0.out.on RP.keeps B0) (by omega) (by omega)).mono ?_
  rintro e w1 ⟨rfl, b1⟩
  have B1 := B0.trans (b1.mono B0.size)
  have X0_1 := X00.below b1 X00.lt
  have X1_1 := X10.below b1 X10.lt
  have X2_1 := X20.below b1 X20.lt
  clear cX00_0 cX00_1 cX00_2 cX00_3 cX00_4 cX10_0 cX10_1 cX20_0 cX20_1
  clear X00 X10 X20 b1
  have cX0_1_0 := X0_1.cell 0
  have cX0_1_1 := X0_1.cell 1
  have cX0_1_2 := X0_1.cell 2
  have cX0_1_3 := X0_1.cell 3
  have cX0_1_4 := X0_1.cell 4
  have cX1_1_0 := X1_1.cell 0
  have cX1_1_1 := X1_1.cell 1
  have cX2_1_0 := X2_1.cell 0
  have cX2_1_1 := X2_1.cell 1
  simp at cX0_1_0 cX0_1_1 cX0_1_2 cX0_1_3 cX0_1_4 cX1_1_0 cX1_1_1 cX2_1_0 cX2_1_1
  rw [less_fit (left := 1048576) (t := (x0.list.length + x0.pairs.length)) (by omega)]
  go_wp2_with fail
  refine (sz_item _ (HS1.out.on RI.keeps B1) (by omega) (by omega)).mono ?_
  rintro e w2 ⟨rfl, b2⟩
  have B2 := B1.trans (b2.mono B1.size)
  have X0_2 := X0_1.below b2 X0_1.lt
  have X1_2 := X1_1.below b2 X1_1.lt
  have X2_2 := X2_1.below b2 X2_1.lt
  clear cX0_1_0 cX0_1_1 cX0_1_2 cX0_1_3 cX0_1_4 cX1_1_0 cX1_1_1 cX2_1_0 cX2_1_1
  clear X0_1 X1_1 X2_1 b2
  have cX0_2_0 := X0_2.cell 0
  have cX0_2_1 := X0_2.cell 1
  have cX0_2_2 := X0_2.cell 2
  have cX0_2_3 := X0_2.cell 3
  have cX0_2_4 := X0_2.cell 4
  have cX1_2_0 := X1_2.cell 0
  have cX1_2_1 := X1_2.cell 1
  have cX2_2_0 := X2_2.cell 0
  have cX2_2_1 := X2_2.cell 1
  simp at cX0_2_0 cX0_2_1 cX0_2_2 cX0_2_3 cX0_2_4 cX1_2_0 cX1_2_1 cX2_2_0 cX2_2_1
  rw [less_fit (left := 1048576 - ((x0.list.length : Int) + (x0.pairs.length : Int))) (t := x1.vals.length) (by omega)]
  go_wp2_with fail
  refine (sz_item _ (HS2.out.on RI.keeps B2) (by omega) (by omega)).mono ?_
  rintro e w3 ⟨rfl, b3⟩
  have B3 := B2.trans (b3.mono B2.size)
  have X0_3 := X0_2.below b3 X0_2.lt
  have X1_3 := X1_2.below b3 X1_2.lt
  have X2_3 := X2_2.below b3 X2_2.lt
  clear cX0_2_0 cX0_2_1 cX0_2_2 cX0_2_3 cX0_2_4 cX1_2_0 cX1_2_1 cX2_2_0 cX2_2_1
  clear X0_2 X1_2 X2_2 b3
  have cX0_3_0 := X0_3.cell 0
  have cX0_3_1 := X0_3.cell 1
  have cX0_3_2 := X0_3.cell 2
  have cX0_3_3 := X0_3.cell 3
  have cX0_3_4 := X0_3.cell 4
  have cX1_3_0 := X1_3.cell 0
  have cX1_3_1 := X1_3.cell 1
  have cX2_3_0 := X2_3.cell 0
  have cX2_3_1 := X2_3.cell 1
  simp at cX0_3_0 cX0_3_1 cX0_3_2 cX0_3_3 cX0_3_4 cX1_3_0 cX1_3_1 cX2_3_0 cX2_3_1
  rw [less_no (left := 1048576 - ((x0.list.length : Int) + (x0.pairs.length : Int)) - ((x1.vals.length : Nat) : Int)) (t := x2.vals.length) (by omega)]
  clear cX0_3_0 cX0_3_1 cX0_3_2 cX0_3_3 cX0_3_4 cX1_3_0 cX1_3_1 cX2_3_0 cX2_3_1
  go_wp2_with fail
  go_ret
  exact ⟨rfl, B3⟩
set_option maxHeartbeats 3200000 in
set_option maxRecDepth 100000 in
theorem FnExactCompareItems_yes (w : World) (v0 : Value) (x0 : Wi) (e0 : WishV w v0 x0) (v1 : Value) (x1 : It) (e1 : ItemV w v1 x1) (v2 : Value) (x2 : It) (e2 : ItemV w v2 x2) (hfit : (x0.list.length + x0.pairs.length) + x1.vals.length + x2.vals.length ≤ 1048576) : Calls Try.prog 7 #[v0, v1, v2] w fun e w' => e = .returned (.bool true) ∧ Below w.heap.size w w' := by
  obtain ⟨A0, n0, c0, E0, m0, d0, rfl, f0, g0, h0, S0, T0⟩ := e0
  obtain ⟨A1, n1, c1, rfl, f1, S1⟩ := e1
  obtain ⟨A2, n2, c2, rfl, f2, S2⟩ := e2
  have HS0 := Lib.hid S0
  have HT0 := Lib.hid T0
  have HS1 := Lib.hid S1
  have HS2 := Lib.hid S2
  have X00 := Row.new w 25 [.int .i64 x0.kind, .int .i64 x0.field, .int .i64 x0.value, .slice A0 n0 c0, .slice E0 m0 d0]
  have X10 := Row.new (w.alloc (.cells [Value.int .i64 x0.kind, .int .i64 x0.field, .int .i64 x0.value, .slice A0 n0 c0, .slice E0 m0 d0].toArray 25)) 41 [.int .i64 x1.id, .slice A1 n1 c1]
  have X00 := X00.alloc (.cells [Value.int .i64 x1.id, .slice A1 n1 c1].toArray 41)
  have X20 := Row.new ((w.alloc (.cells [Value.int .i64 x0.kind, .int .i64 x0.field, .int .i64 x0.value, .slice A0 n0 c0, .slice E0 m0 d0].toArray 25)).alloc (.cells [Value.int .i64 x1.id, .slice A1 n1 c1].toArray 41)) 41 [.int .i64 x2.id, .slice A2 n2 c2]
  have X00 := X00.alloc (.cells [Value.int .i64 x2.id, .slice A2 n2 c2].toArray 41)
  have X10 := X10.alloc (.cells [Value.int .i64 x2.id, .slice A2 n2 c2].toArray 41)
  have B0 := (((Below.refl w.heap.size w).alloc (by simp) (.cells [Value.int .i64 x0.kind, .int .i64 x0.field, .int .i64 x0.value, .slice A0 n0 c0, .slice E0 m0 d0].toArray 25)).alloc (by simp) (.cells [Value.int .i64 x1.id, .slice A1 n1 c1].toArray 41)).alloc (by simp; omega) (.cells [Value.int .i64 x2.id, .slice A2 n2 c2].toArray 41)
  simp only [World.size_alloc] at X00 X10 X20
  clear S0 T0
  clear S1
  clear S2
  go_enter Try.func7, Try.ntmps7
  have cX00_0 := X00.cell 0
  have cX00_1 := X00.cell 1
  have cX00_2 := X00.cell 2
  have cX00_3 := X00.cell 3
  have cX00_4 := X00.cell 4
  have cX10_0 := X10.cell 0
  have cX10_1 := X10.cell 1
  have cX20_0 := X20.cell 0
  have cX20_1 := X20.cell 1
  simp at cX00_0 cX00_1 cX00_2 cX00_3 cX00_4 cX10_0 cX10_1 cX20_0 cX20_1
  go_wp2_with fail
  refine (sz_wish _ (HS0.out.on RI.keeps B0) (HT0.out.on RP.keeps B0) (by omega) (by omega)).mono ?_
  rintro e w1 ⟨rfl, b1⟩
  have B1 := B0.trans (b1.mono B0.size)
  have X0_1 := X00.below b1 X00.lt
  have X1_1 := X10.below b1 X10.lt
  have X2_1 := X20.below b1 X20.lt
  clear cX00_0 cX00_1 cX00_2 cX00_3 cX00_4 cX10_0 cX10_1 cX20_0 cX20_1
  clear X00 X10 X20 b1
  have cX0_1_0 := X0_1.cell 0
  have cX0_1_1 := X0_1.cell 1
  have cX0_1_2 := X0_1.cell 2
  have cX0_1_3 := X0_1.cell 3
  have cX0_1_4 := X0_1.cell 4
  have cX1_1_0 := X1_1.cell 0
  have cX1_1_1 := X1_1.cell 1
  have cX2_1_0 := X2_1.cell 0
  have cX2_1_1 := X2_1.cell 1
  simp at cX0_1_0 cX0_1_1 cX0_1_2 cX0_1_3 cX0_1_4 cX1_1_0 cX1_1_1 cX2_1_0 cX2_1_1
  rw [less_fit (left := 1048576) (t := (x0.list.length + x0.pairs.length)) (by omega)]
  go_wp2_with fail
  refine (sz_item _ (HS1.out.on RI.keeps B1) (by omega) (by omega)).mono ?_
  rintro e w2 ⟨rfl, b2⟩
  have B2 := B1.trans (b2.mono B1.size)
  have X0_2 := X0_1.below b2 X0_1.lt
  have X1_2 := X1_1.below b2 X1_1.lt
  have X2_2 := X2_1.below b2 X2_1.lt
  clear cX0_1_0 cX0_1_1 cX0_1_2 cX0_1_3 cX0_1_4 cX1_1_0 cX1_1_1 cX2_1_0 cX2_1_1
  clear X0_1 X1_1 X2_1 b2
  have cX0_2_0 := X0_2.cell 0
  have cX0_2_1 := X0_2.cell 1
  have cX0_2_2 := X0_2.cell 2
  have cX0_2_3 := X0_2.cell 3
  have cX0_2_4 := X0_2.cell 4
  have cX1_2_0 := X1_2.cell 0
  have cX1_2_1 := X1_2.cell 1
  have cX2_2_0 := X2_2.cell 0
  have cX2_2_1 := X2_2.cell 1
  simp at cX0_2_0 cX0_2_1 cX0_2_2 cX0_2_3 cX0_2_4 cX1_2_0 cX1_2_1 cX2_2_0 cX2_2_1
  rw [less_fit (left := 1048576 - ((x0.list.length : Int) + (x0.pairs.length : Int))) (t := x1.vals.length) (by omega)]
  go_wp2_with fail
  refine (sz_item _ (HS2.out.on RI.keeps B2) (by omega) (by omega)).mono ?_
  rintro e w3 ⟨rfl, b3⟩
  have B3 := B2.trans (b3.mono B2.size)
  have X0_3 := X0_2.below b3 X0_2.lt
  have X1_3 := X1_2.below b3 X1_2.lt
  have X2_3 := X2_2.below b3 X2_2.lt
  clear cX0_2_0 cX0_2_1 cX0_2_2 cX0_2_3 cX0_2_4 cX1_2_0 cX1_2_1 cX2_2_0 cX2_2_1
  clear X0_2 X1_2 X2_2 b3
  have cX0_3_0 := X0_3.cell 0
  have cX0_3_1 := X0_3.cell 1
  have cX0_3_2 := X0_3.cell 2
  have cX0_3_3 := X0_3.cell 3
  have cX0_3_4 := X0_3.cell 4
  have cX1_3_0 := X1_3.cell 0
  have cX1_3_1 := X1_3.cell 1
  have cX2_3_0 := X2_3.cell 0
  have cX2_3_1 := X2_3.cell 1
  simp at cX0_3_0 cX0_3_1 cX0_3_2 cX0_3_3 cX0_3_4 cX1_3_0 cX1_3_1 cX2_3_0 cX2_3_1
  rw [less_fit (left := 1048576 - ((x0.list.length : Int) + (x0.pairs.length : Int)) - ((x1.vals.length : Nat) : Int)) (t := x2.vals.length) (by omega)]
  have QS0 := Lib.hid (HS0.out.on RI.keeps B3)
  have QT0 := Lib.hid (HT0.out.on RP.keeps B3)
  have QS1 := Lib.hid (HS1.out.on RI.keeps B3)
  have QS2 := Lib.hid (HS2.out.on RI.keeps B3)
  have lX0_3 := X0_3.lt
  have lX1_3 := X1_3.lt
  have lX2_3 := X2_3.lt
  go_wp2_with fail
  go_region_held3 (fun w' => Below (w3).heap.size (w3) w' ∧ ∀ b o, b < (w3).heap.size → w'.cell? ⟨b, o, none⟩ = (w3).cell? ⟨b, o, none⟩) (first | exact ext_drew _ | exact ext_step (by assumption) (by assumption) | exact ext_alloc _ (by assumption)) ((first | (go_simp; go_at_call 11; with_reducible (refine (to_wish _ (QS0.out.held RI.keeps (by assumption)) (QT0.out.held RP.keeps (by assumption)) (by omega)).mono ?_); rintro e w4 ⟨A4, n4, c4, E4, m4, d4, rfl, S4, T4, b4⟩) | (go_simp; go_at_call 22; with_reducible (refine (to_item _ (QS1.out.held RI.keeps (by assumption)) (by omega)).mono ?_); rintro e w5 ⟨A5, n5, c5, rfl, S5, b5⟩) | (go_simp; go_at_call 22; with_reducible (refine (to_item _ (QS2.out.held RI.keeps (by assumption)) (by omega)).mono ?_); rintro e w6 ⟨A6, n6, c6, rfl, S6, b6⟩) | (go_simp; go_at_call 21; with_reducible (refine (specCompareItems _ ((S4.on RI.keeps b5).on RI.keeps b6) ((T4.on RP.keeps b5).on RP.keeps b6) f0 g0 h0 (S5.on RI.keeps b6) f1 S6 f2).mono ?_); rintro e w7 ⟨rfl, b7⟩)))
  rename_i hHd
  have b307 : Below w3.heap.size w3 w7 := held_below hHd
  clear hHd
  have B7 := B3.trans (b307.mono B3.size)
  have X0_7 := X0_3.below b307 X0_3.lt
  have X1_7 := X1_3.below b307 X1_3.lt
  have X2_7 := X2_3.below b307 X2_3.lt
  clear cX0_3_0 cX0_3_1 cX0_3_2 cX0_3_3 cX0_3_4 cX1_3_0 cX1_3_1 cX2_3_0 cX2_3_1 X0_3 lX0_3 X1_3 lX1_3 X2_3 lX2_3
  have cX0_7_0 := X0_7.cell 0
  have cX0_7_1 := X0_7.cell 1
  have cX0_7_2 := X0_7.cell 2
  have cX0_7_3 := X0_7.cell 3
  have cX0_7_4 := X0_7.cell 4
  have cX1_7_0 := X1_7.cell 0
  have cX1_7_1 := X1_7.cell 1
  have cX2_7_0 := X2_7.cell 0
  have cX2_7_1 := X2_7.cell 1
  simp at cX0_7_0 cX0_7_1 cX0_7_2 cX0_7_3 cX0_7_4 cX1_7_0 cX1_7_1 cX2_7_0 cX2_7_1
  go_wp2_with fail
  refine (to_wish _ (HS0.out.on RI.keeps B7) (HT0.out.on RP.keeps B7) (by omega)).mono ?_
  rintro e w8 ⟨A8, n8, c8, E8, m8, d8, rfl, S8, T8, b8⟩
  have B8 := B7.trans (b8.mono B7.size)
  have X0_8 := X0_7.below b8 X0_7.lt
  have X1_8 := X1_7.below b8 X1_7.lt
  have X2_8 := X2_7.below b8 X2_7.lt
  clear cX0_7_0 cX0_7_1 cX0_7_2 cX0_7_3 cX0_7_4 cX1_7_0 cX1_7_1 cX2_7_0 cX2_7_1
  clear X0_7 X1_7 X2_7
  have cX0_8_0 := X0_8.cell 0
  have cX0_8_1 := X0_8.cell 1
  have cX0_8_2 := X0_8.cell 2
  have cX0_8_3 := X0_8.cell 3
  have cX0_8_4 := X0_8.cell 4
  have cX1_8_0 := X1_8.cell 0
  have cX1_8_1 := X1_8.cell 1
  have cX2_8_0 := X2_8.cell 0
  have cX2_8_1 := X2_8.cell 1
  simp at cX0_8_0 cX0_8_1 cX0_8_2 cX0_8_3 cX0_8_4 cX1_8_0 cX1_8_1 cX2_8_0 cX2_8_1
  clear b8
  have Y0_8 := Row.new w8 30 [.int .i64 x0.kind, .int .i64 x0.field, .int .i64 x0.value, .slice A8 n8 c8, .slice E8 m8 d8]
  have b8 := (Below.refl w8.heap.size w8).alloc (Nat.le_refl _) (.cells [Value.int .i64 x0.kind, .int .i64 x0.field, .int .i64 x0.value, .slice A8 n8 c8, .slice E8 m8 d8].toArray 30)
  have X0_8a := X0_8.alloc (.cells [Value.int .i64 x0.kind, .int .i64 x0.field, .int .i64 x0.value, .slice A8 n8 c8, .slice E8 m8 d8].toArray 30)
  have X1_8a := X1_8.alloc (.cells [Value.int .i64 x0.kind, .int .i64 x0.field, .int .i64 x0.value, .slice A8 n8 c8, .slice E8 m8 d8].toArray 30)
  have X2_8a := X2_8.alloc (.cells [Value.int .i64 x0.kind, .int .i64 x0.field, .int .i64 x0.value, .slice A8 n8 c8, .slice E8 m8 d8].toArray 30)
  have S8 := S8.on RI.keeps b8
  have T8 := T8.on RP.keeps b8
  have B8a := B8.trans (b8.mono B8.size)
  clear cX0_8_0 cX0_8_1 cX0_8_2 cX0_8_3 cX0_8_4 cX1_8_0 cX1_8_1 cX2_8_0 cX2_8_1
  clear b8 X0_8 X1_8 X2_8
  have hlt8 := Y0_8.lt
  have cX0_8a_0 := X0_8a.cell 0
  have cX0_8a_1 := X0_8a.cell 1
  have cX0_8a_2 := X0_8a.cell 2
  have cX0_8a_3 := X0_8a.cell 3
  have cX0_8a_4 := X0_8a.cell 4
  have cX1_8a_0 := X1_8a.cell 0
  have cX1_8a_1 := X1_8a.cell 1
  have cX2_8a_0 := X2_8a.cell 0
  have cX2_8a_1 := X2_8a.cell 1
  have cY0_8_0 := Y0_8.cell 0
  have cY0_8_1 := Y0_8.cell 1
  have cY0_8_2 := Y0_8.cell 2
  have cY0_8_3 := Y0_8.cell 3
  have cY0_8_4 := Y0_8.cell 4
  simp at cX0_8a_0 cX0_8a_1 cX0_8a_2 cX0_8a_3 cX0_8a_4 cX1_8a_0 cX1_8a_1 cX2_8a_0 cX2_8a_1 cY0_8_0 cY0_8_1 cY0_8_2 cY0_8_3 cY0_8_4
  go_wp2_with fail
  refine (to_item _ (HS1.out.on RI.keeps B8a) (by omega)).mono ?_
  rintro e w9 ⟨A9, n9, c9, rfl, S9, b9⟩
  have B9 := B8a.trans (b9.mono B8a.size)
  have X0_9 := X0_8a.below b9 X0_8a.lt
  have X1_9 := X1_8a.below b9 X1_8a.lt
  have X2_9 := X2_8a.below b9 X2_8a.lt
  have Y0_9 := Y0_8.below b9 Y0_8.lt
  clear cX0_8a_0 cX0_8a_1 cX0_8a_2 cX0_8a_3 cX0_8a_4 cX1_8a_0 cX1_8a_1 cX2_8a_0 cX2_8a_1 cY0_8_0 cY0_8_1 cY0_8_2 cY0_8_3 cY0_8_4
  clear X0_8a X1_8a X2_8a Y0_8
  have cX0_9_0 := X0_9.cell 0
  have cX0_9_1 := X0_9.cell 1
  have cX0_9_2 := X0_9.cell 2
  have cX0_9_3 := X0_9.cell 3
  have cX0_9_4 := X0_9.cell 4
  have cX1_9_0 := X1_9.cell 0
  have cX1_9_1 := X1_9.cell 1
  have cX2_9_0 := X2_9.cell 0
  have cX2_9_1 := X2_9.cell 1
  have cY0_9_0 := Y0_9.cell 0
  have cY0_9_1 := Y0_9.cell 1
  have cY0_9_2 := Y0_9.cell 2
  have cY0_9_3 := Y0_9.cell 3
  have cY0_9_4 := Y0_9.cell 4
  simp at cX0_9_0 cX0_9_1 cX0_9_2 cX0_9_3 cX0_9_4 cX1_9_0 cX1_9_1 cX2_9_0 cX2_9_1 cY0_9_0 cY0_9_1 cY0_9_2 cY0_9_3 cY0_9_4
  have S8 := S8.on RI.keeps b9
  have T8 := T8.on RP.keeps b9
  clear b9
  have Y1_9 := Row.new w9 44 [.int .i64 x1.id, .slice A9 n9 c9]
  have b9 := (Below.refl w9.heap.size w9).alloc (Nat.le_refl _) (.cells [Value.int .i64 x1.id, .slice A9 n9 c9].toArray 44)
  have X0_9a := X0_9.alloc (.cells [Value.int .i64 x1.id, .slice A9 n9 c9].toArray 44)
  have X1_9a := X1_9.alloc (.cells [Value.int .i64 x1.id, .slice A9 n9 c9].toArray 44)
  have X2_9a := X2_9.alloc (.cells [Value.int .i64 x1.id, .slice A9 n9 c9].toArray 44)
  have Y0_9a := Y0_9.alloc (.cells [Value.int .i64 x1.id, .slice A9 n9 c9].toArray 44)
  have S8 := S8.on RI.keeps b9
  have T8 := T8.on RP.keeps b9
  have S9 := S9.on RI.keeps b9
  have B9a := B9.trans (b9.mono B9.size)
  clear cX0_9_0 cX0_9_1 cX0_9_2 cX0_9_3 cX0_9_4 cX1_9_0 cX1_9_1 cX2_9_0 cX2_9_1 cY0_9_0 cY0_9_1 cY0_9_2 cY0_9_3 cY0_9_4
  clear b9 X0_9 X1_9 X2_9 Y0_9
  have hlt9 := Y1_9.lt
  have cX0_9a_0 := X0_9a.cell 0
  have cX0_9a_1 := X0_9a.cell 1
  have cX0_9a_2 := X0_9a.cell 2
  have cX0_9a_3 := X0_9a.cell 3
  have cX0_9a_4 := X0_9a.cell 4
  have cX1_9a_0 := X1_9a.cell 0
  have cX1_9a_1 := X1_9a.cell 1
  have cX2_9a_0 := X2_9a.cell 0
  have cX2_9a_1 := X2_9a.cell 1
  have cY0_9a_0 := Y0_9a.cell 0
  have cY0_9a_1 := Y0_9a.cell 1
  have cY0_9a_2 := Y0_9a.cell 2
  have cY0_9a_3 := Y0_9a.cell 3
  have cY0_9a_4 := Y0_9a.cell 4
  have cY1_9_0 := Y1_9.cell 0
  have cY1_9_1 := Y1_9.cell 1
  simp at cX0_9a_0 cX0_9a_1 cX0_9a_2 cX0_9a_3 cX0_9a_4 cX1_9a_0 cX1_9a_1 cX2_9a_0 cX2_9a_1 cY0_9a_0 cY0_9a_1 cY0_9a_2 cY0_9a_3 cY0_9a_4 cY1_9_0 cY1_9_1
  go_wp2_with fail
  refine (to_item _ (HS2.out.on RI.keeps B9a) (by omega)).mono ?_
  rintro e w10 ⟨A10, n10, c10, rfl, S10, b10⟩
  have B10 := B9a.trans (b10.mono B9a.size)
  have X0_10 := X0_9a.below b10 X0_9a.lt
  have X1_10 := X1_9a.below b10 X1_9a.lt
  have X2_10 := X2_9a.below b10 X2_9a.lt
  have Y0_10 := Y0_9a.below b10 Y0_9a.lt
  have Y1_10 := Y1_9.below b10 Y1_9.lt
  clear cX0_9a_0 cX0_9a_1 cX0_9a_2 cX0_9a_3 cX0_9a_4 cX1_9a_0 cX1_9a_1 cX2_9a_0 cX2_9a_1 cY0_9a_0 cY0_9a_1 cY0_9a_2 cY0_9a_3 cY0_9a_4 cY1_9_0 cY1_9_1
  clear X0_9a X1_9a X2_9a Y0_9a Y1_9
  have cX0_10_0 := X0_10.cell 0
  have cX0_10_1 := X0_10.cell 1
  have cX0_10_2 := X0_10.cell 2
  have cX0_10_3 := X0_10.cell 3
  have cX0_10_4 := X0_10.cell 4
  have cX1_10_0 := X1_10.cell 0
  have cX1_10_1 := X1_10.cell 1
  have cX2_10_0 := X2_10.cell 0
  have cX2_10_1 := X2_10.cell 1
  have cY0_10_0 := Y0_10.cell 0
  have cY0_10_1 := Y0_10.cell 1
  have cY0_10_2 := Y0_10.cell 2
  have cY0_10_3 := Y0_10.cell 3
  have cY0_10_4 := Y0_10.cell 4
  have cY1_10_0 := Y1_10.cell 0
  have cY1_10_1 := Y1_10.cell 1
  simp at cX0_10_0 cX0_10_1 cX0_10_2 cX0_10_3 cX0_10_4 cX1_10_0 cX1_10_1 cX2_10_0 cX2_10_1 cY0_10_0 cY0_10_1 cY0_10_2 cY0_10_3 cY0_10_4 cY1_10_0 cY1_10_1
  have S8 := S8.on RI.keeps b10
  have T8 := T8.on RP.keeps b10
  have S9 := S9.on RI.keeps b10
  clear b10
  have Y2_10 := Row.new w10 44 [.int .i64 x2.id, .slice A10 n10 c10]
  have b10 := (Below.refl w10.heap.size w10).alloc (Nat.le_refl _) (.cells [Value.int .i64 x2.id, .slice A10 n10 c10].toArray 44)
  have X0_10a := X0_10.alloc (.cells [Value.int .i64 x2.id, .slice A10 n10 c10].toArray 44)
  have X1_10a := X1_10.alloc (.cells [Value.int .i64 x2.id, .slice A10 n10 c10].toArray 44)
  have X2_10a := X2_10.alloc (.cells [Value.int .i64 x2.id, .slice A10 n10 c10].toArray 44)
  have Y0_10a := Y0_10.alloc (.cells [Value.int .i64 x2.id, .slice A10 n10 c10].toArray 44)
  have Y1_10a := Y1_10.alloc (.cells [Value.int .i64 x2.id, .slice A10 n10 c10].toArray 44)
  have S8 := S8.on RI.keeps b10
  have T8 := T8.on RP.keeps b10
  have S9 := S9.on RI.keeps b10
  have S10 := S10.on RI.keeps b10
  have B10a := B10.trans (b10.mono B10.size)
  clear cX0_10_0 cX0_10_1 cX0_10_2 cX0_10_3 cX0_10_4 cX1_10_0 cX1_10_1 cX2_10_0 cX2_10_1 cY0_10_0 cY0_10_1 cY0_10_2 cY0_10_3 cY0_10_4 cY1_10_0 cY1_10_1
  clear b10 X0_10 X1_10 X2_10 Y0_10 Y1_10
  have hlt10 := Y2_10.lt
  have cX0_10a_0 := X0_10a.cell 0
  have cX0_10a_1 := X0_10a.cell 1
  have cX0_10a_2 := X0_10a.cell 2
  have cX0_10a_3 := X0_10a.cell 3
  have cX0_10a_4 := X0_10a.cell 4
  have cX1_10a_0 := X1_10a.cell 0
  have cX1_10a_1 := X1_10a.cell 1
  have cX2_10a_0 := X2_10a.cell 0
  have cX2_10a_1 := X2_10a.cell 1
  have cY0_10a_0 := Y0_10a.cell 0
  have cY0_10a_1 := Y0_10a.cell 1
  have cY0_10a_2 := Y0_10a.cell 2
  have cY0_10a_3 := Y0_10a.cell 3
  have cY0_10a_4 := Y0_10a.cell 4
  have cY1_10a_0 := Y1_10a.cell 0
  have cY1_10a_1 := Y1_10a.cell 1
  have cY2_10_0 := Y2_10.cell 0
  have cY2_10_1 := Y2_10.cell 1
  simp at cX0_10a_0 cX0_10a_1 cX0_10a_2 cX0_10a_3 cX0_10a_4 cX1_10a_0 cX1_10a_1 cX2_10a_0 cX2_10a_1 cY0_10a_0 cY0_10a_1 cY0_10a_2 cY0_10a_3 cY0_10a_4 cY1_10a_0 cY1_10a_1 cY2_10_0 cY2_10_1
  go_wp2_with fail
  refine (implCompareItems _ S8 T8 f0 g0 h0 S9 f1 S10 f2).mono ?_
  rintro e w11 ⟨rfl, b11⟩
  have B11 := B10a.trans (b11.mono B10a.size)
  have X0_11 := X0_10a.below b11 X0_10a.lt
  have X1_11 := X1_10a.below b11 X1_10a.lt
  have X2_11 := X2_10a.below b11 X2_10a.lt
  have Y0_11 := Y0_10a.below b11 Y0_10a.lt
  have Y1_11 := Y1_10a.below b11 Y1_10a.lt
  have Y2_11 := Y2_10.below b11 Y2_10.lt
  clear cX0_10a_0 cX0_10a_1 cX0_10a_2 cX0_10a_3 cX0_10a_4 cX1_10a_0 cX1_10a_1 cX2_10a_0 cX2_10a_1 cY0_10a_0 cY0_10a_1 cY0_10a_2 cY0_10a_3 cY0_10a_4 cY1_10a_0 cY1_10a_1 cY2_10_0 cY2_10_1
  clear X0_10a X1_10a X2_10a Y0_10a Y1_10a Y2_10
  have cX0_11_0 := X0_11.cell 0
  have cX0_11_1 := X0_11.cell 1
  have cX0_11_2 := X0_11.cell 2
  have cX0_11_3 := X0_11.cell 3
  have cX0_11_4 := X0_11.cell 4
  have cX1_11_0 := X1_11.cell 0
  have cX1_11_1 := X1_11.cell 1
  have cX2_11_0 := X2_11.cell 0
  have cX2_11_1 := X2_11.cell 1
  have cY0_11_0 := Y0_11.cell 0
  have cY0_11_1 := Y0_11.cell 1
  have cY0_11_2 := Y0_11.cell 2
  have cY0_11_3 := Y0_11.cell 3
  have cY0_11_4 := Y0_11.cell 4
  have cY1_11_0 := Y1_11.cell 0
  have cY1_11_1 := Y1_11.cell 1
  have cY2_11_0 := Y2_11.cell 0
  have cY2_11_1 := Y2_11.cell 1
  simp at cX0_11_0 cX0_11_1 cX0_11_2 cX0_11_3 cX0_11_4 cX1_11_0 cX1_11_1 cX2_11_0 cX2_11_1 cY0_11_0 cY0_11_1 cY0_11_2 cY0_11_3 cY0_11_4 cY1_11_0 cY1_11_1 cY2_11_0 cY2_11_1
  have S8 := S8.on RI.keeps b11
  have T8 := T8.on RP.keeps b11
  have S9 := S9.on RI.keeps b11
  have S10 := S10.on RI.keeps b11
  clear b11
  have lX0_11 := X0_11.lt
  have lX1_11 := X1_11.lt
  have lX2_11 := X2_11.lt
  have lY0_11 := Y0_11.lt
  have lY1_11 := Y1_11.lt
  have lY2_11 := Y2_11.lt
  have ZS8 := Lib.hid S8
  have ZT8 := Lib.hid T8
  have QS0 := Lib.hid (HS0.out.on RI.keeps B11)
  have QT0 := Lib.hid (HT0.out.on RP.keeps B11)
  go_wp2_with fail
  go_region_held3 (fun w' => Below (w11).heap.size (w11) w' ∧ ∀ b o, b < (w11).heap.size → w'.cell? ⟨b, o, none⟩ = (w11).cell? ⟨b, o, none⟩) (first | exact ext_drew _ | exact ext_step (by assumption) (by assumption) | exact ext_alloc _ (by assumption)) ((first | (go_simp; go_at_call 11; with_reducible (refine (to_wish _ (QS0.out.held RI.keeps (by assumption)) (QT0.out.held RP.keeps (by assumption)) (by omega)).mono ?_); rintro e w12 ⟨A12, n12, c12, E12, m12, d12, rfl, S12, T12, b12⟩) | (go_simp; go_at_call 13; with_reducible (refine (eq_wish _ (ZS8.out.held RI.keeps (by assumption)) (ZT8.out.held RP.keeps (by assumption)) S12 T12).mono ?_); rintro e w13 ⟨rfl, b13⟩)))
  rename_i hHd
  have b113 : Below w11.heap.size w11 w13 := held_below hHd
  clear hHd
  have B13 := B11.trans (b113.mono B11.size)
  have X0_13 := X0_11.below b113 X0_11.lt
  have X1_13 := X1_11.below b113 X1_11.lt
  have X2_13 := X2_11.below b113 X2_11.lt
  have Y0_13 := Y0_11.below b113 Y0_11.lt
  have Y1_13 := Y1_11.below b113 Y1_11.lt
  have Y2_13 := Y2_11.below b113 Y2_11.lt
  have S8 := S8.on RI.keeps b113
  have T8 := T8.on RP.keeps b113
  have S9 := S9.on RI.keeps b113
  have S10 := S10.on RI.keeps b113
  clear cX0_11_0 cX0_11_1 cX0_11_2 cX0_11_3 cX0_11_4 cX1_11_0 cX1_11_1 cX2_11_0 cX2_11_1 cY0_11_0 cY0_11_1 cY0_11_2 cY0_11_3 cY0_11_4 cY1_11_0 cY1_11_1 cY2_11_0 cY2_11_1 X0_11 X1_11 X2_11 Y0_11 Y1_11 Y2_11
  have cX0_13_0 := X0_13.cell 0
  have cX0_13_1 := X0_13.cell 1
  have cX0_13_2 := X0_13.cell 2
  have cX0_13_3 := X0_13.cell 3
  have cX0_13_4 := X0_13.cell 4
  have cX1_13_0 := X1_13.cell 0
  have cX1_13_1 := X1_13.cell 1
  have cX2_13_0 := X2_13.cell 0
  have cX2_13_1 := X2_13.cell 1
  have cY0_13_0 := Y0_13.cell 0
  have cY0_13_1 := Y0_13.cell 1
  have cY0_13_2 := Y0_13.cell 2
  have cY0_13_3 := Y0_13.cell 3
  have cY0_13_4 := Y0_13.cell 4
  have cY1_13_0 := Y1_13.cell 0
  have cY1_13_1 := Y1_13.cell 1
  have cY2_13_0 := Y2_13.cell 0
  have cY2_13_1 := Y2_13.cell 1
  simp at cX0_13_0 cX0_13_1 cX0_13_2 cX0_13_3 cX0_13_4 cX1_13_0 cX1_13_1 cX2_13_0 cX2_13_1 cY0_13_0 cY0_13_1 cY0_13_2 cY0_13_3 cY0_13_4 cY1_13_0 cY1_13_1 cY2_13_0 cY2_13_1
  have lX0_13 := X0_13.lt
  have lX1_13 := X1_13.lt
  have lX2_13 := X2_13.lt
  have lY0_13 := Y0_13.lt
  have lY1_13 := Y1_13.lt
  have lY2_13 := Y2_13.lt
  have ZS9 := Lib.hid S9
  have QS1 := Lib.hid (HS1.out.on RI.keeps B13)
  go_wp2_with fail
  go_region_held3 (fun w' => Below (w13).heap.size (w13) w' ∧ ∀ b o, b < (w13).heap.size → w'.cell? ⟨b, o, none⟩ = (w13).cell? ⟨b, o, none⟩) (first | exact ext_drew _ | exact ext_step (by assumption) (by assumption) | exact ext_alloc _ (by assumption)) ((first | (go_simp; go_at_call 22; with_reducible (refine (to_item _ (QS1.out.held RI.keeps (by assumption)) (by omega)).mono ?_); rintro e w14 ⟨A14, n14, c14, rfl, S14, b14⟩) | (go_simp; go_at_call 24; with_reducible (refine (eq_item _ (ZS9.out.held RI.keeps (by assumption)) S14).mono ?_); rintro e w15 ⟨rfl, b15⟩)))
  rename_i hHd
  have b115 : Below w13.heap.size w13 w15 := held_below hHd
  clear hHd
  have B15 := B13.trans (b115.mono B13.size)
  have X0_15 := X0_13.below b115 X0_13.lt
  have X1_15 := X1_13.below b115 X1_13.lt
  have X2_15 := X2_13.below b115 X2_13.lt
  have Y0_15 := Y0_13.below b115 Y0_13.lt
  have Y1_15 := Y1_13.below b115 Y1_13.lt
  have Y2_15 := Y2_13.below b115 Y2_13.lt
  have S8 := S8.on RI.keeps b115
  have T8 := T8.on RP.keeps b115
  have S9 := S9.on RI.keeps b115
  have S10 := S10.on RI.keeps b115
  clear cX0_13_0 cX0_13_1 cX0_13_2 cX0_13_3 cX0_13_4 cX1_13_0 cX1_13_1 cX2_13_0 cX2_13_1 cY0_13_0 cY0_13_1 cY0_13_2 cY0_13_3 cY0_13_4 cY1_13_0 cY1_13_1 cY2_13_0 cY2_13_1 X0_13 X1_13 X2_13 Y0_13 Y1_13 Y2_13
  have cX0_15_0 := X0_15.cell 0
  have cX0_15_1 := X0_15.cell 1
  have cX0_15_2 := X0_15.cell 2
  have cX0_15_3 := X0_15.cell 3
  have cX0_15_4 := X0_15.cell 4
  have cX1_15_0 := X1_15.cell 0
  have cX1_15_1 := X1_15.cell 1
  have cX2_15_0 := X2_15.cell 0
  have cX2_15_1 := X2_15.cell 1
  have cY0_15_0 := Y0_15.cell 0
  have cY0_15_1 := Y0_15.cell 1
  have cY0_15_2 := Y0_15.cell 2
  have cY0_15_3 := Y0_15.cell 3
  have cY0_15_4 := Y0_15.cell 4
  have cY1_15_0 := Y1_15.cell 0
  have cY1_15_1 := Y1_15.cell 1
  have cY2_15_0 := Y2_15.cell 0
  have cY2_15_1 := Y2_15.cell 1
  simp at cX0_15_0 cX0_15_1 cX0_15_2 cX0_15_3 cX0_15_4 cX1_15_0 cX1_15_1 cX2_15_0 cX2_15_1 cY0_15_0 cY0_15_1 cY0_15_2 cY0_15_3 cY0_15_4 cY1_15_0 cY1_15_1 cY2_15_0 cY2_15_1
  have lX0_15 := X0_15.lt
  have lX1_15 := X1_15.lt
  have lX2_15 := X2_15.lt
  have lY0_15 := Y0_15.lt
  have lY1_15 := Y1_15.lt
  have lY2_15 := Y2_15.lt
  have ZS10 := Lib.hid S10
  have QS2 := Lib.hid (HS2.out.on RI.keeps B15)
  go_wp2_with fail
  go_region_held3 (fun w' => Below (w15).heap.size (w15) w' ∧ ∀ b o, b < (w15).heap.size → w'.cell? ⟨b, o, none⟩ = (w15).cell? ⟨b, o, none⟩) (first | exact ext_drew _ | exact ext_step (by assumption) (by assumption) | exact ext_alloc _ (by assumption)) ((first | (go_simp; go_at_call 22; with_reducible (refine (to_item _ (QS2.out.held RI.keeps (by assumption)) (by omega)).mono ?_); rintro e w16 ⟨A16, n16, c16, rfl, S16, b16⟩) | (go_simp; go_at_call 24; with_reducible (refine (eq_item _ (ZS10.out.held RI.keeps (by assumption)) S16).mono ?_); rintro e w17 ⟨rfl, b17⟩)))
  rename_i hHd
  have b117 : Below w15.heap.size w15 w17 := held_below hHd
  clear hHd
  have B17 := B15.trans (b117.mono B15.size)
  have X0_17 := X0_15.below b117 X0_15.lt
  have X1_17 := X1_15.below b117 X1_15.lt
  have X2_17 := X2_15.below b117 X2_15.lt
  have Y0_17 := Y0_15.below b117 Y0_15.lt
  have Y1_17 := Y1_15.below b117 Y1_15.lt
  have Y2_17 := Y2_15.below b117 Y2_15.lt
  have S8 := S8.on RI.keeps b117
  have T8 := T8.on RP.keeps b117
  have S9 := S9.on RI.keeps b117
  have S10 := S10.on RI.keeps b117
  clear cX0_15_0 cX0_15_1 cX0_15_2 cX0_15_3 cX0_15_4 cX1_15_0 cX1_15_1 cX2_15_0 cX2_15_1 cY0_15_0 cY0_15_1 cY0_15_2 cY0_15_3 cY0_15_4 cY1_15_0 cY1_15_1 cY2_15_0 cY2_15_1 X0_15 X1_15 X2_15 Y0_15 Y1_15 Y2_15
  go_wp2_with fail
  go_ret
  exact ⟨rfl, B17⟩
theorem FnExactCompareItems  (w : World) (v0 : Value) (x0 : Wi) (e0 : WishV w v0 x0) (v1 : Value) (x1 : It) (e1 : ItemV w v1 x1) (v2 : Value) (x2 : It) (e2 : ItemV w v2 x2) : Calls Try.prog 7 #[v0, v1, v2] w fun e w' => e = .returned (.bool true) ∧ Below w.heap.size w w' := by
  by_cases h0 : 1048576 < (x0.list.length + x0.pairs.length)
  · exact FnExactCompareItems_no0 w v0 x0 e0 v1 x1 e1 v2 x2 e2  h0
  by_cases h1 : 1048576 < (x0.list.length + x0.pairs.length) + x1.vals.length
  · exact FnExactCompareItems_no1 w v0 x0 e0 v1 x1 e1 v2 x2 e2 (by omega) h1
  by_cases h2 : 1048576 < (x0.list.length + x0.pairs.length) + x1.vals.length + x2.vals.length
  · exact FnExactCompareItems_no2 w v0 x0 e0 v1 x1 e1 v2 x2 e2 (by omega) h2
  exact FnExactCompareItems_yes w v0 x0 e0 v1 x1 e1 v2 x2 e2 (by omega)
end Go.Proofs.Ytoinkpbngghloaa.Wk
