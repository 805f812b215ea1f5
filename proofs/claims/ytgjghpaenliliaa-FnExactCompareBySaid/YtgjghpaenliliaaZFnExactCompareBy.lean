/-
  The given statement on laws.FnExactCompareBy: for every input that the row speaks of, the call returns true and the arguments read as before.
  Conditions: none beyond the row's own.
-/
import Derived.Test.YtgjghpaenliliaaW59
import Derived.Test.YtgjghpaenliliaaW50
import Derived.Test.YtgjghpaenliliaaU1
import Derived.Deep.RegionHeld3
import Derived.Test.YtgjghpaenliliaaO2
import Derived.Test.YtgjghpaenliliaaRows
import Derived.ProofKit
import Derived.OpenShut
import Derived.ShutString
import Derived.ChangeOld
import Derived.Below
namespace Go.Proofs.Ytgjghpaenliliaa.Wk
open Go.RowKit Go.Proofs.Ytgjghpaenliliaa.M
set_option linter.unusedVariables false

set_option maxHeartbeats 3200000 in
set_option maxRecDepth 100000 in
theorem FnExactCompareBy_no0 (w : World) (v0 : Value) (x0 : List Nd) (e0 : V RN 6 w w.heap.size v0 x0) (v1 : Value) (x1 : It) (e1 : ItemV w v1 x1) (v2 : Value) (x2 : It) (e2 : ItemV w v2 x2)  (hbad : 1048576 < totN x0) : Calls Try.prog 4 #[v0, v1, v2] w fun e w' => e = .returned (.bool true) ∧ Below w.heap.size w w' := by
  obtain ⟨A0, n0, c0, rfl, S0⟩ := e0
  obtain ⟨A1, n1, c1, rfl, f1, S1⟩ := e1
  obtain ⟨A2, n2, c2, rfl, f2, S2⟩ := e2
  have HS0 := Lib.hid S0
  have HS1 := Lib.hid S1
  have HS2 := Lib.hid S2
  have X10 := Row.new w 31 [.int .i64 x1.id, .slice A1 n1 c1]
  have X20 := Row.new (w.alloc (.cells [Value.int .i64 x1.id, .slice A1 n1 c1].toArray 31)) 31 [.int .i64 x2.id, .slice A2 n2 c2]
  have X10 := X10.alloc (.cells [Value.int .i64 x2.id, .slice A2 n2 c2].toArray 31)
  have B0 := ((Below.refl w.heap.size w).alloc (by simp) (.cells [Value.int .i64 x1.id, .slice A1 n1 c1].toArray 31)).alloc (by simp) (.cells [Value.int .i64 x2.id, .slice A2 n2 c2].toArray 31)
  simp only [World.size_alloc] at X10 X20
  clear S0
  clear S1
  clear S2
  go_enter Try.func4, Try.ntmps4
  have cX10_0 := X10.cell 0
  have cX10_1 := X10.cell 1
  have cX20_0 := X20.cell 0
  have cX20_1 := X20.cell 1
  simp at cX10_0 cX10_1 cX20_0 cX20_1
  go_wp2_with fail
  refine (sz_nodes _ (HS0.out.on RN.keeps B0) (by omega) (by omega)).mono ?_
  rintro e w1 ⟨rfl, b1⟩
  have B1 := B0.trans (b1.mono B0.size)
  have X1_1 := X10.below b1 X10.lt
  have X2_1 := X20.below b1 X20.lt
  clear cX10_0 cX10_1 cX20_0 cX20_1
  clear X10 X20 b1
  have cX1_1_0 := X1_1.cell 0
  have cX1_1_1 := X1_1.cell 1
  have cX2_1_0 := X2_1.cell 0
  have cX2_1_1 := X2_1.cell 1
  simp at cX1_1_0 cX1_1_1 cX2_1_0 cX2_1_1
  rw [less_no (left := 1048576) (t := totN x0) (by omega)]
  clear cX1_1_0 cX1_1_1 cX2_1_0 cX2_1_1
  go_wp2_with fail
  go_ret
  exact ⟨rfl, B1⟩
set_option maxHeartbeats 3200000 in
set_option maxRecDepth 100000 in
theorem FnExactCompareBy_no1 (w : World) (v0 : Value) (x0 : List Nd) (e0 : V RN 6 w w.heap.size v0 x0) (v1 : Value) (x1 : It) (e1 : ItemV w v1 x1) (v2 : Value) (x2 : It) (e2 : ItemV w v2 x2) (hfit : totN x0 ≤ 1048576) (hbad : 1048576 < totN x0 + x1.vals.length) : Calls Try.prog 4 #[v0, v1, v2] w fun e w' => e = .returned (.bool true) ∧ Below w.heap.size w w' := by
  obtain ⟨A0, n0, c0, rfl, S0⟩ := e0
  obtain ⟨A1, n1, c1, rfl, f1, S1⟩ := e1
  obtain ⟨A2, n2, c2, rfl, f2, S2⟩ := e2
  have HS0 := Lib.hid S0
  have HS1 := Lib.hid S1
  have HS2 := Lib.hid S2
  have X10 := Row.new w 31 [.int .i64 x1.id, .slice A1 n1 c1]
  have X20 := Row.new (w.alloc (.cells [Value.int .i64 x1.id, .slice A1 n1 c1].toArray 31)) 31 [.int .i64 x2.id, .slice A2 n2 c2]
  have X10 := X10.alloc (.cells [Value.int .i64 x2.id, .slice A2 n2 c2].toArray 31)
  have B0 := ((Below.refl w.heap.size w).alloc (by simp) (.cells [Value.int .i64 x1.id, .slice A1 n1 c1].toArray 31)).alloc (by simp) (.cells [Value.int .i64 x2.id, .slice A2 n2 c2].toArray 31)
  simp only [World.size_alloc] at X10 X20
  clear S0
  clear S1
  clear S2
  go_enter Try.func4, Try.ntmps4
  have cX10_0 := X10.cell 0
  have cX10_1 := X10.cell 1
  have cX20_0 := X20.cell 0
  have cX20_1 := X20.cell 1
  simp at cX10_0 cX10_1 cX20_0 cX20_1
  go_wp2_with fail
  refine (sz_nodes _ (HS0.out.on RN.keeps B0) (by omega) (by omega)).mono ?_
  rintro e w1 ⟨rfl, b1⟩
  have B1 := B0.trans (b1.mono B0.size)
  have X1_1 := X10.below b1 X10.lt
  have X2_1 := X20.below b1 X20.lt
  clear cX10_0 cX10_1 cX20_0 cX20_1
  clear X10 X20 b1
  have cX1_1_0 := X1_1.cell 0
  have cX1_1_1 := X1_1.cell 1
  have cX2_1_0 := X2_1.cell 0
  have cX2_1_1 := X2_1.cell 1
  simp at cX1_1_0 cX1_1_1 cX2_1_0 cX2_1_1
  rw [less_fit (left := 1048576) (t := totN x0) (by omega)]
  go_wp2_with fail
  refine (sz_item _ (HS1.out.on RI.keeps B1) (by omega) (by omega)).mono ?_
  rintro e w2 ⟨rfl, b2⟩
  have B2 := B1.trans (b2.mono B1.size)
  have X1_2 := X1_1.below b2 X1_1.lt
  have X2_2 := X2_1.below b2 X2_1.lt
  clear cX1_1_0 cX1_1_1 cX2_1_0 cX2_1_1
  clear X1_1 X2_1 b2
  have cX1_2_0 := X1_2.cell 0
  have cX1_2_1 := X1_2.cell 1
  have cX2_2_0 := X2_2.cell 0
  have cX2_2_1 := X2_2.cell 1
  simp at cX1_2_0 cX1_2_1 cX2_2_0 cX2_2_1
  rw [less_no (left := 1048576 - ((totN x0 : Nat) : Int)) (t := x1.vals.length) (by omega)]
  clear cX1_2_0 cX1_2_1 cX2_2_0 cX2_2_1
  go_wp2_with fail
  go_ret
  exact ⟨rfl, B2⟩
set_option maxHeartbeats 3200000 in
set_option maxRecDepth 100000 in
theorem FnExactCompareBy_no2 (w : World) (v0 : Value) (x0 : List Nd) (e0 : V RN 6 w w.heap.size v0 x0) (v1 : Value) (x1 : It) (e1 : ItemV w v1 x1) (v2 : Value) (x2 : It) (e2 : ItemV w v2 x2) (hfit : totN x0 + x1.vals.length ≤ 1048576) (hbad : 1048576 < totN x0 + x1.vals.length + x2.vals.length) : Calls Try.prog 4 #[v0, v1, v2] w fun e w' => e = .returned (.bool true) ∧ Below w.heap.size w w' := by
  obtain ⟨A0, n0, c0, rfl, S0⟩ := e0
  obtain ⟨A1, n1, c1, rfl, f1, S1⟩ := e1
  obtain ⟨A2, n2, c2, rfl, f2, S2⟩ := e2
  have HS0 := Lib.hid S0
  have HS1 := Lib.hid S1
  have HS2 := Lib.hid S2
  have X10 := Row.new w 31 [.int .i64 x1.id, .slice A1 n1 c1]
  have X20 := Row.new (w.alloc (.cells [Value.int .i64 x1.id, .slice A1 n1 c1].toArray 31)) 31 [.int .i64 x2.id, .slice A2 n2 c2]
  have X10 := X10.alloc (.cells [Value.int .i64 x2.id, .slice A2 n2 c2].toArray 31)
  have B0 := ((Below.refl w.heap.size w).alloc (by simp) (.cells [Value.int .i64 x1.id, .slice A1 n1 c1].toArray 31)).alloc (by simp) (.cells [Value.int .i64 x2.id, .slice A2 n2 c2].toArray 31)
  simp only [World.size_alloc] at X10 X20
  clear S0
  clear S1
  clear S2
  go_enter Try.func4, Try.ntmps4
  have cX10_0 := X10.cell 0
  have cX10_1 := X10.cell 1
  have cX20_0 := X20.cell 0
  have cX20_1 := X20.cell 1
  simp at cX10_0 cX10_1 cX20_0 cX20_1
  go_wp2_with fail
  refine (sz_nodes _ (HS0.out.on RN.keeps B0) (by omega) (by omega)).mono ?_
  rintro e w1 ⟨rfl, b1⟩
  have B1 := B0.trans (b1.mono B0.size)
  have X1_1 := X10.below b1 X10.lt
  have X2_1 := X20.below b1 X20.lt
  clear cX10_0 cX10_1 cX20_0 cX20_1
  clear X10 X20 b1
  have cX1_1_0 := X1_1.cell 0
  have cX1_1_1 := X1_1.cell 1
  have cX2_1_0 := X2_1.cell 0
  have cX2_1_1 := X2_1.cell 1
  simp at cX1_1_0 cX1_1_1 cX2_1_0 cX2_1_1
  rw [less_fit (left := 1048576) (t := totN x0) (by omega)]
  go_wp2_with fail
  refine (sz_item _ (HS1.out.on RI.keeps B1) (by omega) (by omega)).mono ?_
  rintro e w2 ⟨rfl, b2⟩
  have B2 := B1.trans (b2.mono B1.size)
  have X1_2 := X1_1.below b2 X1_1.lt
  have X2_2 := X2_1.below b2 X2_1.lt
  clear cX1_1_0 cX1_1_1 cX2_1_0 cX2_1_1
  clear X1_1 X2_1 b2
  have cX1_2_0 := X1_2.cell 0
  have cX1_2_1 := X1_2.cell 1
  have cX2_2_0 := X2_2.cell 0
  have cX2_2_1 := X2_2.cell 1
  simp at cX1_2_0 cX1_2_1 cX2_2_0 cX2_2_1
  rw [less_fit (left := 1048576 - ((totN x0 : Nat) : Int)) (t := x1.vals.length) (by omega)]
  go_wp2_with fail
  refine (sz_item _ (HS2.out.on RI.keeps B2) (by omega) (by omega)).mono ?_
  rintro e w3 ⟨rfl, b3⟩
  have B3 := B2.trans (b3.mono B2.size)
  have X1_3 := X1_2.below b3 X1_2.lt
  have X2_3 := X2_2.below b3 X2_2.lt
  clear cX1_2_0 cX1_2_1 cX2_2_0 cX2_2_1
  clear X1_2 X2_2 b3
  have cX1_3_0 := X1_3.cell 0
  have cX1_3_1 := X1_3.cell 1
  have cX2_3_0 := X2_3.cell 0
  have cX2_3_1 := X2_3.cell 1
  simp at cX1_3_0 cX1_3_1 cX2_3_0 cX2_3_1
  rw [less_no (left := 1048576 - ((totN x0 : Nat) : Int) - ((x1.vals.length : Nat) : Int)) (t := x2.vals.length) (by omega)]
  clear cX1_3_0 cX1_3_1 cX2_3_0 cX2_3_1
  go_wp2_with fail
  go_ret
  exact ⟨rfl, B3⟩
set_option maxHeartbeats 3200000 in
set_option maxRecDepth 100000 in
theorem FnExactCompareBy_yes (w : World) (v0 : Value) (x0 : List Nd) (e0 : V RN 6 w w.heap.size v0 x0) (v1 : Value) (x1 : It) (e1 : ItemV w v1 x1) (v2 : Value) (x2 : It) (e2 : ItemV w v2 x2) (hfit : totN x0 + x1.vals.length + x2.vals.length ≤ 1048576) : Calls Try.prog 4 #[v0, v1, v2] w fun e w' => e = .returned (.bool true) ∧ Below w.heap.size w w' := by
  obtain ⟨A0, n0, c0, rfl, S0⟩ := e0
  obtain ⟨A1, n1, c1, rfl, f1, S1⟩ := e1
  obtain ⟨A2, n2, c2, rfl, f2, S2⟩ := e2
  have HS0 := Lib.hid S0
  have HS1 := Lib.hid S1
  have HS2 := Lib.hid S2
  have X10 := Row.new w 31 [.int .i64 x1.id, .slice A1 n1 c1]
  have X20 := Row.new (w.alloc (.cells [Value.int .i64 x1.id, .slice A1 n1 c1].toArray 31)) 31 [.int .i64 x2.id, .slice A2 n2 c2]
  have X10 := X10.alloc (.cells [Value.int .i64 x2.id, .slice A2 n2 c2].toArray 31)
  have B0 := ((Below.refl w.heap.size w).alloc (by simp) (.cells [Value.int .i64 x1.id, .slice A1 n1 c1].toArray 31)).alloc (by simp) (.cells [Value.int .i64 x2.id, .slice A2 n2 c2].toArray 31)
  simp only [World.size_alloc] at X10 X20
  clear S0
  clear S1
  clear S2
  go_enter Try.func4, Try.ntmps4
  have cX10_0 := X10.cell 0
  have cX10_1 := X10.cell 1
  have cX20_0 := X20.cell 0
  have cX20_1 := X20.cell 1
  simp at cX10_0 cX10_1 cX20_0 cX20_1
  go_wp2_with fail
  refine (sz_nodes _ (HS0.out.on RN.keeps B0) (by omega) (by omega)).mono ?_
  rintro e w1 ⟨rfl, b1⟩
  have B1 := B0.trans (b1.mono B0.size)
  have X1_1 := X10.below b1 X10.lt
  have X2_1 := X20.below b1 X20.lt
  clear cX10_0 cX10_1 cX20_0 cX20_1
  clear X10 X20 b1
  have cX1_1_0 := X1_1.cell 0
  have cX1_1_1 := X1_1.cell 1
  have cX2_1_0 := X2_1.cell 0
  have cX2_1_1 := X2_1.cell 1
  simp at cX1_1_0 cX1_1_1 cX2_1_0 cX2_1_1
  rw [less_fit (left := 1048576) (t := totN x0) (by omega)]
  go_wp2_with fail
  refine (sz_item _ (HS1.out.on RI.keeps B1) (by omega) (by omega)).mono ?_
  rintro e w2 ⟨rfl, b2⟩
  have B2 := B1.trans (b2.mono B1.size)
  have X1_2 := X1_1.below b2 X1_1.lt
  have X2_2 := X2_1.below b2 X2_1.lt
  clear cX1_1_0 cX1_1_1 cX2_1_0 cX2_1_1
  clear X1_1 X2_1 b2
  have cX1_2_0 := X1_2.cell 0
  have cX1_2_1 := X1_2.cell 1
  have cX2_2_0 := X2_2.cell 0
  have cX2_2_1 := X2_2.cell 1
  simp at cX1_2_0 cX1_2_1 cX2_2_0 cX2_2_1
  rw [less_fit (left := 1048576 - ((totN x0 : Nat) : Int)) (t := x1.vals.length) (by omega)]
  go_wp2_with fail
  refine (sz_item _ (HS2.out.on RI.keeps B2) (by omega) (by omega)).mono ?_
  rintro e w3 ⟨rfl, b3⟩
  have B3 := B2.trans (b3.mono B2.size)
  have X1_3 := X1_2.below b3 X1_2.lt
  have X2_3 := X2_2.below b3 X2_2.lt
  clear cX1_2_0 cX1_2_1 cX2_2_0 cX2_2_1
  clear X1_2 X2_2 b3
  have cX1_3_0 := X1_3.cell 0
  have cX1_3_1 := X1_3.cell 1
  have cX2_3_0 := X2_3.cell 0
  have cX2_3_1 := X2_3.cell 1
  simp at cX1_3_0 cX1_3_1 cX2_3_0 cX2_3_1
  rw [less_fit (left := 1048576 - ((totN x0 : Nat) : Int) - ((x1.vals.length : Nat) : Int)) (t := x2.vals.length) (by omega)]
  have QS0 := Lib.hid (HS0.out.on RN.keeps B3)
  have QS1 := Lib.hid (HS1.out.on RI.keeps B3)
  have QS2 := Lib.hid (HS2.out.on RI.keeps B3)
  have lX1_3 := X1_3.lt
  have lX2_3 := X2_3.lt
  go_wp2_with fail
  go_region_held3 (fun w' => Below (w3).heap.size (w3) w' ∧ ∀ b o, b < (w3).heap.size → w'.cell? ⟨b, o, none⟩ = (w3).cell? ⟨b, o, none⟩) (first | exact ext_drew _ | exact ext_step (by assumption) (by assumption) | exact ext_alloc _ (by assumption)) ((first | (go_simp; go_at_call 9; with_reducible (refine (to_nodes _ (QS0.out.held RN.keeps (by assumption)) (by omega)).mono ?_); rintro e w4 ⟨A4, n4, c4, rfl, S4, b4⟩) | (go_simp; go_at_call 14; with_reducible (refine (to_item _ (QS1.out.held RI.keeps (by assumption)) (by omega)).mono ?_); rintro e w5 ⟨A5, n5, c5, rfl, S5, b5⟩) | (go_simp; go_at_call 14; with_reducible (refine (to_item _ (QS2.out.held RI.keeps (by assumption)) (by omega)).mono ?_); rintro e w6 ⟨A6, n6, c6, rfl, S6, b6⟩) | (go_simp; go_at_call 13; with_reducible (refine (specCompareBy _ ((S4.on RN.keeps b5).on RN.keeps b6) (S5.on RI.keeps b6) f1 S6 f2).mono ?_); rintro e w7 ⟨rfl, b7⟩)))
  rename_i hHd
  have b307 : Below w3.heap.size w3 w7 := held_below hHd
  clear hHd
  have B7 := B3.trans (b307.mono B3.size)
  have X1_7 := X1_3.below b307 X1_3.lt
  have X2_7 := X2_3.below b307 X2_3.lt
  clear cX1_3_0 cX1_3_1 cX2_3_0 cX2_3_1 X1_3 lX1_3 X2_3 lX2_3
  have cX1_7_0 := X1_7.cell 0
  have cX1_7_1 := X1_7.cell 1
  have cX2_7_0 := X2_7.cell 0
  have cX2_7_1 := X2_7.cell 1
  simp at cX1_7_0 cX1_7_1 cX2_7_0 cX2_7_1
  go_wp2_with fail
  refine (to_nodes _ (HS0.out.on RN.keeps B7) (by omega)).mono ?_
  rintro e w8 ⟨A8, n8, c8, rfl, S8, b8⟩
  have B8 := B7.trans (b8.mono B7.size)
  have X1_8 := X1_7.below b8 X1_7.lt
  have X2_8 := X2_7.below b8 X2_7.lt
  clear cX1_7_0 cX1_7_1 cX2_7_0 cX2_7_1
  clear X1_7 X2_7
  have cX1_8_0 := X1_8.cell 0
  have cX1_8_1 := X1_8.cell 1
  have cX2_8_0 := X2_8.cell 0
  have cX2_8_1 := X2_8.cell 1
  simp at cX1_8_0 cX1_8_1 cX2_8_0 cX2_8_1
  clear b8
  go_wp2_with fail
  refine (to_item _ (HS1.out.on RI.keeps B8) (by omega)).mono ?_
  rintro e w9 ⟨A9, n9, c9, rfl, S9, b9⟩
  have B9 := B8.trans (b9.mono B8.size)
  have X1_9 := X1_8.below b9 X1_8.lt
  have X2_9 := X2_8.below b9 X2_8.lt
  clear cX1_8_0 cX1_8_1 cX2_8_0 cX2_8_1
  clear X1_8 X2_8
  have cX1_9_0 := X1_9.cell 0
  have cX1_9_1 := X1_9.cell 1
  have cX2_9_0 := X2_9.cell 0
  have cX2_9_1 := X2_9.cell 1
  simp at cX1_9_0 cX1_9_1 cX2_9_0 cX2_9_1
  have S8 := S8.on RN.keeps b9
  clear b9
  have Y1_9 := Row.new w9 34 [.int .i64 x1.id, .slice A9 n9 c9]
  have b9 := (Below.refl w9.heap.size w9).alloc (Nat.le_refl _) (.cells [Value.int .i64 x1.id, .slice A9 n9 c9].toArray 34)
  have X1_9a := X1_9.alloc (.cells [Value.int .i64 x1.id, .slice A9 n9 c9].toArray 34)
  have X2_9a := X2_9.alloc (.cells [Value.int .i64 x1.id, .slice A9 n9 c9].toArray 34)
  have S8 := S8.on RN.keeps b9
  have S9 := S9.on RI.keeps b9
  have B9a := B9.trans (b9.mono B9.size)
  clear cX1_9_0 cX1_9_1 cX2_9_0 cX2_9_1
  clear b9 X1_9 X2_9
  have hlt9 := Y1_9.lt
  have cX1_9a_0 := X1_9a.cell 0
  have cX1_9a_1 := X1_9a.cell 1
  have cX2_9a_0 := X2_9a.cell 0
  have cX2_9a_1 := X2_9a.cell 1
  have cY1_9_0 := Y1_9.cell 0
  have cY1_9_1 := Y1_9.cell 1
  simp at cX1_9a_0 cX1_9a_1 cX2_9a_0 cX2_9a_1 cY1_9_0 cY1_9_1
  go_wp2_with fail
  refine (to_item _ (HS2.out.on RI.keeps B9a) (by omega)).mono ?_
  rintro e w10 ⟨A10, n10, c10, rfl, S10, b10⟩
  have B10 := B9a.trans (b10.mono B9a.size)
  have X1_10 := X1_9a.below b10 X1_9a.lt
  have X2_10 := X2_9a.below b10 X2_9a.lt
  have Y1_10 := Y1_9.below b10 Y1_9.lt
  clear cX1_9a_0 cX1_9a_1 cX2_9a_0 cX2_9a_1 cY1_9_0 cY1_9_1
  clear X1_9a X2_9a Y1_9
  have cX1_10_0 := X1_10.cell 0
  have cX1_10_1 := X1_10.cell 1
  have cX2_10_0 := X2_10.cell 0
  have cX2_10_1 := X2_10.cell 1
  have cY1_10_0 := Y1_10.cell 0
  have cY1_10_1 := Y1_10.cell 1
  simp at cX1_10_0 cX1_10_1 cX2_10_0 cX2_10_1 cY1_10_0 cY1_10_1
  have S8 := S8.on RN.keeps b10
  have S9 := S9.on RI.keeps b10
  clear b10
  have Y2_10 := Row.new w10 34 [.int .i64 x2.id, .slice A10 n10 c10]
  have b10 := (Below.refl w10.heap.size w10).alloc (Nat.le_refl _) (.cells [Value.int .i64 x2.id, .slice A10 n10 c10].toArray 34)
  have X1_10a := X1_10.alloc (.cells [Value.int .i64 x2.id, .slice A10 n10 c10].toArray 34)
  have X2_10a := X2_10.alloc (.cells [Value.int .i64 x2.id, .slice A10 n10 c10].toArray 34)
  have Y1_10a := Y1_10.alloc (.cells [Value.int .i64 x2.id, .slice A10 n10 c10].toArray 34)
  have S8 := S8.on RN.keeps b10
  have S9 := S9.on RI.keeps b10
  have S10 := S10.on RI.keeps b10
  have B10a := B10.trans (b10.mono B10.size)
  clear cX1_10_0 cX1_10_1 cX2_10_0 cX2_10_1 cY1_10_0 cY1_10_1
  clear b10 X1_10 X2_10 Y1_10
  have hlt10 := Y2_10.lt
  have cX1_10a_0 := X1_10a.cell 0
  have cX1_10a_1 := X1_10a.cell 1
  have cX2_10a_0 := X2_10a.cell 0
  have cX2_10a_1 := X2_10a.cell 1
  have cY1_10a_0 := Y1_10a.cell 0
  have cY1_10a_1 := Y1_10a.cell 1
  have cY2_10_0 := Y2_10.cell 0
  have cY2_10_1 := Y2_10.cell 1
  simp at cX1_10a_0 cX1_10a_1 cX2_10a_0 cX2_10a_1 cY1_10a_0 cY1_10a_1 cY2_10_0 cY2_10_1
  go_wp2_with fail
  refine (implCompareBy _ S8 S9 f1 S10 f2).mono ?_
  rintro e w11 ⟨rfl, b11⟩
  have B11 := B10a.trans (b11.mono B10a.size)
  have X1_11 := X1_10a.below b11 X1_10a.lt
  have X2_11 := X2_10a.below b11 X2_10a.lt
  have Y1_11 := Y1_10a.below b11 Y1_10a.lt
  have Y2_11 := Y2_10.below b11 Y2_10.lt
  clear cX1_10a_0 cX1_10a_1 cX2_10a_0 cX2_10a_1 cY1_10a_0 cY1_10a_1 cY2_10_0 cY2_10_1
  clear X1_10a X2_10a Y1_10a Y2_10
  have cX1_11_0 := X1_11.cell 0
  have cX1_11_1 := X1_11.cell 1
  have cX2_11_0 := X2_11.cell 0
  have cX2_11_1 := X2_11.cell 1
  have cY1_11_0 := Y1_11.cell 0
  have cY1_11_1 := Y1_11.cell 1
  have cY2_11_0 := Y2_11.cell 0
  have cY2_11_1 := Y2_11.cell 1
  simp at cX1_11_0 cX1_11_1 cX2_11_0 cX2_11_1 cY1_11_0 cY1_11_1 cY2_11_0 cY2_11_1
  have S8 := S8.on RN.keeps b11
  have S9 := S9.on RI.keeps b11
  have S10 := S10.on RI.keeps b11
  clear b11
  go_wp2_with fail
  refine (to_nodes _ (HS0.out.on RN.keeps B11) (by omega)).mono ?_
  rintro e w12 ⟨A12, n12, c12, rfl, S12, b12⟩
  have B12 := B11.trans (b12.mono B11.size)
  have X1_12 := X1_11.below b12 X1_11.lt
  have X2_12 := X2_11.below b12 X2_11.lt
  have Y1_12 := Y1_11.below b12 Y1_11.lt
  have Y2_12 := Y2_11.below b12 Y2_11.lt
  clear cX1_11_0 cX1_11_1 cX2_11_0 cX2_11_1 cY1_11_0 cY1_11_1 cY2_11_0 cY2_11_1
  clear X1_11 X2_11 Y1_11 Y2_11
  have cX1_12_0 := X1_12.cell 0
  have cX1_12_1 := X1_12.cell 1
  have cX2_12_0 := X2_12.cell 0
  have cX2_12_1 := X2_12.cell 1
  have cY1_12_0 := Y1_12.cell 0
  have cY1_12_1 := Y1_12.cell 1
  have cY2_12_0 := Y2_12.cell 0
  have cY2_12_1 := Y2_12.cell 1
  simp at cX1_12_0 cX1_12_1 cX2_12_0 cX2_12_1 cY1_12_0 cY1_12_1 cY2_12_0 cY2_12_1
  have S8 := S8.on RN.keeps b12
  have S9 := S9.on RI.keeps b12
  have S10 := S10.on RI.keeps b12
  clear b12
  go_wp2_with fail
  refine (eq_nodes _ S8 S12).mono ?_
  rintro e w13 ⟨rfl, b13⟩
  have B13 := B12.trans (b13.mono B12.size)
  have X1_13 := X1_12.below b13 X1_12.lt
  have X2_13 := X2_12.below b13 X2_12.lt
  have Y1_13 := Y1_12.below b13 Y1_12.lt
  have Y2_13 := Y2_12.below b13 Y2_12.lt
  clear cX1_12_0 cX1_12_1 cX2_12_0 cX2_12_1 cY1_12_0 cY1_12_1 cY2_12_0 cY2_12_1
  clear X1_12 X2_12 Y1_12 Y2_12
  have cX1_13_0 := X1_13.cell 0
  have cX1_13_1 := X1_13.cell 1
  have cX2_13_0 := X2_13.cell 0
  have cX2_13_1 := X2_13.cell 1
  have cY1_13_0 := Y1_13.cell 0
  have cY1_13_1 := Y1_13.cell 1
  have cY2_13_0 := Y2_13.cell 0
  have cY2_13_1 := Y2_13.cell 1
  simp at cX1_13_0 cX1_13_1 cX2_13_0 cX2_13_1 cY1_13_0 cY1_13_1 cY2_13_0 cY2_13_1
  have S8 := S8.on RN.keeps b13
  have S9 := S9.on RI.keeps b13
  have S10 := S10.on RI.keeps b13
  clear b13 S12
  have lX1_13 := X1_13.lt
  have lX2_13 := X2_13.lt
  have lY1_13 := Y1_13.lt
  have lY2_13 := Y2_13.lt
  have ZS9 := Lib.hid S9
  have QS1 := Lib.hid (HS1.out.on RI.keeps B13)
  go_wp2_with fail
  go_region_held3 (fun w' => Below (w13).heap.size (w13) w' ∧ ∀ b o, b < (w13).heap.size → w'.cell? ⟨b, o, none⟩ = (w13).cell? ⟨b, o, none⟩) (first | exact ext_drew _ | exact ext_step (by assumption) (by assumption) | exact ext_alloc _ (by assumption)) ((first | (go_simp; go_at_call 14; with_reducible (refine (to_item _ (QS1.out.held RI.keeps (by assumption)) (by omega)).mono ?_); rintro e w14 ⟨A14, n14, c14, rfl, S14, b14⟩) | (go_simp; go_at_call 16; with_reducible (refine (eq_item _ (ZS9.out.held RI.keeps (by assumption)) S14).mono ?_); rintro e w15 ⟨rfl, b15⟩)))
  rename_i hHd
  have b115 : Below w13.heap.size w13 w15 := held_below hHd
  clear hHd
  have B15 := B13.trans (b115.mono B13.size)
  have X1_15 := X1_13.below b115 X1_13.lt
  have X2_15 := X2_13.below b115 X2_13.lt
  have Y1_15 := Y1_13.below b115 Y1_13.lt
  have Y2_15 := Y2_13.below b115 Y2_13.lt
  have S8 := S8.on RN.keeps b115
  have S9 := S9.on RI.keeps b115
  have S10 := S10.on RI.keeps b115
  clear cX1_13_0 cX1_13_1 cX2_13_0 cX2_13_1 cY1_13_0 cY1_13_1 cY2_13_0 cY2_13_1 X1_13 X2_13 Y1_13 Y2_13
  have cX1_15_0 := X1_15.cell 0
  have cX1_15_1 := X1_15.cell 1
  have cX2_15_0 := X2_15.cell 0
  have cX2_15_1 := X2_15.cell 1
  have cY1_15_0 := Y1_15.cell 0
  have cY1_15_1 := Y1_15.cell 1
  have cY2_15_0 := Y2_15.cell 0
  have cY2_15_1 := Y2_15.cell 1
  simp at cX1_15_0 cX1_15_1 cX2_15_0 cX2_15_1 cY1_15_0 cY1_15_1 cY2_15_0 cY2_15_1
  have lX1_15 := X1_15.lt
  have lX2_15 := X2_15.lt
  have lY1_15 := Y1_15.lt
  have lY2_15 := Y2_15.lt
  have ZS10 := Lib.hid S10
  have QS2 := Lib.hid (HS2.out.on RI.keeps B15)
  go_wp2_with fail
  go_region_held3 (fun w' => Below (w15).heap.size (w15) w' ∧ ∀ b o, b < (w15).heap.size → w'.cell? ⟨b, o, none⟩ = (w15).cell? ⟨b, o, none⟩) (first | exact ext_drew _ | exact ext_step (by assumption) (by assumption) | exact ext_alloc _ (by assumption)) ((first | (go_simp; go_at_call 14; with_reducible (refine (to_item _ (QS2.out.held RI.keeps (by assumption)) (by omega)).mono ?_); rintro e w16 ⟨A16, n16, c16, rfl, S16, b16⟩) | (go_simp; go_at_call 16; with_reducible (refine (eq_item _ (ZS10.out.held RI.keeps (by assumption)) S16).mono ?_); rintro e w17 ⟨rfl, b17⟩)))
  rename_i hHd
  have b117 : Below w15.heap.size w15 w17 := held_below hHd
  clear hHd
  have B17 := B15.trans (b117.mono B15.size)
  have X1_17 := X1_15.below b117 X1_15.lt
  have X2_17 := X2_15.below b117 X2_15.lt
  have Y1_17 := Y1_15.below b117 Y1_15.lt
  have Y2_17 := Y2_15.below b117 Y2_15.lt
  have S8 := S8.on RN.keeps b117
  have S9 := S9.on RI.keeps b117
  have S10 := S10.on RI.keeps b117
  clear cX1_15_0 cX1_15_1 cX2_15_0 cX2_15_1 cY1_15_0 cY1_15_1 cY2_15_0 cY2_15_1 X1_15 X2_15 Y1_15 Y2_15
  go_wp2_with fail
  go_ret
  exact ⟨rfl, B17⟩
theorem FnExactCompareBy  (w : World) (v0 : Value) (x0 : List Nd) (e0 : V RN 6 w w.heap.size v0 x0) (v1 : Value) (x1 : It) (e1 : ItemV w v1 x1) (v2 : Value) (x2 : It) (e2 : ItemV w v2 x2) : Calls Try.prog 4 #[v0, v1, v2] w fun e w' => e = .returned (.bool true) ∧ Below w.heap.size w w' := by
  by_cases h0 : 1048576 < totN x0
  · exact FnExactCompareBy_no0 w v0 x0 e0 v1 x1 e1 v2 x2 e2  h0
  by_cases h1 : 1048576 < totN x0 + x1.vals.length
  · exact FnExactCompareBy_no1 w v0 x0 e0 v1 x1 e1 v2 x2 e2 (by omega) h1
  by_cases h2 : 1048576 < totN x0 + x1.vals.length + x2.vals.length
  · exact FnExactCompareBy_no2 w v0 x0 e0 v1 x1 e1 v2 x2 e2 (by omega) h2
  exact FnExactCompareBy_yes w v0 x0 e0 v1 x1 e1 v2 x2 e2 (by omega)
end Go.Proofs.Ytgjghpaenliliaa.Wk

namespace Go.Proofs.Ytgjghpaenliliaa
open Go Go.RowKit Go.ChangeShapes Go.WideShapes Go.Deep Go.Proofs.Ytgjghpaenliliaa.M

theorem op_node {H : Type} {enc : TypeId × Value → H} {W : World} {P : Program} {e ti tw : TypeId} {f0 f1 : Field} (hs : P.underlying e = some (.struct #[f0, f1])) (hi : P.underlying ti = some (.int .i64)) (hC : P.cellsOf e = 6) (hci : P.cellsOf ti = 1) (hcw : P.cellsOf tw = 5)
    (t0 : f0.type = ti) (t1 : f1.type = tw) (o0 : f0.offset = 0) (o1 : f1.offset = 1) (opw : ∀ fuel cs (x : DataW H × List MemPlace), DataW.trod enc P W 0 (fun _ => true) true fuel tw cs = some x → ∃ a, RW W W.heap.size a cs)
    {fuel : Nat} {cs : List Value} {x : DataW H × List MemPlace} (h : DataW.trod enc P W 0 (fun _ => true) true fuel e cs = some x) : ∃ a, RN W W.heap.size a cs := by
  obtain ⟨xs, n, _, _, hcl, hxl, hg⟩ := DataW.trod_struct hs h
  obtain ⟨y0, h0⟩ := field_at hxl hg 0 f0 rfl
  obtain ⟨y1, h1⟩ := field_at hxl hg 1 f1 rfl
  rw [hC] at hcl
  rw [t0, o0, hci] at h0
  rw [t1, o1, hcw] at h1
  match cs, hcl with
  | c0 :: rest, hcl =>
    have hr : rest.length = 5 := by simpa using hcl
    obtain ⟨a, e0, _, w0⟩ := DataW.trod_int hi h0
    have e1 : ((c0 :: rest).drop 1).take 5 = rest := by rw [List.drop_one, List.tail_cons]; exact List.take_of_length_le (Nat.le_of_eq hr)
    rw [e1] at h1
    obtain ⟨b, hb⟩ := opw _ _ _ h1
    simp at e0
    subst e0
    exact ⟨⟨a, b⟩, rest, rfl, fit_wf w0, hb⟩
theorem cells_node : Try.prog.cellsOf 49 = 6 := by kernel_rfl
set_option maxRecDepth 100000 in
theorem opN {H : Type} {enc : TypeId × Value → H} {W : World} {fuel : Nat} {cs : List Value} {x : DataW H × List MemPlace} (h : DataW.trod enc Try.prog W 0 (fun _ => true) true fuel 49 cs = some x) : ∃ a, RN W W.heap.size a cs :=
  op_node Try.underlying49 Try.underlying3 cells_node cells_int cells_wish rfl rfl rfl rfl (fun _ _ _ hh => opW hh) h
set_option maxRecDepth 100000 in
theorem open_nodes {H : Type} {enc : TypeId × Value → H} {W : World} {b0 : Nat} {v : Value} {d : DataW H} {p : List MemPlace} (hv : Value.okWide Try.prog W .any b0 22 v) (h : DataW.Trod enc Try.prog W 0 (fun _ => true) true 22 v d p) : ∃ l, V RN 6 W W.heap.size v l :=
  trod_slice_V Try.underlying22 cells_node (by omega) (fun _ _ _ hh => opN hh) hv h
end Go.Proofs.Ytgjghpaenliliaa

namespace Go.Proofs.Ytgjghpaenliliaa.LFnExactCompareBy
open Go.ChangeShapes Go.WideShapes Go.ChangeAt Go.RowKit
open Go.ChangeMaps (open_string shut_string)
set_option linter.unusedVariables false

theorem own : ownKnob Try.prog.godebug = none := by kernel_rfl
theorem laidOut : laidOutB Try.prog = true := by kernel_rfl

set_option maxRecDepth 100000 in
theorem lifted (os : Os) (started : os.Started) (H : Type) (enc : TypeId × Value → H) :
    ReturnsInHanded {} Try.checked os 4 .any (Rows.fnExactCompareBySpec.pre6 enc Try.prog Try.f4 Rows.fnExactCompareByRow.domain false) (Rows.fnExactCompareBySpec.post enc Try.prog Try.f4 false true false false) := by
  refine returnsInHanded_of_change (C := Try.checked) own started (by kernel_rfl) Try.func4
    (ChangeSpec.witness6 (enc := enc) (C := Try.checked) false ⟨#[], #[.slice none 0 0, .agg #[.int .i64 0, .slice none 0 0], .agg #[.int .i64 0, .slice none 0 0]], []⟩ 8 (by kernel_rfl) (by kernel_rfl) (by kernel_rfl) (by kernel_rfl)) ?_
  intro W base args ds gs before hval0 hW hcnd _
  have hval : ∀ (j : Nat) t v, Try.f4.params[j]? = some t → args[j]? = some v → Value.okWide Try.prog W .any base t v := hval0
  have hW' := hW
  obtain ⟨p, q, hA0, hV, rfl, hfz, hnd⟩ := hW
  have hA : DataW.TrodAll enc Try.prog W 0 (fun _ => true) true Try.f4.params.toList args.toList ds p := hA0
  rw [Try.params4] at hA hval
  obtain ⟨v0, vs0, d0, ds0, p0, q0, hargs, rfl, rfl, h0, r0⟩ := trodAll_cons hA
  obtain ⟨v1, vs1, d1, ds1, p1, q1, rfl, rfl, rfl, h1, r1⟩ := trodAll_cons r0
  obtain ⟨v2, vs2, d2, ds2, p2, q2, rfl, rfl, rfl, h2, r2⟩ := trodAll_cons r1
  obtain ⟨rfl, rfl, rfl⟩ := trodAll_nil r2
  obtain rfl : args = #[v0, v1, v2] := by cases args; simp_all
  obtain ⟨rfl, rfl⟩ := trodVars_none hV
  have k0 := h0
  have lt0 : ∀ x ∈ p0, x.block < W.heap.size := by obtain ⟨m, hm⟩ := k0; exact DataW.trod_lt m _ _ _ hm
  obtain ⟨l0, w0⟩ := open_nodes (hval 0 22 v0 rfl rfl) h0
  have k1 := h1
  have lt1 : ∀ x ∈ p1, x.block < W.heap.size := by obtain ⟨m, hm⟩ := k1; exact DataW.trod_lt m _ _ _ hm
  obtain ⟨l1, w1⟩ := open_item (hval 1 31 v1 rfl rfl) h1
  have k2 := h2
  have lt2 : ∀ x ∈ p2, x.block < W.heap.size := by obtain ⟨m, hm⟩ := k2; exact DataW.trod_lt m _ _ _ hm
  obtain ⟨l2, w2⟩ := open_item (hval 2 31 v2 rfl rfl) h2
  clear hA0 hval0
  refine (Wk.FnExactCompareBy (w := W) v0 l0 w0 v1 l1 w1 v2 l2 w2).mono fun e W' ⟨he, bel⟩ => ?_
  subst he
  exact ⟨_, rfl, _, _, _, [], _, [], hW', trodAll_mk1 (shut_bool Try.underlying4 _), (trodAll_cons_mk (Below.trod laidOut (by kernel_rfl) (of_decide_eq_true (by kernel_rfl)) k0 bel lt0) (trodAll_cons_mk (Below.trod laidOut (by kernel_rfl) (of_decide_eq_true (by kernel_rfl)) k1 bel lt1) (trodAll_cons_mk (Below.trod laidOut (by kernel_rfl) (of_decide_eq_true (by kernel_rfl)) k2 bel lt2) trodAll_mk0))), rfl, bel.frame _, fun h => by cases h⟩

/-- The given statement. -/
theorem proved : Rows.FnExactCompareBySaid :=
  OpenClaim.holds_of_wide 4 Try.f4 rfl rfl rfl rfl rfl rfl rfl ⟨rfl, rfl, rfl, rfl, rfl⟩ rfl rfl rfl rfl rfl (by as_aux_lemma => kernel_rfl) Try.func4 (by as_aux_lemma => kernel_rfl)
    (of_decide_eq_true (by as_aux_lemma => kernel_rfl)) (by unfold Func.isWrapper; first | (rw [if_pos (by decide +kernel)]; kernel_rfl) | (rw [if_neg (by decide +kernel)]; exact ⟨rfl, rfl⟩))
    (fun os started H enc _ => lifted os started H enc)
#print axioms proved
end Go.Proofs.Ytgjghpaenliliaa.LFnExactCompareBy
