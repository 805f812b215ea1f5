/-
  The walk of the law on EqualExpressions: the call returns true and has only made memory.
  Conditions: none beyond what the arguments read as.
-/
import Derived.Test.YteinbnjkiebfaaaW51
import Derived.Deep.RegionHeld3
namespace Go.Proofs.Yteinbnjkiebfaaa.Wk
open Go.RowKit Go.Proofs.Yteinbnjkiebfaaa.M
set_option linter.unusedVariables false

set_option maxHeartbeats 3200000 in
set_option maxRecDepth 100000 in
theorem FnExactEqualExpressions_no0 (w : World) (v0 : Value) (x0 : List Nd) (e0 : V RN 6 w w.heap.size v0 x0) (v1 : Value) (x1 : List Nd) (e1 : V RN 6 w w.heap.size v1 x1)  (hbad : 1048576 < totN x0) : Calls Try.prog 3 #[v0, v1] w fun e w' => e = .returned (.bool true) ∧ Below w.heap.size w w' := by
  obtain ⟨A0, n0, c0, rfl, S0⟩ := e0
  obtain ⟨A1, n1, c1, rfl, S1⟩ := e1
  have HS0 := Lib.hid S0
  have HS1 := Lib.hid S1
  have B0 := Below.refl w.heap.size w
  clear S0
  clear S1
  go_enter Try.func3, Try.ntmps3
  go_wp2_with fail
  refine (sz_nodes _ (HS0.out.on RN.keeps B0) (by omega) (by omega)).mono ?_
  rintro e w1 ⟨rfl, b1⟩
  have B1 := B0.trans (b1.mono B0.size)
  clear  b1
  rw [less_no (left := 1048576) (t := totN x0) (by omega)]
  go_wp2_with fail
  go_ret
  exact ⟨rfl, B1⟩
set_option maxHeartbeats 3200000 in
set_option maxRecDepth 100000 in
theorem FnExactEqualExpressions_no1 (w : World) (v0 : Value) (x0 : List Nd) (e0 : V RN 6 w w.heap.size v0 x0) (v1 : Value) (x1 : List Nd) (e1 : V RN 6 w w.heap.size v1 x1) (hfit : totN x0 ≤ 1048576) (hbad : 1048576 < totN x0 + totN x1) : Calls Try.prog 3 #[v0, v1] w fun e w' => e = .returned (.bool true) ∧ Below w.heap.size w w' := by
  obtain ⟨A0, n0, c0, rfl, S0⟩ := e0
  obtain ⟨A1, n1, c1, rfl, S1⟩ := e1
  have HS0 := Lib.hid S0
  have HS1 := Lib.hid S1
  have B0 := Below.refl w.heap.size w
  clear S0
  clear S1
  go_enter Try.func3, Try.ntmps3
  go_wp2_with fail
  refine (sz_nodes _ (HS0.out.on RN.keeps B0) (by omega) (by omega)).mono ?_
  rintro e w1 ⟨rfl, b1⟩
  have B1 := B0.trans (b1.mono B0.size)
  clear  b1
  rw [less_fit (left := 1048576) (t := totN x0) (by omega)]
  go_wp2_with fail
  refine (sz_nodes _ (HS1.out.on RN.keeps B1) (by omega) (by omega)).mono ?_
  rintro e w2 ⟨rfl, b2⟩
  have B2 := B1.trans (b2.mono B1.size)
  clear  b2
  rw [less_no (left := 1048576 - ((totN x0 : Nat) : Int)) (t := totN x1) (by omega)]
  go_wp2_with fail
  go_ret
  exact ⟨rfl, B2⟩
set_option maxHeartbeats 3200000 in
set_option maxRecDepth 100000 in
theorem FnExactEqualExpressions_yes (w : World) (v0 : Value) (x0 : List Nd) (e0 : V RN 6 w w.heap.size v0 x0) (v1 : Value) (x1 : List Nd) (e1 : V RN 6 w w.heap.size v1 x1) (hfit : totN x0 + totN x1 ≤ 1048576) : Calls Try.prog 3 #[v0, v1] w fun e w' => e = .returned (.bool true) ∧ Below w.heap.size w w' := by
  obtain ⟨A0, n0, c0, rfl, S0⟩ := e0
  obtain ⟨A1, n1, c1, rfl, S1⟩ := e1
  have HS0 := Lib.hid S0
  have HS1 := Lib.hid S1
  have B0 := Below.refl w.heap.size w
  clear S0
  clear S1
  go_enter Try.func3, Try.ntmps3
  go_wp2_with fail
  refine (sz_nodes _ (HS0.out.on RN.keeps B0) (by omega) (by omega)).mono ?_
  rintro e w1 ⟨rfl, b1⟩
  have B1 := B0.trans (b1.mono B0.size)
  clear  b1
  rw [less_fit (left := 1048576) (t := totN x0) (by omega)]
  go_wp2_with fail
  refine (sz_nodes _ (HS1.out.on RN.keeps B1) (by omega) (by omega)).mono ?_
  rintro e w2 ⟨rfl, b2⟩
  have B2 := B1.trans (b2.mono B1.size)
  clear  b2
  rw [less_fit (left := 1048576 - ((totN x0 : Nat) : Int)) (t := totN x1) (by omega)]
  go_wp2_with fail
  refine (to_nodes _ (HS0.out.on RN.keeps B2) (by omega)).mono ?_
  rintro e w3 ⟨A3, n3, c3, rfl, S3, b3⟩
  have B3 := B2.trans (b3.mono B2.size)
  skip
  clear b3
  go_wp2_with fail
  refine (to_nodes _ (HS1.out.on RN.keeps B3) (by omega)).mono ?_
  rintro e w4 ⟨A4, n4, c4, rfl, S4, b4⟩
  have B4 := B3.trans (b4.mono B3.size)
  skip
  have S3 := S3.on RN.keeps b4
  clear b4
  go_wp2_with fail
  refine (specEqualExpressions _ S3 S4).mono ?_
  rintro e w5 ⟨rfl, b5⟩
  have B5 := B4.trans (b5.mono B4.size)
  clear  b5
  clear S3 S4
  go_wp2_with fail
  refine (to_nodes _ (HS0.out.on RN.keeps B5) (by omega)).mono ?_
  rintro e w6 ⟨A6, n6, c6, rfl, S6, b6⟩
  have B6 := B5.trans (b6.mono B5.size)
  skip
  clear b6
  go_wp2_with fail
  refine (to_nodes _ (HS1.out.on RN.keeps B6) (by omega)).mono ?_
  rintro e w7 ⟨A7, n7, c7, rfl, S7, b7⟩
  have B7 := B6.trans (b7.mono B6.size)
  skip
  have S6 := S6.on RN.keeps b7
  clear b7
  go_wp2_with fail
  refine (implEqualExpressions _ S6 S7).mono ?_
  rintro e w8 ⟨rfl, b8⟩
  have B8 := B7.trans (b8.mono B7.size)
  skip
  have S6 := S6.on RN.keeps b8
  have S7 := S7.on RN.keeps b8
  clear b8
  go_wp2_with fail
  refine (to_nodes _ (HS0.out.on RN.keeps B8) (by omega)).mono ?_
  rintro e w9 ⟨A9, n9, c9, rfl, S9, b9⟩
  have B9 := B8.trans (b9.mono B8.size)
  skip
  have S6 := S6.on RN.keeps b9
  have S7 := S7.on RN.keeps b9
  clear b9
  go_wp2_with fail
  refine (eq_nodes _ S6 S9).mono ?_
  rintro e w10 ⟨rfl, b10⟩
  have B10 := B9.trans (b10.mono B9.size)
  skip
  have S6 := S6.on RN.keeps b10
  have S7 := S7.on RN.keeps b10
  clear b10 S9
  go_wp2_with fail
  refine (to_nodes _ (HS1.out.on RN.keeps B10) (by omega)).mono ?_
  rintro e w11 ⟨A11, n11, c11, rfl, S11, b11⟩
  have B11 := B10.trans (b11.mono B10.size)
  skip
  have S6 := S6.on RN.keeps b11
  have S7 := S7.on RN.keeps b11
  clear b11
  go_wp2_with fail
  refine (eq_nodes _ S7 S11).mono ?_
  rintro e w12 ⟨rfl, b12⟩
  have B12 := B11.trans (b12.mono B11.size)
  skip
  have S6 := S6.on RN.keeps b12
  have S7 := S7.on RN.keeps b12
  clear b12 S11
  go_wp2_with fail
  go_ret
  exact ⟨rfl, B12⟩
theorem FnExactEqualExpressions  (w : World) (v0 : Value) (x0 : List Nd) (e0 : V RN 6 w w.heap.size v0 x0) (v1 : Value) (x1 : List Nd) (e1 : V RN 6 w w.heap.size v1 x1) : Calls Try.prog 3 #[v0, v1] w fun e w' => e = .returned (.bool true) ∧ Below w.heap.size w w' := by
  by_cases h0 : 1048576 < totN x0
  · exact FnExactEqualExpressions_no0 w v0 x0 e0 v1 x1 e1  h0
  by_cases h1 : 1048576 < totN x0 + totN x1
  · exact FnExactEqualExpressions_no1 w v0 x0 e0 v1 x1 e1 (by omega) h1
  exact FnExactEqualExpressions_yes w v0 x0 e0 v1 x1 e1 (by omega)
end Go.Proofs.Yteinbnjkiebfaaa.Wk
