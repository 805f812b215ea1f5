/-
  The walk of the law on IsExpression: the call returns true and has only made memory.
  Conditions: none beyond what the arguments read as.
-/
import Derived.Test.YteinbnjkiebfaaaW52
import Derived.Deep.RegionHeld3
namespace Go.Proofs.Yteinbnjkiebfaaa.Wk
open Go.RowKit Go.Proofs.Yteinbnjkiebfaaa.M
set_option linter.unusedVariables false

set_option maxHeartbeats 3200000 in
set_option maxRecDepth 100000 in
theorem FnExactIsExpression_no0 (w : World) (v0 : Value) (x0 : List Nd) (e0 : V RN 6 w w.heap.size v0 x0)  (hbad : 1048576 < totN x0) : Calls Try.prog 4 #[v0] w fun e w' => e = .returned (.bool true) ∧ Below w.heap.size w w' := by
  obtain ⟨A0, n0, c0, rfl, S0⟩ := e0
  have HS0 := Lib.hid S0
  have B0 := Below.refl w.heap.size w
  clear S0
  go_enter Try.func4, Try.ntmps4
  go_wp2_with fail
  refine (sz_nodes _ (HS0.out.on RN.keeps B0) (by omega) (by omega)).mono ?_
  rintro e w1 ⟨rfl, b1⟩
  have B1 := B0.trans (b1.mono B0.size)
  clear  b1
  rw [less_no (left := 1048576) (t := totN x0) (by omega)]
  go_wp2_with fail
  go_ret
  exact ⟨rfl, B1⟩
set_option maxHeartbeats 3200000 in
set_option maxRecDepth 100000 in
theorem FnExactIsExpression_yes (w : World) (v0 : Value) (x0 : List Nd) (e0 : V RN 6 w w.heap.size v0 x0) (hfit : totN x0 ≤ 1048576) : Calls Try.prog 4 #[v0] w fun e w' => e = .returned (.bool true) ∧ Below w.heap.size w w' := by
  obtain ⟨A0, n0, c0, rfl, S0⟩ := e0
  have HS0 := Lib.hid S0
  have B0 := Below.refl w.heap.size w
  clear S0
  go_enter Try.func4, Try.ntmps4
  go_wp2_with fail
  refine (sz_nodes _ (HS0.out.on RN.keeps B0) (by omega) (by omega)).mono ?_
  rintro e w1 ⟨rfl, b1⟩
  have B1 := B0.trans (b1.mono B0.size)
  clear  b1
  rw [less_fit (left := 1048576) (t := totN x0) (by omega)]
  go_wp2_with fail
  refine (to_nodes _ (HS0.out.on RN.keeps B1) (by omega)).mono ?_
  rintro e w2 ⟨A2, n2, c2, rfl, S2, b2⟩
  have B2 := B1.trans (b2.mono B1.size)
  skip
  clear b2
  go_wp2_with fail
  refine (specIsExpression _ S2).mono ?_
  rintro e w3 ⟨rfl, b3⟩
  have B3 := B2.trans (b3.mono B2.size)
  clear  b3
  clear S2
  go_wp2_with fail
  refine (to_nodes _ (HS0.out.on RN.keeps B3) (by omega)).mono ?_
  rintro e w4 ⟨A4, n4, c4, rfl, S4, b4⟩
  have B4 := B3.trans (b4.mono B3.size)
  skip
  clear b4
  go_wp2_with fail
  refine (implIsExpression _ S4).mono ?_
  rintro e w5 ⟨rfl, b5⟩
  have B5 := B4.trans (b5.mono B4.size)
  skip
  have S4 := S4.on RN.keeps b5
  clear b5
  go_wp2_with fail
  refine (to_nodes _ (HS0.out.on RN.keeps B5) (by omega)).mono ?_
  rintro e w6 ⟨A6, n6, c6, rfl, S6, b6⟩
  have B6 := B5.trans (b6.mono B5.size)
  skip
  have S4 := S4.on RN.keeps b6
  clear b6
  go_wp2_with fail
  refine (eq_nodes _ S4 S6).mono ?_
  rintro e w7 ⟨rfl, b7⟩
  have B7 := B6.trans (b7.mono B6.size)
  skip
  have S4 := S4.on RN.keeps b7
  clear b7 S6
  go_wp2_with fail
  go_ret
  exact ⟨rfl, B7⟩
theorem FnExactIsExpression  (w : World) (v0 : Value) (x0 : List Nd) (e0 : V RN 6 w w.heap.size v0 x0) : Calls Try.prog 4 #[v0] w fun e w' => e = .returned (.bool true) ∧ Below w.heap.size w w' := by
  by_cases h0 : 1048576 < totN x0
  · exact FnExactIsExpression_no0 w v0 x0 e0  h0
  exact FnExactIsExpression_yes w v0 x0 e0 (by omega)
end Go.Proofs.Yteinbnjkiebfaaa.Wk
