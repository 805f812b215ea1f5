/-
  The walk of the law on IdsOf: the call returns true, and what was there before it is as it was.
  Conditions: none beyond what the arguments read as.
-/
import Derived.Test.YtncaamjmidmmdaaW57
import Derived.Test.YtncaamjmidmmdaaU6
namespace Go.Proofs.Ytncaamjmidmmdaa.Wk
open Go.RowKit Go.Proofs.Ytncaamjmidmmdaa.M
set_option linter.unusedVariables false

set_option maxHeartbeats 3200000 in
set_option maxRecDepth 100000 in
theorem FnExactIdsOf_no0 (w : World) (v0 : Value) (x0 : List It) (e0 : V RIt 2 w w.heap.size v0 x0)  (hbad : 1048576 < totI x0) : Calls Try.prog 6 #[v0] w fun e w' => e = .returned (.bool true) ∧ Below w.heap.size w w' := by
  have B0 := Below.refl w.heap.size w
  have H0 := Lib.hid e0
  have FT0 := Lib.hid (fitItsV e0)
  clear e0
  go_enter Try.func6, Try.ntmps6
  have HB0 := B0.size
  go_wp2_with fail
  refine (szV_items _ (V_on RIt.keeps H0.out B0) (by omega) (by omega)).mono ?_
  rintro e w1 ⟨rfl, b1⟩
  have z1 := b1.size
  have B1 := B0.trans (b1.mono B0.size)
  clear b1
  rw [less_no (left := 1048576) (t := totI x0) (by omega)]
  go_wp2_with fail
  go_ret
  exact ⟨rfl, B1⟩
set_option maxHeartbeats 3200000 in
set_option maxRecDepth 100000 in
theorem FnExactIdsOf_yes (w : World) (v0 : Value) (x0 : List It) (e0 : V RIt 2 w w.heap.size v0 x0) (hfit : totI x0 ≤ 1048576) : Calls Try.prog 6 #[v0] w fun e w' => e = .returned (.bool true) ∧ Below w.heap.size w w' := by
  have B0 := Below.refl w.heap.size w
  have H0 := Lib.hid e0
  have FT0 := Lib.hid (fitItsV e0)
  clear e0
  have FR := Lib.hid (idsR_fit FT0.out)
  go_enter Try.func6, Try.ntmps6
  have HB0 := B0.size
  go_wp2_with fail
  refine (szV_items _ (V_on RIt.keeps H0.out B0) (by omega) (by omega)).mono ?_
  rintro e w1 ⟨rfl, b1⟩
  have z1 := b1.size
  have B1 := B0.trans (b1.mono B0.size)
  clear b1
  rw [less_fit (left := 1048576) (t := totI x0) (by omega)]
  go_wp2_with fail
  refine (toO_items _ (V_on RIt.keeps H0.out B1) (by omega)).mono ?_
  rintro e w2 ⟨ut0, rfl, Ot0, b2⟩
  have z2 := b2.size
  have B2 := B1.trans (b2.mono B1.size)
  clear b2
  go_wp2_with fail
  refine (specIdsOfV _ (Ot0.read FT0.out) (by have := totI_eq x0; omega)).mono ?_
  rintro e w3 ⟨w0, rfl, Ow, b3⟩
  have z3 := b3.size
  have B3 := B2.trans (b3.mono B2.size)
  clear b3
  have W0 := Ow.read FR.out
  clear Ow Ot0
  go_wp2_with fail
  refine (toO_items _ (V_on RIt.keeps H0.out B3) (by omega)).mono ?_
  rintro e w4 ⟨ux0, rfl, Ox0, b4⟩
  have z4 := b4.size
  have B4 := B3.trans (b4.mono B3.size)
  have W0 := W0.below RI.keeps (b4.mono (by omega))
  clear b4
  go_wp2_with fail
  refine (implIdsOfV _ (Ox0.read FT0.out) (by have := totI_eq x0; omega)).mono ?_
  rintro e w5 ⟨g0, rfl, Og, b5⟩
  have z5 := b5.size
  have B5 := B4.trans (b5.mono B4.size)
  have W0 := W0.below RI.keeps (b5.mono (by omega))
  have Ox0 := Ox0.below b5
  clear b5
  go_wp2_with fail
  refine (eqO_ints _ Og FR.out W0 (by omega)).mono ?_
  rintro e w6 ⟨rfl, b6⟩
  have z6 := b6.size
  have B6 := B5.trans (b6.mono B5.size)
  have W0 := W0.below RI.keeps (b6.mono (by omega))
  have Ox0 := Ox0.below b6
  have Og := Og.below b6
  clear b6
  go_wp2_with fail
  refine (toO_items _ (V_on RIt.keeps H0.out B6) (by omega)).mono ?_
  rintro e w7 ⟨y0, rfl, Oy, b7⟩
  have z7 := b7.size
  have B7 := B6.trans (b7.mono B6.size)
  have W0 := W0.below RI.keeps (b7.mono (by omega))
  have Ox0 := Ox0.below b7
  have Og := Og.below b7
  clear b7
  have Vy := Oy.read FT0.out
  go_wp2_with fail
  refine (eqO_items _ Ox0 FT0.out Vy (by omega)).mono ?_
  clear Oy Vy
  rintro e w8 ⟨rfl, b8⟩
  have z8 := b8.size
  have B8 := B7.trans (b8.mono B7.size)
  have W0 := W0.below RI.keeps (b8.mono (by omega))
  have Ox0 := Ox0.below b8
  have Og := Og.below b8
  clear b8
  go_wp2_with fail
  refine (mark_items (k := 1) _ Ox0 (by omega) (by omega)).mono ?_
  clear Ox0
  rintro e w9 ⟨rfl, _, c9⟩
  have z9 := c9.size
  have B9 := B8.trans (below_chg c9 (by have := B8.size; omega))
  have W0 := W0.below RI.keeps (below_chg c9 (by omega))
  have Og := Og.rng c9 (by omega)
  clear c9
  have hk : ¬ (1 + ((totI x0 : Nat) : Int) < 0) := by omega
  go_wp2_with fail
  refine (eqO_ints _ Og FR.out W0 (by omega)).mono ?_
  rintro e w10 ⟨rfl, b10⟩
  have z10 := b10.size
  have B10 := B9.trans (b10.mono B9.size)
  have W0 := W0.below RI.keeps (b10.mono (by omega))
  have Og := Og.below b10
  clear b10
  go_wp2_with fail
  refine (mark_ints (k := 1) _ Og (by omega) (by have := idsR_len x0; have := totI_eq x0; omega)).mono ?_
  clear Og
  rintro e w11 ⟨rfl, Om, c11⟩
  have z11 := c11.size
  have B11 := B10.trans (below_chg c11 (by have := B10.size; omega))
  have W0 := W0.below RI.keeps (below_chg c11 (by omega))
  clear c11
  have hq : ¬ (1 + (((idsR x0).length : Nat) : Int) < 0) := by omega
  have hm : ((1 + (((idsR x0).length : Nat) : Int)) != (1 + (((idsR x0).length : Nat) : Int))) = false := by simp
  go_wp2_with fail
  refine (held_ints (k := 1) _ Om (by omega) (by have := idsR_len x0; have := totI_eq x0; omega)).mono ?_
  rintro e wz ⟨rfl, rfl⟩
  go_wp2_with fail
  refine (toO_items _ (V_on RIt.keeps H0.out B11) (by omega)).mono ?_
  rintro e w12 ⟨uh0, rfl, Oh0, b12⟩
  have z12 := b12.size
  have B12 := B11.trans (b12.mono B11.size)
  have W0 := W0.below RI.keeps (b12.mono (by omega))
  have Om := Om.below b12
  clear b12
  go_wp2_with fail
  refine (implIdsOfV _ (Oh0.read FT0.out) (by have := totI_eq x0; omega)).mono ?_
  rintro e w13 ⟨h0, rfl, Oh, b13⟩
  have z13 := b13.size
  have B13 := B12.trans (b13.mono B12.size)
  have W0 := W0.below RI.keeps (b13.mono (by omega))
  have Om := Om.below b13
  clear b13
  clear Oh0
  go_wp2_with fail
  refine (eqO_ints _ Oh FR.out W0 (by omega)).mono ?_
  rintro e w14 ⟨rfl, b14⟩
  have z14 := b14.size
  have B14 := B13.trans (b14.mono B13.size)
  have W0 := W0.below RI.keeps (b14.mono (by omega))
  have Om := Om.below b14
  have Oh := Oh.below b14
  clear b14
  clear Oh
  go_wp2_with fail
  refine (held_ints (k := 1) _ Om (by omega) (by have := idsR_len x0; have := totI_eq x0; omega)).mono ?_
  rintro e wz ⟨rfl, rfl⟩
  go_wp2_with fail
  go_ret
  exact ⟨rfl, B14⟩
theorem FnExactIdsOf (w : World) (v0 : Value) (x0 : List It) (e0 : V RIt 2 w w.heap.size v0 x0) : Calls Try.prog 6 #[v0] w fun e w' => e = .returned (.bool true) ∧ Below w.heap.size w w' := by
  by_cases h0 : 1048576 < totI x0
  · exact FnExactIdsOf_no0 w v0 x0 e0  h0
  exact FnExactIdsOf_yes w v0 x0 e0 (by omega)
end Go.Proofs.Ytncaamjmidmmdaa.Wk
