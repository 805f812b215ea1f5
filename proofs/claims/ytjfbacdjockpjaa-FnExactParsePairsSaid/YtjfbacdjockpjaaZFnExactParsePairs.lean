/-
  The given statement on laws.FnExactParsePairs: for every input that the row speaks of, the call returns true and the arguments read as before.
  Conditions: none beyond the row's own.
-/
import Derived.Test.YtjfbacdjockpjaaW74
import Derived.Test.YtjfbacdjockpjaaU5
import Derived.Test.YtjfbacdjockpjaaRows
import Derived.ProofKit
import Derived.OpenShut
import Derived.ShutString
import Derived.ChangeOld
import Derived.Below
namespace Go.Proofs.Ytjfbacdjockpjaa.Wk
open Go.RowKit Go.Proofs.Ytjfbacdjockpjaa.M
set_option linter.unusedVariables false

set_option maxHeartbeats 3200000 in
set_option maxRecDepth 100000 in
theorem FnExactParsePairs (s : ByteArray) (hs0 : s.size ≤ maxLen) (w : World) : Calls Try.prog 9 #[.string s] w fun e w' => e = .returned (.bool true) ∧ Below w.heap.size w w' := by
  unfold maxLen at hs0
  by_cases hbig : 1048576 < s.size
  · have q : (1048576 : Int) < (s.size : Int) := by omega
    go_enter Try.func9, Try.ntmps9
    go_wp2
    go_ret
    exact ⟨rfl, Below.refl _ _⟩
  have q : ¬ (1048576 : Int) < (s.size : Int) := by omega
  have hs : s.size ≤ 1048576 := by omega
  obtain ⟨x, hx⟩ : ∃ x, parP s = x := ⟨_, rfl⟩
  obtain ⟨tb, htb⟩ : ∃ tb, parPB s = tb := ⟨_, rfl⟩
  have qb : (tb != tb) = false := by cases tb <;> rfl
  have FR := Lib.hid (parP_fit s)
  have CS : Hid (∀ w : World, Calls Try.prog 30 #[.string s] w (RetPB w x tb)) := fun w => by rw [← hx, ← htb]; exact specParsePairs w hs
  have CI : Hid (∀ w : World, Calls Try.prog 31 #[.string s] w (RetPB w x tb)) := fun w => by rw [← hx, ← htb]; exact implParsePairs w hs
  have ln := parP_len s
  rw [hx] at FR
  rw [hx] at ln
  clear hx htb
  go_enter Try.func9, Try.ntmps9
  go_wp2_with fail
  refine (CS.out _).mono ?_
  rintro e w1 ⟨vw, rfl, Ow, b1⟩
  have W0 := Ow.read FR.out
  have z1 := b1.size
  clear Ow
  go_wp2_with fail
  refine (CI.out _).mono ?_
  rintro e w2 ⟨vg, rfl, Og, b2⟩
  have z2 := b2.size
  have B2 := b1.trans (b2.mono z1)
  have W0 := W0.below RP.keeps b2
  clear b1 b2
  go_wp2_with fail
  refine (eqO_pairs _ Og FR.out W0 (by omega)).mono ?_
  rintro e w3 ⟨rfl, b3⟩
  have z3 := b3.size
  have B3 := B2.trans (b3.mono (by omega))
  have W0 := W0.below RP.keeps (b3.mono (by omega))
  have Og := Og.below b3
  clear b3 B2
  go_wp2_with fail
  refine (mark_pairs (k := 1) _ Og (by omega) (by omega)).mono ?_
  clear Og
  rintro e w4 ⟨rfl, Om, c4⟩
  have z4 := c4.size
  have B4 := B3.trans (below_chg c4 (by omega))
  have W0 := W0.below RP.keeps (below_chg c4 (by omega))
  clear c4 B3
  have hq : ¬ (1 + 2 * ((x.length : Nat) : Int) < 0) := by omega
  have hm : ((1 + 2 * ((x.length : Nat) : Int)) != (1 + 2 * ((x.length : Nat) : Int))) = false := by simp
  go_wp2_with fail
  refine (held_pairs (k := 1) _ Om (by omega) (by omega)).mono ?_
  rintro e wz ⟨rfl, rfl⟩
  go_wp2_with fail
  refine (CI.out _).mono ?_
  rintro e w5 ⟨vh, rfl, Oh, b5⟩
  have z5 := b5.size
  have B5 := B4.trans (b5.mono (by omega))
  have W0 := W0.below RP.keeps (b5.mono (by omega))
  have Om := Om.below b5
  clear b5 B4
  go_wp2_with fail
  refine (eqO_pairs _ Oh FR.out W0 (by omega)).mono ?_
  clear Oh W0
  rintro e w6 ⟨rfl, b6⟩
  have z6 := b6.size
  have B6 := B5.trans (b6.mono (by omega))
  have Om := Om.below b6
  clear b6 B5
  go_wp2_with fail
  refine (held_pairs (k := 1) _ Om (by omega) (by omega)).mono ?_
  rintro e wz ⟨rfl, rfl⟩
  go_wp2_with fail
  go_ret
  exact ⟨rfl, B6⟩
end Go.Proofs.Ytjfbacdjockpjaa.Wk

namespace Go.Proofs.Ytjfbacdjockpjaa.LFnExactParsePairs
open Go.ChangeShapes Go.WideShapes Go.ChangeAt Go.RowKit
open Go.ChangeMaps (open_string shut_string)
set_option linter.unusedVariables false

theorem own : ownKnob Try.prog.godebug = none := by kernel_rfl
theorem laidOut : laidOutB Try.prog = true := by kernel_rfl

set_option maxRecDepth 100000 in
theorem lifted (os : Os) (started : os.Started) (H : Type) (enc : TypeId × Value → H) :
    ReturnsInHanded {} Try.checked os 9 .any (Rows.fnExactParsePairsSpec.pre6 enc Try.prog Try.f9 Rows.fnExactParsePairsRow.domain false) (Rows.fnExactParsePairsSpec.post enc Try.prog Try.f9 false true false false) := by
  refine returnsInHanded_of_change (C := Try.checked) own started (by kernel_rfl) Try.func9
    (ChangeSpec.witness6 (enc := enc) (C := Try.checked) false ⟨#[], #[.string ⟨#[]⟩], []⟩ 8 (by kernel_rfl) (by kernel_rfl) (by kernel_rfl) (by kernel_rfl)) ?_
  intro W base args ds gs before hval0 hW hcnd _
  have hval : ∀ (j : Nat) t v, Try.f9.params[j]? = some t → args[j]? = some v → Value.okWide Try.prog W .any base t v := hval0
  have hW' := hW
  obtain ⟨p, q, hA0, hV, rfl, hfz, hnd⟩ := hW
  have hA : DataW.TrodAll enc Try.prog W 0 (fun _ => true) true Try.f9.params.toList args.toList ds p := hA0
  rw [Try.params9] at hA hval
  obtain ⟨v0, vs0, d0, ds0, p0, q0, hargs, rfl, rfl, h0, r0⟩ := trodAll_cons hA
  obtain ⟨rfl, rfl, rfl⟩ := trodAll_nil r0
  obtain rfl : args = #[v0] := by cases args; simp_all
  obtain ⟨rfl, rfl⟩ := trodVars_none hV
  have k0 := h0
  have lt0 : ∀ x ∈ p0, x.block < W.heap.size := by obtain ⟨m, hm⟩ := k0; exact DataW.trod_lt m _ _ _ hm
  obtain ⟨a0, e0, _, _, w0⟩ := open_string Try.underlying9 (hval 0 9 v0 rfl rfl) h0
  subst e0
  clear hA0 hval0
  refine (Wk.FnExactParsePairs (w := W) a0 w0).mono fun e W' ⟨he, bel⟩ => ?_
  subst he
  exact ⟨_, rfl, _, _, _, [], _, [], hW', trodAll_mk1 (shut_bool Try.underlying4 _), (trodAll_cons_mk (Below.trod laidOut (by kernel_rfl) (of_decide_eq_true (by kernel_rfl)) k0 bel lt0) trodAll_mk0), rfl, bel.frame _, fun h => by cases h⟩

/-- The given statement. -/
theorem proved : Rows.FnExactParsePairsSaid :=
  OpenClaim.holds_of_wide 9 Try.f9 rfl rfl rfl rfl rfl rfl rfl ⟨rfl, rfl, rfl, rfl, rfl⟩ rfl rfl rfl rfl rfl (by as_aux_lemma => kernel_rfl) Try.func9 (by as_aux_lemma => kernel_rfl)
    (of_decide_eq_true (by as_aux_lemma => kernel_rfl)) (by unfold Func.isWrapper; first | (rw [if_pos (by decide +kernel)]; kernel_rfl) | (rw [if_neg (by decide +kernel)]; exact ⟨rfl, rfl⟩))
    (fun os started H enc _ => lifted os started H enc)
#print axioms proved
end Go.Proofs.Ytjfbacdjockpjaa.LFnExactParsePairs
