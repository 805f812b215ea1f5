/-
  Plain laws of expressions: where the part begins that ends at a node. No program stands here.
  Conditions: none.
-/
import Derived.Test.YtgjghpaenliliaaP13
namespace Go.Proofs.Ytgjghpaenliliaa.P
open Go.Proofs.Ytgjghpaenliliaa.M
set_option linter.unusedVariables false

/-- The depth of the stack behind the first i nodes. -/
noncomputable def Dp (l : List Nd) (i : Nat) : Nat := (depth (l.take i) 0).getD 0
theorem dp_of {l : List Nd} {i d : Nat} (h : Dep l i d) : Dp l i = d := by unfold Dp; unfold Dep at h; rw [h]; rfl
theorem dp_zero (l : List Nd) : Dp l 0 = 0 := rfl
/-- A node turns the depth by one at most. -/
theorem dp_succ {l : List Nd} (h : okE l = true) {i : Nat} {x : Nd} (hx : l[i]? = some x) : Dp l (i + 1) + opnds x.op = Dp l i + 1 ∧ opnds x.op ≤ Dp l i ∧ opnds x.op ≤ 2 := by
  obtain ⟨hok, d, hd, ho⟩ := okE_at h hx
  have h1 := dp_of hd
  have h2 := dp_of (dep_step hd hx hok ho)
  refine ⟨by omega, by omega, ?_⟩
  unfold opnds
  repeat' split
  all_goals omega
/-- Down from i, the first place at which the depth is one less than t. -/
noncomputable def downE (l : List Nd) (t : Nat) : Nat → Nat
  | 0 => 0
  | i + 1 => if Dp l (i + 1) + 1 = t then i + 1 else downE l t i
noncomputable def startE (l : List Nd) (at_ : Nat) : Nat := downE l (Dp l (at_ + 1)) at_
theorem downE_hit {l : List Nd} {t i : Nat} (h : Dp l i + 1 = t) : downE l t i = i := by
  cases i with
  | zero => rfl
  | succ i => rw [downE, if_pos h]
theorem downE_miss {l : List Nd} {t i : Nat} (h : Dp l (i + 1) + 1 ≠ t) : downE l t (i + 1) = downE l t i := by rw [downE, if_neg h]
theorem downE_le (l : List Nd) (t : Nat) : ∀ i, downE l t i ≤ i
  | 0 => Nat.le_refl _
  | i + 1 => by
    rw [downE]
    split
    · exact Nat.le_refl _
    · have := downE_le l t i; omega
theorem startE_le (l : List Nd) (a : Nat) : startE l a ≤ a := downE_le _ _ _
end Go.Proofs.Ytgjghpaenliliaa.P
