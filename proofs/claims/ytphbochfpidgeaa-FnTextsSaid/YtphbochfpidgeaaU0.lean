/-
  Words that the laws' helpers share.
  Conditions: none.
-/
import Derived.Test.YtphbochfpidgeaaW3
import Derived.Test.YtphbochfpidgeaaM7
import Derived.Deep.QuietTactic
import Derived.BigQuiet
namespace Go.Proofs.Ytphbochfpidgeaa.Wk
open Go.RowKit Go.Proofs.Ytphbochfpidgeaa.M
set_option linter.unusedVariables false

theorem ret_bool {a b : Bool} (h : a = b) : Ending.returned (.bool a) = .returned (.bool b) := by rw [h]
/-- What is left of a measure. -/
def less (left : Int) (n : Nat) : Int := if left < n then -1 else left - n
theorem less_fit {left : Int} {t : Nat} (h : (t : Int) ≤ left) : less left t = left - t := by unfold less; rw [if_neg (by omega)]
theorem less_no {left : Int} {t : Nat} (h : left < (t : Int)) : less left t = -1 := by unfold less; rw [if_pos h]
/-- It returns a slice that reads as l. -/
abbrev RetSl {α : Type} (R : Rep α) (sz : Nat) (w : World) (l : List α) (e : Ending) (w' : World) : Prop := ∃ A n c, e = .returned (.slice A n c) ∧ Sl R sz w' w'.heap.size A n c l ∧ Below w.heap.size w w'
end Go.Proofs.Ytphbochfpidgeaa.Wk
