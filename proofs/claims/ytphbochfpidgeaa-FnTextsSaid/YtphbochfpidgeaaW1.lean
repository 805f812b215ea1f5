/-
  Walks: the functions of chapter 1 that need no loop, and the first laws.
  Conditions: none.
-/
import Derived.Test.YtphbochfpidgeaaChecked
import Derived.WalkKit
import Derived.WalkLawsBesides
import Derived.WalkSpells
import Derived.Outline
import Derived.Lib.Hide
import Derived.Test.YtphbochfpidgeaaP1
namespace Go.Proofs.Ytphbochfpidgeaa.Wk
open Go.RowKit
set_option linter.unusedVariables false

theorem within (x lo hi : Int) (w : World) : Calls Try.prog 56 #[.int .i64 x, .int .i64 lo, .int .i64 hi] w fun e w' => e = .returned (.bool (P.inR x lo hi)) ∧ w = w' := by
  by_cases h1 : lo ≤ x
  · by_cases h2 : x ≤ hi
    · go_enter Try.func56, Try.ntmps56
      go_wp2
      go_ret
      exact ⟨congrArg (fun b => Ending.returned (.bool b)) (P.inR_mk ⟨h1, h2⟩).symm, rfl⟩
    · go_enter Try.func56, Try.ntmps56
      go_wp2
      go_ret
      exact ⟨congrArg (fun b => Ending.returned (.bool b)) (P.inR_no (by omega)).symm, rfl⟩
  · go_enter Try.func56, Try.ntmps56
    go_wp2
    go_ret
    exact ⟨congrArg (fun b => Ending.returned (.bool b)) (P.inR_no (by omega)).symm, rfl⟩

theorem l1In (x lo hi : Int) (w : World) : Calls Try.prog 51 #[.int .i64 x, .int .i64 lo, .int .i64 hi] w fun e w' => e = .returned (.bool (P.inR x lo hi)) ∧ w = w' := by
  by_cases h1 : lo ≤ x
  · by_cases h2 : x ≤ hi
    · go_enter Try.func51, Try.ntmps51
      go_wp2
      go_ret
      exact ⟨congrArg (fun b => Ending.returned (.bool b)) (P.inR_mk ⟨h1, h2⟩).symm, rfl⟩
    · go_enter Try.func51, Try.ntmps51
      go_wp2
      go_ret
      exact ⟨congrArg (fun b => Ending.returned (.bool b)) (P.inR_no (by omega)).symm, rfl⟩
  · go_enter Try.func51, Try.ntmps51
    go_wp2
    go_ret
    exact ⟨congrArg (fun b => Ending.returned (.bool b)) (P.inR_no (by omega)).symm, rfl⟩

end Go.Proofs.Ytphbochfpidgeaa.Wk
