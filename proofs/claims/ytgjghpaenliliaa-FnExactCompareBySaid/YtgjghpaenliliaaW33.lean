/-
  Walks of chapter 3: IsAbove, HeightOf.
  Conditions: none beyond the bounds that each states.
-/
import Derived.Test.YtgjghpaenliliaaW31
import Derived.Test.YtgjghpaenliliaaW32
import Derived.Test.YtgjghpaenliliaaP11
namespace Go.Proofs.Ytgjghpaenliliaa.Wk
open Go.RowKit Go.Proofs.Ytgjghpaenliliaa.M
set_option linter.unusedVariables false
attribute [local go_sem] cell_grow

/-- A row of a table. -/
def rowL (r : Nat → Bool) : List Value := (List.range 10).map fun j => .bool (r j)
theorem ix_tab (M : Nat → Nat → Bool) (w : World) : ∀ i : Nat, i < 10 → (Instr.index 111 (.agg (matC M).toArray) (.int .i64 (i : Int))).run Try.prog w = .ok (.agg (rowL (M i)).toArray) w
  | 0, _ => by kernel_rfl
  | 1, _ => by kernel_rfl
  | 2, _ => by kernel_rfl
  | 3, _ => by kernel_rfl
  | 4, _ => by kernel_rfl
  | 5, _ => by kernel_rfl
  | 6, _ => by kernel_rfl
  | 7, _ => by kernel_rfl
  | 8, _ => by kernel_rfl
  | 9, _ => by kernel_rfl
theorem ix_row (r : Nat → Bool) (w : World) : ∀ i : Nat, i < 10 → (Instr.index 110 (.agg (rowL r).toArray) (.int .i64 (i : Int))).run Try.prog w = .ok (.bool (r i)) w
  | 0, _ => by kernel_rfl
  | 1, _ => by kernel_rfl
  | 2, _ => by kernel_rfl
  | 3, _ => by kernel_rfl
  | 4, _ => by kernel_rfl
  | 5, _ => by kernel_rfl
  | 6, _ => by kernel_rfl
  | 7, _ => by kernel_rfl
  | 8, _ => by kernel_rfl
  | 9, _ => by kernel_rfl
/-- What IsAbove answers. -/
noncomputable def isAbv (l : List (Int × Int)) (a b : Int) : Bool := P.okP l && P.abv l a b
/-- What HeightOf answers. -/
noncomputable def heightOf (l : List (Int × Int)) (v : Int) : Int := if P.okP l && P.inR v 0 9 then P.hgt l 11 v else -1
end Go.Proofs.Ytgjghpaenliliaa.Wk
