/-
  Walks of chapter 2: IdsOf.
  Conditions: none beyond the bounds that each states.
-/
import Derived.Test.YtgjghpaenliliaaU6
import Derived.Test.YtgjghpaenliliaaM8
namespace Go.Proofs.Ytgjghpaenliliaa.Wk
open Go.RowKit Go.Proofs.Ytgjghpaenliliaa.M
set_option linter.unusedVariables false
attribute [local go_sem] cell_grow

/-- The ids of a list of items. -/
def idsR (l : List It) : List Int := l.map (·.id)
theorem idsR_len (l : List It) : (idsR l).length = l.length := by simp [idsR]
theorem idsR_fit {l : List It} (h : ∀ x ∈ l, Fit x.id ∧ ∀ y ∈ x.vals, Fit y) : ∀ x ∈ idsR l, Fit x := by
  intro x hx
  obtain ⟨y, hy, rfl⟩ := List.mem_map.1 hx
  exact (h y hy).1
theorem info_i2 : (Try.prog.info? 3).map (fun i => (i.zero, i.size, i.bytes)) = some (some (.int .i64 0), 1, 8) := by kernel_rfl
end Go.Proofs.Ytgjghpaenliliaa.Wk
