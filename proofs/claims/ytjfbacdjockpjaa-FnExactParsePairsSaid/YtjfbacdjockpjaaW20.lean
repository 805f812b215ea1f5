/-
  Walks of chapter 2: texts joined; FormatItem.
  Conditions: none beyond the bounds that each states.
-/
import Derived.Test.YtjfbacdjockpjaaW14
import Derived.Test.YtjfbacdjockpjaaU2
namespace Go.Proofs.Ytjfbacdjockpjaa.Wk
open Go.RowKit Go.Proofs.Ytjfbacdjockpjaa.M
set_option linter.unusedVariables false
attribute [local go_sem] cell_grow

/-- Numbers with a text between. -/
def numsS (by_ : ByteArray) (xs : List Int) : ByteArray := P.glue by_ (xs.map fmtS)
/-- What FormatItem writes. -/
def itemS (x : It) : ByteArray := if P.okI x then fmtS x.id ++ ⟨#[58]⟩ ++ numsS ⟨#[44]⟩ x.vals else ⟨#[]⟩
theorem numsS_size {t : ByteArray} {xs : List Int} (ht : t.size ≤ 16) (h : ∀ x ∈ xs, Fit x) : (numsS t xs).size ≤ 4112 * xs.length := by
  have := P.glueTo_size ht (fmtS_all h) (xs.map fmtS).length
  unfold numsS P.glue
  rwa [List.length_map] at this ⊢
theorem P.okI_len {x : It} (h : P.okI x = true) : x.vals.length = 3 := by
  simp only [P.okI, Bool.and_eq_true, decide_eq_true_eq] at h; exact h.1.2
end Go.Proofs.Ytjfbacdjockpjaa.Wk
