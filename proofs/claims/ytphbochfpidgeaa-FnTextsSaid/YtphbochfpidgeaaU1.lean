/-
  The laws' helpers on items and lists of items, each in one form.
  Conditions: none beyond the bounds that each states.
-/
import Derived.Test.YtphbochfpidgeaaW16
import Derived.Test.YtphbochfpidgeaaM7
import Derived.Test.YtphbochfpidgeaaU0
namespace Go.Proofs.Ytphbochfpidgeaa.Wk
open Go.RowKit Go.Proofs.Ytphbochfpidgeaa.M
set_option linter.unusedVariables false

theorem fitIts {w : World} {B n c : Nat} {A : Option Addr} {l : List It} (h : Sl RIt 2 w B A n c l) : ∀ x ∈ l, Fit x.id ∧ ∀ y ∈ x.vals, Fit y := by
  intro x hx
  obtain ⟨i, hi⟩ := List.getElem?_of_mem hx
  have hin : i < n := by have := (List.getElem?_eq_some_iff.1 hi).1; have := h.len; omega
  obtain ⟨b, o, y, A1, n1, c1, _, _, hy, hf, hs, _, _⟩ := itemAt h hin
  rw [hi] at hy
  injection hy with hy
  subst hy
  exact ⟨hf, V.fit ⟨A1, n1, c1, rfl, hs⟩⟩
end Go.Proofs.Ytphbochfpidgeaa.Wk
