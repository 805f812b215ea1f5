/-
  Walks of chapter 2: one item.
  Conditions: none beyond the bounds that each states.
-/
import Derived.Test.YtjfbacdjockpjaaW12
import Derived.Test.YtjfbacdjockpjaaO1
namespace Go.Proofs.Ytjfbacdjockpjaa.Wk
open Go.RowKit Go.Proofs.Ytjfbacdjockpjaa.M
set_option linter.unusedVariables false

theorem okV_take {xs : List Int} {k : Nat} {x : Int} (h : P.okV (xs.take k) = true) (hx : xs[k]? = some x) (h1 : P.inR x 0 9 = true) : P.okV (xs.take (k + 1)) = true := by
  have hl := (List.getElem?_eq_some_iff.1 hx).1
  rw [List.take_succ_eq_append_getElem hl]
  rw [List.getElem?_eq_getElem hl] at hx
  injection hx with hx
  subst hx
  unfold P.okV at *
  simp only [List.all_append, h, Bool.true_and, List.all_cons, List.all_nil, Bool.and_true]
  exact h1
theorem okV_bad {xs : List Int} {k : Nat} {x : Int} (hx : xs[k]? = some x) (h1 : P.inR x 0 9 = false) : P.okV xs = false := by
  unfold P.okV
  rw [List.all_eq_false]
  exact ⟨x, List.mem_of_getElem? hx, by simp [h1]⟩
theorem okI_eq (id : Int) (xs : List Int) (n : Nat) (hn : xs.length = n) : P.okI ⟨id, xs⟩ = (P.inR id 0 99 && decide (n = 3) && P.okV xs) := by subst hn; rfl
/-- It returns an item whose numbers lie in a row of the call's own. -/
def OwnIt (w : World) (id : Int) (xs : List Int) (e : Ending) (w' : World) : Prop := ∃ v, e = .returned (.agg #[.int .i64 id, v]) ∧ w'.ownsRow w.heap.size 3 1 v xs.length (xs.map (Value.int .i64)) ∧ Below w.heap.size w w'
theorem OwnIt.read {w : World} {id : Int} {xs : List Int} {e : Ending} {w' : World} (h : OwnIt w id xs e w') (hf : ∀ x ∈ xs, Fit x) :
    ∃ A n c, e = .returned (.agg #[.int .i64 id, .slice A n c]) ∧ Sl RI 1 w' w'.heap.size A n c xs ∧ Below w.heap.size w w' := by
  obtain ⟨v, rfl, ho, hb⟩ := h
  obtain ⟨A, n, c, rfl, hs⟩ := own_ints ho hf
  exact ⟨A, n, c, rfl, hs, hb⟩
end Go.Proofs.Ytjfbacdjockpjaa.Wk
