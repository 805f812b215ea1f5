/-
  Lists of items that a call laid, between two block numbers: carried on, marked, read.
  Conditions: none beyond the bounds that each states.
-/
import Derived.Test.YtjfbacdjockpjaaU5
import Derived.Test.YtjfbacdjockpjaaU1
namespace Go.Proofs.Ytjfbacdjockpjaa.Wk
open Go.RowKit Go.Proofs.Ytjfbacdjockpjaa.M
set_option linter.unusedVariables false

theorem itc_set1 (ps : List (Int × Value)) : ∀ (k : Nat) (p : Int × Value) (a : Int), ps[k]? = some p → (itc ps).set (k * 2) (.int .i64 a) = itc (ps.set k (a, p.2)) := by
  induction ps with
  | nil => intro k p a h; simp at h
  | cons b t ih =>
    intro k p a h
    cases k with
    | zero => simp at h; subst h; simp [itc]
    | succ k =>
      have := ih k p a (by simpa using h)
      simp only [itc, List.flatMap_cons, List.set_cons_succ] at this ⊢
      rw [show (k + 1) * 2 = k * 2 + 1 + 1 by omega, List.cons_append, List.cons_append, List.nil_append, List.set_cons_succ, List.set_cons_succ, this]
      rfl
theorem set_same {α : Type} {l : List α} {i : Nat} {x : α} (h : l[i]? = some x) : l.set i x = l := by
  apply List.ext_getElem?
  intro t
  rw [List.getElem?_set]
  by_cases e : i = t
  · subst e
    rw [if_pos rfl, if_pos (List.getElem?_eq_some_iff.1 h).1, h]
  · rw [if_neg e]
/-- Rows that share no block: what turns one of them leaves the others. -/
theorem apart_ne {vs : List Value} (h : Apart vs) {i j : Nat} {a b : Value} (hij : i ≠ j) (ha : vs[i]? = some a) (hb : vs[j]? = some b) : ∀ g, b.ownBlock = some g → ¬ (a.ownBlock = some g) := by
  intro g hg hh
  rcases Nat.lt_or_ge i j with hlt | hge
  · rcases h i j a b hlt ha hb with h1 | h1
    · rw [hh] at h1; cases h1
    · exact h1 (hh.trans hg.symm)
  · rcases h j i b a (by omega) hb ha with h1 | h1
    · rw [hg] at h1; cases h1
    · exact h1 (hg.trans hh.symm)
end Go.Proofs.Ytjfbacdjockpjaa.Wk
