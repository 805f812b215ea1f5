/-
  Lists of items that a call laid, between two block numbers: carried on, marked, read.
  Conditions: none beyond the bounds that each states.
-/
import Derived.Test.YtgjghpaenliliaaU5
import Derived.Test.YtgjghpaenliliaaU1
namespace Go.Proofs.Ytgjghpaenliliaa.Wk
open Go.RowKit Go.Proofs.Ytgjghpaenliliaa.M
set_option linter.unusedVariables false

theorem itc_set1 (ps : List (Int × Value)) : ∀ (k : Nat) (p : Int × Value) (a : Int), ps[k]? = some p → (itc ps).set (k * 2) (.int .i64 a) = itc (ps.set k (a, p.2)) := by
  induction ps with
  | nil => intro k p a h; simp at h
  | cons b t ih =>
    intro k p a h
    cases k with
    | zero => simp at h; subst h; simp [itc]
    | succ k =>
      have := ih k p a (by simpa using h)
      simp only [itc, List.flatMap_cons, List.set_cons_succ] at this ⊢
      rw [show (k + 1) * 2 = k * 2 + 1 + 1 by omega, List.cons_append, List.cons_append, List.nil_append, List.set_cons_succ, List.set_cons_succ, this]
      rfl
theorem set_same {α : Type} {l : List α} {i : Nat} {x : α} (h : l[i]? = some x) : l.set i x = l := by
  apply List.ext_getElem?
  intro t
  rw [List.getElem?_set]
  by_cases e : i = t
  · subst e
    rw [if_pos rfl, if_pos (List.getElem?_eq_some_iff.1 h).1, h]
  · rw [if_neg e]
/-- Rows that share no block: what turns one of them leaves the others. -/
theorem apart_ne {vs : List Value} (h : Apart vs) {i j : Nat} {a b : Value} (hij : i ≠ j) (ha : vs[i]? = some a) (hb : vs[j]? = some b) : ∀ g, b.ownBlock = some g → ¬ (a.ownBlock = some g) := by
  intro g hg hh
  rcases Nat.lt_or_ge i j with hlt | hge
  · rcases h i j a b hlt ha hb with h1 | h1
    · rw [hh] at h1; cases h1
    · exact h1 (hh.trans hg.symm)
  · rcases h j i b a (by omega) hb ha with h1 | h1
    · rw [hg] at h1; cases h1
    · exact h1 (hg.trans hh.symm)
def OwnIs (w : World) (lo hi : Nat) (v : Value) (l : List It) : Prop :=
  ∃ ps : List (Int × Value), ps.length = l.length ∧ (∀ (i : Nat) (x : It), l[i]? = some x → ∃ u, ps[i]? = some (x.id, u) ∧ w.ownsRow lo 3 1 u x.vals.length (x.vals.map (Value.int .i64)) ∧ Und u hi) ∧ Apart (ps.map (·.2)) ∧
    w.ownsRow lo 34 2 v l.length (itc ps) ∧ Und v hi ∧ ∀ u ∈ ps.map (·.2), u.ownBlock = none ∨ u.ownBlock ≠ v.ownBlock
def RetIts2 (w : World) (l : List It) (e : Ending) (w' : World) : Prop := ∃ v, e = .returned v ∧ OwnIs w' w.heap.size w'.heap.size v l ∧ Below w.heap.size w w'
section
variable {w w' : World} {lo hi lo' hi' : Nat} {v : Value} {l : List It}
theorem OwnIs.of (h : OwnIts w lo 34 3 v l) : OwnIs w lo w.heap.size v l := by
  obtain ⟨ps, ⟨h1, h2, h3⟩, h4, h5⟩ := h
  refine ⟨ps, h1, fun i x hx => ?_, h3, h4, own_und h4, h5⟩
  obtain ⟨u, e, ho⟩ := h2 i x hx
  exact ⟨u, e, own_mono ho (by omega), own_und ho⟩
theorem OwnIs.below (h : OwnIs w lo hi v l) (hb : Below w.heap.size w w') : OwnIs w' lo hi v l := by
  obtain ⟨ps, h1, h2, h3, h4, h5, h6⟩ := h
  refine ⟨ps, h1, fun i x hx => ?_, h3, own_below h4 hb, h5, h6⟩
  obtain ⟨u, e, ho, hu⟩ := h2 i x hx
  exact ⟨u, e, own_below ho hb, hu⟩
theorem OwnIs.rng (h : OwnIs w lo hi v l) (hc : Chg (Rng lo' hi') w w') (hd : hi' ≤ lo ∨ hi ≤ lo') : OwnIs w' lo hi v l := by
  obtain ⟨ps, h1, h2, h3, h4, h5, h6⟩ := h
  refine ⟨ps, h1, fun i x hx => ?_, h3, own_rng h4 h5 hc hd, h5, h6⟩
  obtain ⟨u, e, ho, hu⟩ := h2 i x hx
  exact ⟨u, e, own_rng ho hu hc hd, hu⟩
theorem OwnIs.read (h : OwnIs w lo hi v l) (hf : ∀ x ∈ l, Fit x.id ∧ ∀ y ∈ x.vals, Fit y) : V RIt 2 w w.heap.size v l := by
  obtain ⟨ps, h1, h2, _, ho, _⟩ := h
  have e : (ps.map fun p => [Value.int .i64 p.1, p.2]).flatten = itc ps := by unfold itc; rw [List.flatMap_def]
  refine own_V (css := ps.map fun p => [Value.int .i64 p.1, p.2]) (by rw [e]; exact ho) (by simp [h1]) (fun i x cs hx hc => ?_)
  obtain ⟨u, hu, hr, _⟩ := h2 i x hx
  rw [List.getElem?_map, hu] at hc
  simp at hc
  subst hc
  obtain ⟨f1, f2⟩ := hf x (List.mem_of_getElem? hx)
  exact ⟨rfl, u, rfl, f1, own_ints hr f2⟩
end
theorem fitItsV {w : World} {B : Nat} {v : Value} {l : List It} (h : V RIt 2 w B v l) : ∀ x ∈ l, Fit x.id ∧ ∀ y ∈ x.vals, Fit y := by
  obtain ⟨A, n, c, rfl, hs⟩ := h
  exact fitIts hs
end Go.Proofs.Ytgjghpaenliliaa.Wk
