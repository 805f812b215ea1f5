/-
  The laws' helpers on items and lists of items, each in one form.
  Conditions: none beyond the bounds that each states.
-/
import Derived.Test.YtgjghpaenliliaaW16
import Derived.Test.YtgjghpaenliliaaM7
import Derived.Test.YtgjghpaenliliaaU0
namespace Go.Proofs.Ytgjghpaenliliaa.Wk
open Go.RowKit Go.Proofs.Ytgjghpaenliliaa.M
set_option linter.unusedVariables false

theorem fitIts {w : World} {B n c : Nat} {A : Option Addr} {l : List It} (h : Sl RIt 2 w B A n c l) : ∀ x ∈ l, Fit x.id ∧ ∀ y ∈ x.vals, Fit y := by
  intro x hx
  obtain ⟨i, hi⟩ := List.getElem?_of_mem hx
  have hin : i < n := by have := (List.getElem?_eq_some_iff.1 hi).1; have := h.len; omega
  obtain ⟨b, o, y, A1, n1, c1, _, _, hy, hf, hs, _, _⟩ := itemAt h hin
  rw [hi] at hy
  injection hy with hy
  subst hy
  exact ⟨hf, V.fit ⟨A1, n1, c1, rfl, hs⟩⟩
/-- It returns an item by value that reads as x. -/
abbrev RetIt (w : World) (x : It) (e : Ending) (w' : World) : Prop := ∃ A n c, e = .returned (.agg #[.int .i64 x.id, .slice A n c]) ∧ Sl RI 1 w' w'.heap.size A n c x.vals ∧ Below w.heap.size w w'
theorem sz_item {A : Option Addr} {n c : Nat} {x : It} {left : Int} (w : World) (h : Sl RI 1 w w.heap.size A n c x.vals) (h0 : 0 ≤ left) (h1 : left ≤ 1048576) :
    Calls Try.prog 12 #[.agg #[.int .i64 x.id, .slice A n c], .int .i64 left] w fun e w' => e = .returned (.int .i64 (less left x.vals.length)) ∧ Below w.heap.size w w' := by
  rw [h.len]
  exact szItem h0 h1 (Nat.le_trans h.le h.max) w
theorem to_item {A : Option Addr} {n c : Nat} {x : It} (w : World) (h : Sl RI 1 w w.heap.size A n c x.vals) (ht : x.vals.length ≤ 1048576) : Calls Try.prog 14 #[.agg #[.int .i64 x.id, .slice A n c]] w (RetIt w x) :=
  (toItem w h (by rw [← h.len]; exact ht)).mono fun e w' hh => hh.read (V.fit ⟨A, n, c, rfl, h⟩)
theorem eq_item {A A' : Option Addr} {n n' c c' : Nat} {x : It} (w : World) (h : Sl RI 1 w w.heap.size A n c x.vals) (h' : Sl RI 1 w w.heap.size A' n' c' x.vals) :
    Calls Try.prog 16 #[.agg #[.int .i64 x.id, .slice A n c], .agg #[.int .i64 x.id, .slice A' n' c']] w fun e w' => e = .returned (.bool true) ∧ Below w.heap.size w w' :=
  (eqItem w h h' (Nat.le_refl _) (Nat.le_refl _)).mono fun e w' ⟨he, hb⟩ => ⟨by rw [he]; simp, hb⟩
end Go.Proofs.Ytgjghpaenliliaa.Wk
