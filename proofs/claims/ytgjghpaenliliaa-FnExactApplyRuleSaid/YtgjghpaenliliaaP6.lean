/-
  Plain laws of lists of items: valid up to a place. No program stands here.
  Conditions: none.
-/
import Derived.Test.YtgjghpaenliliaaP4
namespace Go.Proofs.Ytgjghpaenliliaa.P
open Go.Proofs.Ytgjghpaenliliaa.M

/-- The first k items are valid, and rise. -/
def okUp (l : List It) (k : Nat) : Prop := ∀ i x, i < k → l[i]? = some x → okI x = true ∧ ∀ y, 0 < i → l[i - 1]? = some y → y.id < x.id
theorem risI_iff : ∀ l : List It, risI l = true ↔ ∀ i x y, l[i]? = some x → l[i + 1]? = some y → x.id < y.id
  | [] => by simp [risI]
  | [a] => by simp [risI]
  | a :: b :: t => by
    rw [risI, Bool.and_eq_true, decide_eq_true_eq, risI_iff (b :: t)]
    constructor
    · rintro ⟨h1, h2⟩ i x y hx hy
      cases i with
      | zero => simp at hx hy; subst hx hy; exact h1
      | succ i => exact h2 i x y (by simpa using hx) (by simpa using hy)
    · intro h
      exact ⟨h 0 a b rfl rfl, fun i x y hx hy => h (i + 1) x y (by simpa using hx) (by simpa using hy)⟩
theorem okUp_all {l : List It} (h : okUp l l.length) : (l.all okI && risI l) = true := by
  rw [Bool.and_eq_true, List.all_eq_true, risI_iff]
  refine ⟨fun x hx => ?_, fun i x y hx hy => ?_⟩
  · obtain ⟨i, hi⟩ := List.getElem?_of_mem hx
    exact (h i x (List.getElem?_eq_some_iff.1 hi).1 hi).1
  · exact (h (i + 1) y (List.getElem?_eq_some_iff.1 hy).1 hy).2 x (by omega) (by simpa using hx)
theorem okIs_bad1 {l : List It} {k : Nat} {x : It} (hx : l[k]? = some x) (h : okI x = false) : okIs l = false := by
  unfold okIs
  have : l.all okI = false := by rw [List.all_eq_false]; exact ⟨x, List.mem_of_getElem? hx, by simp [h]⟩
  rw [this]; rfl
theorem okIs_bad2 {l : List It} {k : Nat} {x y : It} (hx : l[k]? = some x) (hy : l[k + 1]? = some y) (h : y.id ≤ x.id) : okIs l = false := by
  unfold okIs
  have : risI l = false := by
    cases hr : risI l with
    | false => rfl
    | true => have := (risI_iff l).1 hr k x y hx hy; omega
  rw [this]; simp
theorem okUp_step {l : List It} {k : Nat} {x : It} (h : okUp l k) (hx : l[k]? = some x) (h1 : okI x = true) (h2 : ∀ y, 0 < k → l[k - 1]? = some y → y.id < x.id) : okUp l (k + 1) := by
  intro i z hi hz
  rcases Nat.lt_or_ge i k with hlt | hge
  · exact h i z hlt hz
  · obtain rfl : i = k := by omega
    rw [hx] at hz
    injection hz with hz
    subst hz
    exact ⟨h1, fun y h0 hy => h2 y h0 hy⟩
theorem okIs_len {l : List It} {n k : Nat} (h : okUp l k) (hl : l.length = n) (hk : k = n) : okIs l = decide ((n : Int) ≤ 16) := by
  subst hl hk
  have := okUp_all h
  rw [Bool.and_eq_true] at this
  unfold okIs
  rw [this.1, this.2]
  simp
  omega
end Go.Proofs.Ytgjghpaenliliaa.P
