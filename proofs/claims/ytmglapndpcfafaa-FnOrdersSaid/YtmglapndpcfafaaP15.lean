/-
  Plain laws: the closure of pairs, row by row. No program stands here.
  Conditions: none.
-/
import Derived.Test.YtmglapndpcfafaaP3
namespace Go.Proofs.Ytmglapndpcfafaa.P

/-- Of row i the pairs whose lower value is less than j. -/
noncomputable def rowC (l : List (Int × Int)) (i : Nat) : Nat → List (Int × Int)
  | 0 => []
  | j + 1 => if abv l i j then rowC l i j ++ [((i : Int), (j : Int))] else rowC l i j
/-- The rows less than i. -/
noncomputable def closC (l : List (Int × Int)) : Nat → List (Int × Int)
  | 0 => []
  | i + 1 => closC l i ++ rowC l i 10
/-- All pairs of values of which one is above the other, or none if the pairs are not valid. -/
noncomputable def closR (l : List (Int × Int)) : List (Int × Int) := if okP l then closC l 10 else []
theorem rowC_len (l : List (Int × Int)) (i : Nat) : ∀ j, (rowC l i j).length ≤ j
  | 0 => by simp [rowC]
  | j + 1 => by
    have := rowC_len l i j
    rw [rowC]
    split
    · simp; omega
    · omega
theorem closC_len (l : List (Int × Int)) : ∀ i, (closC l i).length ≤ i * 10
  | 0 => by simp [closC]
  | i + 1 => by
    have := closC_len l i
    have := rowC_len l i 10
    rw [closC, List.length_append]; omega
theorem rowC_mem {l : List (Int × Int)} {i : Nat} {p : Int × Int} : ∀ {j : Nat}, p ∈ rowC l i j → p.1 = i ∧ 0 ≤ p.2 ∧ p.2 < j ∧ abv l p.1 p.2 = true
  | 0, h => by simp [rowC] at h
  | j + 1, h => by
    rw [rowC] at h
    split at h
    · rename_i hab
      rcases List.mem_append.1 h with h | h
      · obtain ⟨h1, h2, h3, h4⟩ := rowC_mem h
        exact ⟨h1, h2, by omega, h4⟩
      · simp at h
        subst h
        exact ⟨rfl, by simp, by simp; omega, hab⟩
    · obtain ⟨h1, h2, h3, h4⟩ := rowC_mem h
      exact ⟨h1, h2, by omega, h4⟩
theorem closC_mem {l : List (Int × Int)} {p : Int × Int} : ∀ {i : Nat}, p ∈ closC l i → (0 ≤ p.1 ∧ p.1 < i) ∧ (0 ≤ p.2 ∧ p.2 < 10) ∧ abv l p.1 p.2 = true
  | 0, h => by simp [closC] at h
  | i + 1, h => by
    rw [closC] at h
    rcases List.mem_append.1 h with h | h
    · obtain ⟨⟨h1, h2⟩, h3, h4⟩ := closC_mem h
      exact ⟨⟨h1, by omega⟩, h3, h4⟩
    · obtain ⟨h1, h2, h3, h4⟩ := rowC_mem h
      exact ⟨⟨by omega, by omega⟩, ⟨h2, h3⟩, h4⟩
theorem closR_len (l : List (Int × Int)) : (closR l).length ≤ 100 := by
  unfold closR
  split
  · exact closC_len l 10
  · simp
end Go.Proofs.Ytmglapndpcfafaa.P
