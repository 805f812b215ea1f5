/-
  Plain lists: turning a list round by exchanges. No program stands here.
  Conditions: none.
-/
import Derived.Test.YtphbochfpidgeaaP2
namespace Go.Proofs.Ytphbochfpidgeaa.P

/-- The first k and the last k elements have changed places. -/
def swp (L : List Int) (k : Nat) : List Int := (List.range L.length).map fun p => if p < k ∨ L.length - k ≤ p then L.getD (L.length - 1 - p) 0 else L.getD p 0
theorem swp_len (L : List Int) (k : Nat) : (swp L k).length = L.length := by simp [swp]
theorem swp_at (L : List Int) (k p : Nat) (hp : p < L.length) : (swp L k)[p]? = some (if p < k ∨ L.length - k ≤ p then L.getD (L.length - 1 - p) 0 else L.getD p 0) := by
  simp [swp, hp]
theorem swp_zero (L : List Int) : swp L 0 = L := by
  apply List.ext_getElem? 
  intro p
  by_cases hp : p < L.length
  · rw [swp_at L 0 p hp, if_neg (by omega), List.getElem?_eq_getElem hp]
    simp [List.getD, hp]
  · rw [List.getElem?_eq_none (by rw [swp_len]; omega), List.getElem?_eq_none (by omega)]
theorem swp_end (L : List Int) (k : Nat) (h : L.length ≤ 2 * k + 1) : swp L k = L.reverse := by
  apply List.ext_getElem? 
  intro p
  by_cases hp : p < L.length
  · rw [swp_at L k p hp, List.getElem?_reverse hp, List.getElem?_eq_getElem (by omega)]
    have e1 : L.getD (L.length - 1 - p) 0 = L[L.length - 1 - p] := by simp [List.getD, show L.length - 1 - p < L.length by omega]
    by_cases hc : p < k ∨ L.length - k ≤ p
    · rw [if_pos hc, e1]
    · rw [if_neg hc, ← e1, show L.length - 1 - p = p by omega]
  · rw [List.getElem?_eq_none (by rw [swp_len]; omega), List.getElem?_eq_none (by simp; omega)]
theorem swp_step (L : List Int) (k : Nat) (h : 2 * k + 1 < L.length) : swp L (k + 1) = ((swp L k).set k (L.getD (L.length - 1 - k) 0)).set (L.length - 1 - k) (L.getD k 0) := by
  apply List.ext_getElem? 
  intro p
  by_cases hp : p < L.length
  · rw [swp_at L (k + 1) p hp, List.getElem?_set, List.getElem?_set, swp_at L k p hp]
    simp only [List.length_set, swp_len]
    by_cases h1 : L.length - 1 - k = p
    · rw [if_pos h1, if_pos (by omega), if_pos (by omega), show L.length - 1 - p = k by omega]
    · rw [if_neg h1]
      by_cases h2 : k = p
      · rw [if_pos h2, if_pos (by omega), if_pos (by omega), h2]
      · rw [if_neg h2]
        by_cases h3 : p < k ∨ L.length - k ≤ p
        · rw [if_pos h3, if_pos (by omega)]
        · rw [if_neg h3, if_neg (by omega)]
  · rw [List.getElem?_eq_none (by rw [swp_len]; omega), List.getElem?_eq_none (by simp [swp_len]; omega)]
end Go.Proofs.Ytphbochfpidgeaa.P
