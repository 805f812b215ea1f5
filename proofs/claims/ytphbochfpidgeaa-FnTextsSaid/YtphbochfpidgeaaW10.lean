/-
  Walks of chapter 1: ParseInt.
  Conditions: none beyond the bounds that each states.
-/
import Derived.Test.YtphbochfpidgeaaW8
import Derived.Test.YtphbochfpidgeaaP2
namespace Go.Proofs.Ytphbochfpidgeaa.Wk
open Go.RowKit
set_option linter.unusedVariables false

theorem bytesEq2 {xs : List Int} (h : ∀ x ∈ xs, 0 ≤ x ∧ x < 256) (l : List UInt8) : (strOfNums xs).data.toList = l ↔ xs = P.nums l := by
  rw [strOfNums_data]
  constructor
  · rintro rfl
    unfold P.nums
    rw [List.map_map]
    have : xs.map ((fun b : UInt8 => (b.toNat : Int)) ∘ fun n => UInt8.ofNat n.toNat) = xs.map id := List.map_congr_left fun x hx => by
      have := h x hx
      simp; omega
    rw [this]; simp
  · rintro rfl
    unfold P.nums
    rw [List.map_map]
    have : ((fun n : Int => UInt8.ofNat n.toNat) ∘ fun b : UInt8 => (b.toNat : Int)) = id := by funext b; simp
    rw [this]; simp
theorem fmtL_mem (n : Int) : ∀ x ∈ P.fmtL n, 0 ≤ x ∧ x < 256 := by
  intro x hx
  unfold P.fmtL at hx
  split at hx
  · simp at hx; omega
  · split at hx
    · rcases List.mem_cons.1 hx with rfl | hx
      · omega
      · have := P.digs_mem _ _ hx; omega
    · have := P.digs_mem _ _ hx; omega
theorem fmt_test {s : ByteArray} {n : Int} : ((fmtS n).toList == s.toList) = true ↔ P.fmtL n = P.nums s.data.toList := by
  rw [ByteArray.toList_eq, ByteArray.toList_eq, beq_iff_eq]
  exact bytesEq2 (fmtL_mem n) _
/-- What ParseInt answers. -/
noncomputable def piN (l : List UInt8) : Int := (P.pI l).getD 0
noncomputable def piB (l : List UInt8) : Bool := (P.pI l).isSome
theorem piN_none {l : List UInt8} (h : P.pI l = none) : piN l = 0 ∧ piB l = false := by unfold piN piB; rw [h]; exact ⟨rfl, rfl⟩
theorem piN_some {l : List UInt8} {n : Int} (h : P.pI l = some n) : piN l = n ∧ piB l = true := by unfold piN piB; rw [h]; exact ⟨rfl, rfl⟩
theorem ret_pi {l : List UInt8} {n : Int} {b : Bool} (h : piN l = n ∧ piB l = b) : Ending.returned (.tuple #[.int .i64 n, .bool b]) = Ending.returned (.tuple #[.int .i64 (piN l), .bool (piB l)]) := by rw [h.1, h.2]
theorem getD_dn {s : ByteArray} {k : Nat} (h : k < s.size) : (s.data.toList.getD k 0).toNat = s[k].toNat := by rw [getD_of h]
end Go.Proofs.Ytphbochfpidgeaa.Wk
