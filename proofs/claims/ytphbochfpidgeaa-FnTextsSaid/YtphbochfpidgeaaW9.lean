/-
  Walks of chapter 1: DecodeVarint.
  Conditions: none beyond the bounds that each states.
-/
import Derived.Test.YtphbochfpidgeaaW5
import Derived.Test.YtphbochfpidgeaaW6
import Derived.Test.YtphbochfpidgeaaB2
namespace Go.Proofs.Ytphbochfpidgeaa.Wk
open Go.RowKit
set_option linter.unusedVariables false

theorem bytesEq {xs : List Int} (h : ∀ x ∈ xs, 0 ≤ x ∧ x < 256) (l : List UInt8) : (strOfNums xs).data.toList = l ↔ xs = P.nums l := by
  rw [strOfNums_data]
  constructor
  · rintro rfl
    unfold P.nums
    rw [List.map_map]
    have : xs.map ((fun b : UInt8 => (b.toNat : Int)) ∘ fun n => UInt8.ofNat n.toNat) = xs.map id := List.map_congr_left fun x hx => by
      have := h x hx
      simp; omega
    rw [this]; simp
  · rintro rfl
    unfold P.nums
    rw [List.map_map]
    have : ((fun n : Int => UInt8.ofNat n.toNat) ∘ fun b : UInt8 => (b.toNat : Int)) = id := by funext b; simp
    rw [this]; simp
theorem uv_mem (n : Nat) : ∀ x ∈ P.uv n, 0 ≤ x ∧ x < 256 := by
  obtain ⟨a, z, e, h1, h2, h3⟩ := P.uv_shape n
  intro x hx
  rw [e] at hx
  rcases List.mem_append.1 hx with hx | hx
  · have := h3 x hx; omega
  · simp at hx; omega
theorem evS_nat {x : Nat} (h : x ≤ 562949953421311) : evS x = strOfNums (P.uv x) := by
  have : P.inR x 0 562949953421311 = true := P.inR_mk (by omega)
  simp [evS, this]
theorem take_extract (s : ByteArray) (k : Nat) : (s.extract 0 k).toList = s.data.toList.take k := by
  rw [ByteArray.toList_eq]
  simp [ByteArray.extract, ByteArray.copySlice, Array.toList_extract]
theorem okv_test {s : ByteArray} {k x : Nat} (hx : x = P.lv s.data.toList k) (h7 : k ≤ 7) : ((evS (x : Int)).toList == (s.extract 0 k).toList) = true ↔ P.okv s.data.toList k := by
  subst hx
  have hl := P.lv_lt s.data.toList k
  have hp := P.pow128_le7 h7
  rw [evS_nat (by omega), take_extract, ByteArray.toList_eq, beq_iff_eq, bytesEq (uv_mem _)]
  rfl
theorem pow_step {k t : Nat} (h : t + 1 ≤ k) : 128 ^ (k - t) = 128 ^ (k - (t + 1)) * 128 := by
  rw [show k - t = (k - (t + 1)) + 1 by omega, Nat.pow_succ]
/-- It returns what a decoder of varints answers. -/
def SomeDV (s : ByteArray) (w : World) (e : Ending) (w' : World) : Prop := ∃ r : Nat × Nat, P.DV s.data.toList r ∧ e = .returned (.tuple #[.int .i64 r.1, .int .i64 r.2]) ∧ Below w.heap.size w w'
end Go.Proofs.Ytphbochfpidgeaa.Wk
