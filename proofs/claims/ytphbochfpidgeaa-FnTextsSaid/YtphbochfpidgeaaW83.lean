/-
  The walk of the law on integer encodings.
  Conditions: none beyond what the argument reads as.
-/
import Derived.Test.YtphbochfpidgeaaW82
namespace Go.Proofs.Ytphbochfpidgeaa.Wk
open Go.RowKit Go.Proofs.Ytphbochfpidgeaa.M
set_option linter.unusedVariables false

theorem lawBig {B : Nat} {A : Option Addr} {n c : Nat} {bs : List UInt8} (w : World) (h : Sl RB 1 w B A n c bs) : Calls Try.prog 4 #[.slice A n c] w fun e w' => e = .returned (.bool (decide (1048576 < n))) ∧ w = w' := by
  have mx := Nat.le_trans h.le h.max
  unfold maxLen at mx
  by_cases hb : 1048576 < n
  · have q : (1048576 : Int) < (n : Int) := by omega
    have e0 : decide (1048576 < n) = true := by simpa using hb
    rw [e0]
    go_enter Try.func4, Try.ntmps4
    go_wp2
    go_ret
    exact ⟨rfl, rfl⟩
  · have q : ¬ (1048576 : Int) < (n : Int) := by omega
    have e0 : decide (1048576 < n) = false := by simpa using hb
    rw [e0]
    go_enter Try.func4, Try.ntmps4
    go_wp2
    go_ret
    exact ⟨rfl, rfl⟩
theorem emp_yes {s : ByteArray} (h : s = ⟨#[]⟩) : s.toList = [] := by rw [h, ByteArray.toList_eq]
theorem emp_no {s : ByteArray} (h : ¬ s = ⟨#[]⟩) : ¬ s.toList = [] := fun e => h (by rw [ByteArray.toList_eq] at e; exact ba_ext2 e)
theorem emp_yes2 {s : ByteArray} (h : s = ⟨#[]⟩) : s.toList.isEmpty = true := by rw [emp_yes h]; rfl
theorem emp_no2 {s : ByteArray} (h : ¬ s = ⟨#[]⟩) : s.toList.isEmpty = false := by rw [List.isEmpty_eq_false_iff]; exact emp_no h
end Go.Proofs.Ytphbochfpidgeaa.Wk
