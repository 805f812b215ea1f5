/-
  Walks of chapter 2: items compared; the law on IsItem.
  Conditions: none beyond the bounds that each states.
-/
import Derived.Test.YtgjghpaenliliaaW13
import Derived.Deep.RegionHeld3
namespace Go.Proofs.Ytgjghpaenliliaa.Wk
open Go.RowKit Go.Proofs.Ytgjghpaenliliaa.M
set_option linter.unusedVariables false

set_option maxHeartbeats 400000 in
theorem eqItem {B B' : Nat} {A A' : Option Addr} {n n' c c' : Nat} {id id' : Int} {xs ys : List Int} (w : World) (h : Sl RI 1 w B A n c xs) (h' : Sl RI 1 w B' A' n' c' ys) (hB : B ≤ w.heap.size) (hB' : B' ≤ w.heap.size) :
    Calls Try.prog 16 #[.agg #[.int .i64 id, .slice A n c], .agg #[.int .i64 id', .slice A' n' c']] w fun e w' => e = .returned (.bool (decide (id = id' ∧ xs = ys))) ∧ Below w.heap.size w w' := by
  have hb2 : ∀ o1 o2, Below w.heap.size w ((w.alloc o1).alloc o2) := fun o1 o2 => ((Below.refl _ _).alloc (Nat.le_refl _) _).alloc (by simp) _
  by_cases hid : id = id'
  · subst hid
    have ht : (id != id) = false := by simp
    go_enter Try.func16, Try.ntmps16
    go_wp2_with fail
    refine (eqIntS _ (h.below RI.keeps ((hb2 _ _).mono hB)) (h'.below RI.keeps ((hb2 _ _).mono hB'))).mono ?_
    rintro e w1 ⟨rfl, m, rfl⟩
    have HB := Lib.hid hb2
    clear hb2 h h'
    by_cases hxy : xs = ys
    · have hd : decide (xs = ys) = true := by simpa using hxy
      have HD : Hid (decide (id = id ∧ xs = ys) = true) := by show _ = _; simpa using hxy
      clear hxy
      rw [hd]
      clear hd
      go_wp2
      go_ret
      exact ⟨ret_bool HD.out.symm, below_drewN (HB.out _ _) m⟩
    · have hd : decide (xs = ys) = false := by simpa using hxy
      have HD : Hid (decide (id = id ∧ xs = ys) = false) := by show _ = _; simpa using hxy
      clear hxy
      rw [hd]
      clear hd
      go_wp2
      go_ret
      exact ⟨ret_bool HD.out.symm, below_drewN (HB.out _ _) m⟩
  · have ht : (id != id') = true := by simpa using hid
    have HD : Hid (decide (id = id' ∧ xs = ys) = false) := by show _ = _; simp [hid]
    have HB := Lib.hid hb2
    clear hb2 h h' hid
    go_enter Try.func16, Try.ntmps16
    go_wp2
    go_ret
    exact ⟨ret_bool HD.out.symm, HB.out _ _⟩
end Go.Proofs.Ytgjghpaenliliaa.Wk
