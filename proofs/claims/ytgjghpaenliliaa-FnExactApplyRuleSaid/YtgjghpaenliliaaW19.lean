/-
  Walks of chapter 2: EqualItems.
  Conditions: none beyond the bounds that each states.
-/
import Derived.Test.YtgjghpaenliliaaW17
import Derived.Test.YtgjghpaenliliaaP7
namespace Go.Proofs.Ytgjghpaenliliaa.Wk
open Go.RowKit Go.Proofs.Ytgjghpaenliliaa.M
set_option linter.unusedVariables false
attribute [local go_sem] cell_grow

set_option maxHeartbeats 800000 in
theorem l2Ints {A A' : Option Addr} {n n' c c' : Nat} {xs ys : List Int} (w : World) (h : Sl RI 1 w w.heap.size A n c xs) (h' : Sl RI 1 w w.heap.size A' n' c' ys) :
    Calls Try.prog 111 #[.slice A n c, .slice A' n' c'] w fun e w' => e = .returned (.bool (decide (xs = ys))) ∧ Below w.heap.size w w' := by
  have m1 := Nat.le_trans h.le h.max
  have m2 := Nat.le_trans h'.le h'.max
  unfold maxLen at m1 m2
  have HL := Lib.hid h.len
  have HL' := Lib.hid h'.len
  by_cases hne : n = n'
  · have HN := Lib.hid hne
    have ht : ((n : Int) != (n' : Int)) = false := by simp [hne]
    clear hne
    go_enter Try.func111, Try.ntmps111
    go_wp2
    go_loopw [5] (fun vk wr => ∃ k : Nat, k ≤ n ∧ vk = .int .i64 k ∧ Hid (P.Agree xs ys k) ∧ Below w.heap.size w wr) (fun vk _ => n - (intOf vk).toNat)
    case atStart => exact ⟨0, Nat.zero_le _, rfl, rfl, Below.refl _ _⟩
    case round =>
      obtain ⟨k, hk, rfl, hup, hbw⟩ := hrel
      by_cases hlt : k < n
      · have hlt' : k < n' := by have := HN.out; omega
        obtain ⟨b, o, x, rfl, hb, hx, hf, hc⟩ := h.int hlt
        obtain ⟨b', o', y, rfl, hb', hy, hf', hc'⟩ := h'.int hlt'
        have hsz := hbw.size
        have g1 : b < wr.heap.size := by omega
        have g2 : b' < wr.heap.size := by omega
        have e1 := ((cell_of hbw) b (o + k) hb).trans hc
        have e2 := ((cell_of hbw) b' (o' + k) hb').trans hc'
        have q1 : (k : Int) < (n : Int) := by omega
        have q2 : (k : Int) < (n' : Int) := by omega
        have HX := Lib.hid hx
        have HY := Lib.hid hy
        clear hx hy h h' hc hc'
        by_cases hxy : x = y
        · have q : (x != y) = false := by simpa using hxy
          have HE := Lib.hid (P.agree_step hup.out HX.out (hxy ▸ HY.out))
          clear hxy
          go_wp2_with fail
          refine wp_region_qb (by kernel_rfl) (by kernel_rfl) ?_; (repeat (go_big_quiet_step ((fail)))); refine wpQuiet_nil ?_; intro w8 hb8
          go_wp2
          go_roundw
          case rel => exact ⟨k + 1, by omega, by go_num, HE, hbw.trans (hb8.mono hsz)⟩
          case measure => simp [intOf]; omega
        · have q : (x != y) = true := by simpa using hxy
          have HE : Hid (decide (xs = ys) = false) := by
            show _ = _
            rw [decide_eq_false_iff_not]; exact P.agree_no HX.out HY.out hxy
          clear hxy
          go_wp2_with fail
          refine wp_region_qb (by kernel_rfl) (by kernel_rfl) ?_; (repeat (go_big_quiet_step ((fail)))); refine wpQuiet_nil ?_; intro w8 hb8
          go_wp2
          go_ret
          exact ⟨ret_bool HE.out.symm, hbw.trans (hb8.mono hsz)⟩
      · have HE : Hid (decide (xs = ys) = true) := by
          show _ = _
          rw [decide_eq_true_iff]
          exact P.agree_all hup.out HL.out (by rw [HL'.out]; exact HN.out.symm) (by omega)
        clear h h'
        go_wp2
        go_ret
        exact ⟨ret_bool HE.out.symm, hbw⟩
  · have ht : ((n : Int) != (n' : Int)) = true := by simp; omega
    have HE : Hid (decide (xs = ys) = false) := by
      show _ = _
      rw [decide_eq_false_iff_not]
      rintro rfl
      exact hne (HL.out.symm.trans HL'.out)
    clear hne h h'
    go_enter Try.func111, Try.ntmps111
    go_wp2
    go_ret
    exact ⟨ret_bool HE.out.symm, Below.refl _ _⟩
set_option maxHeartbeats 800000 in
theorem equalInts {A A' : Option Addr} {n n' c c' : Nat} {xs ys : List Int} (w : World) (h : Sl RI 1 w w.heap.size A n c xs) (h' : Sl RI 1 w w.heap.size A' n' c' ys) :
    Calls Try.prog 90 #[.slice A n c, .slice A' n' c'] w fun e w' => e = .returned (.bool (decide (xs = ys))) ∧ Below w.heap.size w w' := by
  have m1 := Nat.le_trans h.le h.max
  have m2 := Nat.le_trans h'.le h'.max
  unfold maxLen at m1 m2
  have HL := Lib.hid h.len
  have HL' := Lib.hid h'.len
  by_cases hne : n = n'
  · have HN := Lib.hid hne
    have ht : ((n : Int) != (n' : Int)) = false := by simp [hne]
    clear hne
    go_enter Try.func90, Try.ntmps90
    go_wp2
    go_loopw [5, 13] (fun vi vk wr => ∃ k : Nat, k ≤ n ∧ vk = .int .i64 k ∧ Hid (P.Agree xs ys k) ∧ Below w.heap.size w wr) (fun vi vk _ => n - (intOf vk).toNat)
    case atStart => exact ⟨0, Nat.zero_le _, rfl, rfl, Below.refl _ _⟩
    case round =>
      obtain ⟨k, hk, rfl, hup, hbw⟩ := hrel
      by_cases hlt : k < n
      · have hlt' : k < n' := by have := HN.out; omega
        obtain ⟨b, o, x, rfl, hb, hx, hf, hc⟩ := h.int hlt
        obtain ⟨b', o', y, rfl, hb', hy, hf', hc'⟩ := h'.int hlt'
        have hsz := hbw.size
        have g1 : b < wr.heap.size := by omega
        have g2 : b' < wr.heap.size := by omega
        have e1 := ((cell_of hbw) b (o + k) hb).trans hc
        have e2 := ((cell_of hbw) b' (o' + k) hb').trans hc'
        have q1 : (k : Int) < (n : Int) := by omega
        have q2 : (k : Int) < (n' : Int) := by omega
        have HX := Lib.hid hx
        have HY := Lib.hid hy
        clear hx hy h h' hc hc'
        by_cases hxy : x = y
        · have q : (x != y) = false := by simpa using hxy
          have HE := Lib.hid (P.agree_step hup.out HX.out (hxy ▸ HY.out))
          clear hxy
          go_wp2_with fail
          refine wp_region_qb (by kernel_rfl) (by kernel_rfl) ?_; (repeat (go_big_quiet_step ((fail)))); refine wpQuiet_nil ?_; intro w8 hb8
          go_wp2
          go_roundw
          case rel => exact ⟨k + 1, by omega, by go_num, HE, hbw.trans (hb8.mono hsz)⟩
          case measure => simp [intOf]; omega
        · have q : (x != y) = true := by simpa using hxy
          have HE : Hid (decide (xs = ys) = false) := by
            show _ = _
            rw [decide_eq_false_iff_not]; exact P.agree_no HX.out HY.out hxy
          clear hxy
          go_wp2_with fail
          refine wp_region_qb (by kernel_rfl) (by kernel_rfl) ?_; (repeat (go_big_quiet_step ((fail)))); refine wpQuiet_nil ?_; intro w8 hb8
          go_wp2
          go_ret
          exact ⟨ret_bool HE.out.symm, hbw.trans (hb8.mono hsz)⟩
      · have HE : Hid (decide (xs = ys) = true) := by
          show _ = _
          rw [decide_eq_true_iff]
          exact P.agree_all hup.out HL.out (by rw [HL'.out]; exact HN.out.symm) (by omega)
        clear h h'
        go_wp2
        go_ret
        exact ⟨ret_bool HE.out.symm, hbw⟩
  · have ht : ((n : Int) != (n' : Int)) = true := by simp; omega
    have HE : Hid (decide (xs = ys) = false) := by
      show _ = _
      rw [decide_eq_false_iff_not]
      rintro rfl
      exact hne (HL.out.symm.trans HL'.out)
    clear hne h h'
    go_enter Try.func90, Try.ntmps90
    go_wp2
    go_ret
    exact ⟨ret_bool HE.out.symm, Below.refl _ _⟩
theorem it_eq (x y : It) : decide (x = y) = (decide (x.id = y.id) && decide (x.vals = y.vals)) := by
  obtain ⟨a, b⟩ := x
  obtain ⟨c, d⟩ := y
  simp [It.mk.injEq, Bool.decide_and]
end Go.Proofs.Ytgjghpaenliliaa.Wk
