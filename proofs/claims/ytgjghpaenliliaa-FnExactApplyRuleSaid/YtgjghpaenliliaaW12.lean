/-
  Walks of chapter 2: slices of numbers measured, copied, compared.
  Conditions: none beyond the bounds that each states.
-/
import Derived.Test.YtgjghpaenliliaaU0
import Derived.Test.YtgjghpaenliliaaM5
import Derived.Test.YtgjghpaenliliaaP4
import Derived.Deep.QuietTactic
import Derived.BigQuiet
namespace Go.Proofs.Ytgjghpaenliliaa.Wk
open Go.RowKit Go.Proofs.Ytgjghpaenliliaa.M
set_option linter.unusedVariables false

theorem info_int : (Try.prog.info? 3).map (fun i => (i.zero, i.size, i.bytes)) = some (some (.int .i64 0), 1, 8) := by kernel_rfl
theorem szIntS (A : Option Addr) (n c : Nat) (left : Int) (h0 : 0 ≤ left) (h1 : left ≤ 1048576) (hn : n ≤ maxLen) (w : World) :
    Calls Try.prog 32 #[.slice A n c, .int .i64 left] w fun e w' => e = .returned (.int .i64 (less left n)) ∧ w = w' := by
  unfold maxLen at hn
  by_cases h : left < n
  · have hv : less left n = -1 := by unfold less; rw [if_pos h]
    rw [hv]
    clear hv
    go_enter Try.func32, Try.ntmps32
    go_wp2
    go_ret
    exact ⟨rfl, rfl⟩
  · have hv : less left n = left - n := by unfold less; rw [if_neg h]
    rw [hv]
    clear hv
    go_enter Try.func32, Try.ntmps32
    go_wp2
    go_ret
    exact ⟨rfl, rfl⟩
/-- It returns a row of the call's own that holds the numbers. -/
def OwnI (w : World) (xs : List Int) (e : Ending) (w' : World) : Prop := ∃ v, e = .returned v ∧ w'.ownsRow w.heap.size 3 1 v xs.length (xs.map (Value.int .i64)) ∧ Below w.heap.size w w'
set_option maxHeartbeats 400000 in
theorem toIntS {A : Option Addr} {n c : Nat} {xs : List Int} (w : World) (h : Sl RI 1 w w.heap.size A n c xs) (hn : n ≤ 1048576) : Calls Try.prog 35 #[.slice A n c] w (OwnI w xs) := by
  have hmk : ∀ w : World, (Instr.makeSlice 29 (.int .i64 (n : Int)) (.int .i64 (n : Int))).run Try.prog w = .ok (.slice (some ⟨w.heap.size, 0, none⟩) n n) (w.alloc (.cells (madeCells #[.int .i64 0] n) 3)) := fun w =>
    run_make_row' (P := Try.prog) 29 3 (.int .i64 0) 8 Try.underlying29 info_int rfl .i64 .i64 n (by omega) (by omega) w
  go_enter Try.func35, Try.ntmps35
  go_wp2
  clear hmk
  go_loopw [4] (fun vi wr => ∃ k : Nat, k ≤ n ∧ vi = .int .i64 k ∧ Row wr w.heap.size 3 ((xs.take k).map (Value.int .i64) ++ List.replicate (n - k) (.int .i64 0)) ∧ Below w.heap.size w wr)
    (fun vi _ => n - (intOf vi).toNat)
  case atStart => exact ⟨0, Nat.zero_le _, rfl, by simpa using Row.made w _ _ n, (Below.refl _ _).alloc (Nat.le_refl _) _⟩
  case round =>
    obtain ⟨k, hk, rfl, hrow, hbw⟩ := hrel
    have hlen := Lib.hid h.len
    by_cases hlt : k < n
    · obtain ⟨b, o, x, rfl, hb, hx, hf, hc⟩ := h.int hlt
      have hc1 : wr.cell? ⟨b, o + k, none⟩ = some (.int .i64 x) := (hbw.cell (p := ⟨b, o + k, none⟩) hb).trans hc
      have hc2 : wr.cell? ⟨w.heap.size, k, none⟩ = some (.int .i64 0) := by
        have := hlen.out
        rw [hrow.cell, List.getElem?_append_right (by simp; omega), List.getElem?_replicate, if_pos (by simp; omega)]
      have hf2 := hrow.free k
      have HR := Lib.hid (hrow.set k (.int .i64 x))
      have HB := Lib.hid (hbw.setCell (p := ⟨w.heap.size, k, none⟩) (Nat.le_refl _) (.int .i64 x))
      have HX := Lib.hid hx
      clear hc hx hrow hbw h
      go_wp2
      go_roundw
      case rel => exact ⟨k + 1, by omega, by go_num, by rw [← set_fill (Value.int .i64) (.int .i64 0) xs k n x hlen.out hlt HX.out]; exact HR.out, HB.out⟩
      case measure => simp [intOf]; omega
    · have hkn : k = n := by omega
      have hown : wr.ownsRow w.heap.size 3 1 (.slice (some ⟨w.heap.size, 0, none⟩) n n) xs.length (xs.map (Value.int .i64)) := by
        have h2 : Row wr w.heap.size 3 (xs.map (Value.int .i64)) := by
          have e : xs.take k = xs := List.take_of_length_le (by have := hlen.out; omega)
          rw [e, hkn, Nat.sub_self] at hrow
          simpa using hrow
        rw [hlen.out]
        exact h2.own (Nat.le_refl _) (by simp [hlen.out]) (by unfold maxLen; omega)
      have HO := Lib.hid hown
      clear hown hrow h hkn
      go_wp2
      go_ret
      exact ⟨_, rfl, HO.out, hbw⟩
/-- It returns v and has only drawn. -/
def RetQ (v : Value) (w : World) (e : Ending) (w' : World) : Prop := e = .returned v ∧ ∃ m, w' = w.drewN m
theorem RetQ.below {v : Value} {w : World} {e : Ending} {w' : World} (h : RetQ v w e w') : e = .returned v ∧ Below w.heap.size w w' := by
  obtain ⟨h1, m, rfl⟩ := h
  exact ⟨h1, below_drewN (Below.refl _ _) m⟩
set_option maxHeartbeats 400000 in
theorem eqIntS {B B' : Nat} {A A' : Option Addr} {n n' c c' : Nat} {xs ys : List Int} (w : World) (h : Sl RI 1 w B A n c xs) (h' : Sl RI 1 w B' A' n' c' ys) :
    Calls Try.prog 38 #[.slice A n c, .slice A' n' c'] w (RetQ (.bool (decide (xs = ys))) w) := by
  have hl1 := h.len
  have hl2 := h'.len
  have m1 := h.max
  have m2 := h.le
  unfold maxLen at m1
  by_cases hne : n = n'
  · subst hne
    have ht : ((n : Int) != (n : Int)) = false := by simp
    have L1 := Lib.hid hl1
    have L2 := Lib.hid hl2
    clear hl1 hl2
    go_enter Try.func38, Try.ntmps38
    go_wp2
    go_loopw [5] (fun vi wr => ∃ k m : Nat, k ≤ n ∧ vi = .int .i64 k ∧ Hid (xs.take k = ys.take k) ∧ wr = w.drewN m) (fun vi _ => n - (intOf vi).toNat)
    case atStart => exact ⟨0, 0, Nat.zero_le _, rfl, by show _ = _; simp, rfl⟩
    case round =>
      obtain ⟨k, m, hk, rfl, heq, rfl⟩ := hrel
      by_cases hlt : k < n
      · obtain ⟨b, o, x, rfl, hb, hx, hf, hc⟩ := h.int hlt
        obtain ⟨b', o', y, rfl, hb', hy, hf', hc'⟩ := h'.int hlt
        have HX := Lib.hid hx
        have HY := Lib.hid hy
        have b1 : (k : Int) < (n : Int) := by omega
        clear hx hy h h'
        by_cases hxy : x = y
        · subst hxy
          have ht2 : (x != x) = false := by simp
          have HE : Hid (xs.take (k + 1) = ys.take (k + 1)) := by
            show _ = _
            have e1 := HX.out; have e2 := HY.out
            have l1 := L1.out; have l2 := L2.out
            rw [List.getElem?_eq_getElem (by omega)] at e1 e2
            injection e1 with e1; injection e2 with e2
            rw [List.take_succ_eq_append_getElem (by omega), List.take_succ_eq_append_getElem (by omega), heq.out, e1, e2]
          go_wp2_with fail
          go_quiet (fail)
          go_wp2
          go_roundw
          case rel => exact ⟨k + 1, _, by omega, by go_num, HE, rfl⟩
          case measure => simp [intOf]; omega
        · have ht2 : (x != y) = true := by simpa using hxy
          have HN : Hid (decide (xs = ys) = false) := by
            show _ = _
            rw [decide_eq_false_iff_not]
            rintro rfl
            have e1 := HX.out; have e2 := HY.out
            rw [e1] at e2
            injection e2 with e2
            exact hxy e2
          clear hxy
          go_wp2_with fail
          go_quiet (fail)
          go_wp2
          go_ret
          exact ⟨ret_bool HN.out.symm, m + nq, by simp⟩
      · have HN : Hid (decide (xs = ys) = true) := by
          show _ = _
          have l1 := L1.out; have l2 := L2.out
          have := heq.out
          rw [List.take_of_length_le (by omega), List.take_of_length_le (by omega)] at this
          simpa using this
        clear h h'
        go_wp2
        go_ret
        exact ⟨ret_bool HN.out.symm, _, rfl⟩
  · have ht : ((n : Int) != (n' : Int)) = true := by simp; omega
    have hn : decide (xs = ys) = false := by
      rw [decide_eq_false_iff_not]
      rintro rfl
      exact hne (hl1.symm.trans hl2)
    rw [hn]
    clear hn hne hl1 hl2 h h'
    go_enter Try.func38, Try.ntmps38
    go_wp2
    go_ret
    exact ⟨rfl, 0, rfl⟩
end Go.Proofs.Ytgjghpaenliliaa.Wk
