/-
  Walks of the laws' own helpers: two equal lists of numbers.
  Conditions: none beyond the bounds that each states.
-/
import Derived.Test.YtmglapndpcfafaaU0
import Derived.Test.YtmglapndpcfafaaM7
namespace Go.Proofs.Ytmglapndpcfafaa.Wk
open Go.RowKit Go.Proofs.Ytmglapndpcfafaa.M
set_option linter.unusedVariables false
set_option linter.unusedSimpArgs false
attribute [local go_sem] cell_grow

set_option maxHeartbeats 1600000 in
set_option maxRecDepth 100000 in
theorem sameInts {A A' : Option Addr} {n n' c c' : Nat} {xs : List Int} (w : World) (h : Sl RI 1 w w.heap.size A n c xs) (g : Sl RI 1 w w.heap.size A' n' c' xs) : Calls Try.prog 13 #[.slice A n c, .slice A' n' c'] w fun e w' => e = .returned (.bool true) ∧ Below w.heap.size w w' := by
  have hn : n = n' := h.len.symm.trans g.len
  subst hn
  have hle := h.le
  have gle := g.le
  have mx := Nat.le_trans h.le h.max
  unfold maxLen at mx
  go_enter Try.func13, Try.ntmps13
  go_wp2
  go_loopw [5] (fun vi wr => ∃ k : Nat, k ≤ n ∧ vi = .int .i64 k ∧ Below w.heap.size w wr) (fun vi _ => n - (intOf vi).toNat)
  case atStart => exact ⟨0, Nat.zero_le _, rfl, Below.refl _ _⟩
  case round =>
    obtain ⟨k, hk, rfl, hbw⟩ := hrel
    by_cases hlt : k < n
    · have q1 : (k : Int) < (n : Int) := by omega
      have q2 : (n : Int) ≤ (c : Int) := by omega
      have q3 : (n : Int) ≤ (c' : Int) := by omega
      obtain ⟨b, o, x, rfl, hb, hx, hf, hc⟩ := h.int hlt
      obtain ⟨b', o', x', rfl, hb', hx', hf', hc'⟩ := g.int hlt
      rw [hx] at hx'
      injection hx' with hx'
      subst hx'
      have c0 := ((cell_of hbw) b (o + k) hb).trans hc
      have c1 := ((cell_of hbw) b' (o' + k) hb').trans hc'
      have hsz := hbw.size
      have l0 : b < wr.heap.size := by omega
      have l1 : b' < wr.heap.size := by omega
      have HB := Lib.hid hbw
      have xx : (x != x) = false := by simp
      clear hc hc' hx hf hf' hbw
      go_wp2_with fail
      refine wp_region_qb (by kernel_rfl) (by kernel_rfl) ?_; (repeat (go_big_quiet_step ((fail)))); refine wpQuiet_nil ?_; intro w8 hb8
      have hb9 := HB.out.trans (hb8.mono hsz)
      clear hb8 c0 c1
      go_wp2
      go_roundw
      case rel => exact ⟨k + 1, by omega, by go_num, hb9⟩
      case measure => simp [intOf]; omega
    · have q1 : ¬ (k : Int) < (n : Int) := by omega
      go_wp2
      go_ret
      exact ⟨rfl, hbw⟩
theorem sameIntsV {v v' : Value} {xs : List Int} (w : World) (h : V RI 1 w w.heap.size v xs) (g : V RI 1 w w.heap.size v' xs) : Calls Try.prog 13 #[v, v'] w fun e w' => e = .returned (.bool true) ∧ Below w.heap.size w w' := by
  obtain ⟨A, n, c, rfl, h⟩ := h
  obtain ⟨A', n', c', rfl, g⟩ := g
  exact sameInts w h g
end Go.Proofs.Ytmglapndpcfafaa.Wk
