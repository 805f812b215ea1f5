/-
  Walks of chapter 2: AreItems.
  Conditions: none beyond the bounds that each states.
-/
import Derived.Test.YtncaamjmidmmdaaW16
import Derived.Test.YtncaamjmidmmdaaM7
import Derived.Test.YtncaamjmidmmdaaP6
namespace Go.Proofs.Ytncaamjmidmmdaa.Wk
open Go.RowKit Go.Proofs.Ytncaamjmidmmdaa.M
set_option linter.unusedVariables false
attribute [local go_sem] cell_grow

set_option maxHeartbeats 1600000 in
set_option maxRecDepth 100000 in
theorem implAreItems {A : Option Addr} {n c : Nat} {l : List It} (w : World) (h : Sl RIt 2 w w.heap.size A n c l) : Calls Try.prog 21 #[.slice A n c] w fun e w' => e = .returned (.bool (P.okIs l)) ∧ Below w.heap.size w w' := by
  have m1 := Nat.le_trans h.le h.max
  unfold maxLen at m1
  have HL := Lib.hid h.len
  go_enter Try.func21, Try.ntmps21
  go_wp2
  go_loopw [3, 4, 7] (fun vi vx vk wr => ∃ k : Nat, k ≤ n ∧ vk = .int .i64 k ∧ Hid (P.okUp l k) ∧ Below w.heap.size w wr) (fun _ _ vk _ => n - (intOf vk).toNat)
  case atStart => exact ⟨0, Nat.zero_le _, rfl, fun i x hi => absurd hi (by omega), Below.refl _ _⟩
  case round =>
    obtain ⟨k, hk, rfl, hup, hbw⟩ := hrel
    have hC := cell_of hbw
    by_cases hlt : k < n
    · obtain ⟨b, o, x, A1, n1, c1, rfl, hb, hx, hf, hs, g0, g1⟩ := itemAt h hlt
      have hsz := hbw.size
      have hb1 : b < wr.heap.size := by omega
      have hb2 : b < wr.heap.size + 1 := by omega
      have HX := Lib.hid hx
      have q1 : (k : Int) < (n : Int) := by omega
      obtain ⟨id, xs⟩ := x
      have HS : Hid (Sl RI 1 (wr.alloc (.cells #[.int .i64 id, .slice A1 n1 c1] 27)) (wr.alloc (.cells #[.int .i64 id, .slice A1 n1 c1] 27)).heap.size A1 n1 c1 xs) :=
        (hs.on RI.keeps hbw).on RI.keeps ((Below.refl _ _).alloc (Nat.le_refl _) _)
      have HB := Lib.hid (hbw.alloc hbw.size (.cells #[.int .i64 id, .slice A1 n1 c1] 27))
      simp only at g0 g1
      clear hs hx hbw
      cases hok : P.okI ⟨id, xs⟩ with
      | false =>
        have HN := Lib.hid (P.okIs_bad1 HX.out hok)
        clear h
        go_wp2_with fail
        refine wp_region_qb (by kernel_rfl) (by kernel_rfl) ?_; (repeat (go_big_quiet_step ((go_at_call 13; exact quietBb hok (implIsItem _ (HS.out.gr RI.keeps _ _) (Nat.le_refl _)))))); refine wpQuiet_nil ?_; intro w8 hb8
        go_wp2
        go_ret
        exact ⟨ret_bool HN.out.symm, HB.out.trans (hb8.mono (by simp; omega))⟩
      | true =>
        by_cases h0 : k = 0
        · have q0 : decide (0 < k) = false := by simp; omega
          have HU := Lib.hid (P.okUp_step hup.out HX.out hok (fun y hy => absurd hy (by omega)))
          clear h h0
          go_wp2_with fail
          refine wp_region_qb (by kernel_rfl) (by kernel_rfl) ?_; (repeat (go_big_quiet_step ((go_at_call 13; exact quietBb hok (implIsItem _ (HS.out.gr RI.keeps _ _) (Nat.le_refl _)))))); refine wpQuiet_nil ?_; intro w8 hb8
          go_wp2
          go_roundw
          case rel => exact ⟨k + 1, by omega, by go_num, HU, HB.out.trans (hb8.mono (by simp; omega))⟩
          case measure => simp [intOf]; omega
        · have hk1 : 1 ≤ k := by omega
          have q0 : decide (0 < k) = true := by simp; omega
          have e0 : IntKind.i64.wrap ((k : Int) - 1) = (k : Int) - 1 := IntWalk.i64_in _ (by omega)
          have e1 : ((k : Int) - 1).toNat = k - 1 := by omega
          obtain ⟨b', o', y, A2, n2, c2, hA, hb', hy, hf', hs', g0', g1'⟩ := itemAt h (show k - 1 < n by omega)
          injection hA with hA
          injection hA with hA1 hA2
          subst hA1 hA2
          have HY := Lib.hid hy
          clear hy hs' g1' hb' h
          by_cases hid : id ≤ y.id
          · have q2 : decide (id ≤ y.id) = true := by simpa using hid
            have HN := Lib.hid (P.okIs_bad2 (k := k - 1) HY.out (by rw [show k - 1 + 1 = k by omega]; exact HX.out) hid)
            go_wp2_with fail
            refine wp_region_qb (by kernel_rfl) (by kernel_rfl) ?_; (repeat (go_big_quiet_step ((go_at_call 13; exact quietBb hok (implIsItem _ (HS.out.gr RI.keeps _ _) (Nat.le_refl _)))))); refine wpQuiet_nil ?_; intro w8 hb8
            go_wp2
            go_ret
            exact ⟨ret_bool HN.out.symm, HB.out.trans (hb8.mono (by simp; omega))⟩
          · have q2 : decide (id ≤ y.id) = false := by simpa using hid
            have HU := Lib.hid (P.okUp_step hup.out HX.out hok (fun z _ hz => by rw [HY.out] at hz; injection hz with hz; subst hz; show y.id < id; omega))
            go_wp2_with fail
            refine wp_region_qb (by kernel_rfl) (by kernel_rfl) ?_; (repeat (go_big_quiet_step ((go_at_call 13; exact quietBb hok (implIsItem _ (HS.out.gr RI.keeps _ _) (Nat.le_refl _)))))); refine wpQuiet_nil ?_; intro w8 hb8
            go_wp2
            go_roundw
            case rel => exact ⟨k + 1, by omega, by go_num, HU, HB.out.trans (hb8.mono (by simp; omega))⟩
            case measure => simp [intOf]; omega
    · have HV := Lib.hid (P.okIs_len hup.out HL.out (by omega))
      clear h hC
      go_wp2
      go_ret
      exact ⟨ret_bool HV.out.symm, hbw⟩
set_option maxHeartbeats 1600000 in
set_option maxRecDepth 100000 in
theorem specAreItems {A : Option Addr} {n c : Nat} {l : List It} (w : World) (h : Sl RIt 2 w w.heap.size A n c l) : Calls Try.prog 20 #[.slice A n c] w fun e w' => e = .returned (.bool (P.okIs l)) ∧ Below w.heap.size w w' := by
  have m1 := Nat.le_trans h.le h.max
  unfold maxLen at m1
  have HL := Lib.hid h.len
  go_enter Try.func20, Try.ntmps20
  go_wp2
  go_loopw [3] (fun vk wr => ∃ k : Nat, k ≤ n ∧ vk = .int .i64 k ∧ Hid (P.okUp l k) ∧ Below w.heap.size w wr) (fun vk _ => n - (intOf vk).toNat)
  case atStart => exact ⟨0, Nat.zero_le _, rfl, fun i x hi => absurd hi (by omega), Below.refl _ _⟩
  case round =>
    obtain ⟨k, hk, rfl, hup, hbw⟩ := hrel
    have hC := cell_of hbw
    by_cases hlt : k < n
    · obtain ⟨b, o, x, A1, n1, c1, rfl, hb, hx, hf, hs, g0, g1⟩ := itemAt h hlt
      have hsz := hbw.size
      have hb1 : b < wr.heap.size := by omega
      have hb2 : b < wr.heap.size + 1 := by omega
      have HX := Lib.hid hx
      have q1 : (k : Int) < (n : Int) := by omega
      obtain ⟨id, xs⟩ := x
      have HS : Hid (Sl RI 1 wr wr.heap.size A1 n1 c1 xs) := hs.on RI.keeps hbw
      have HB := Lib.hid hbw
      simp only at g0 g1
      clear hs hx hbw
      cases hok : P.okI ⟨id, xs⟩ with
      | false =>
        have HN := Lib.hid (P.okIs_bad1 HX.out hok)
        clear h
        go_wp2_with fail
        refine wp_region_qb (by kernel_rfl) (by kernel_rfl) ?_; (repeat (go_big_quiet_step ((go_at_call 11; exact quietBb hok (specIsItem _ (HS.out.gr RI.keeps _ _) (Nat.le_refl _)))))); refine wpQuiet_nil ?_; intro w8 hb8
        go_wp2
        go_ret
        exact ⟨ret_bool HN.out.symm, HB.out.trans (hb8.mono hsz)⟩
      | true =>
        by_cases h0 : k = 0
        · have q0 : decide (0 < k) = false := by simp; omega
          have HU := Lib.hid (P.okUp_step hup.out HX.out hok (fun y hy => absurd hy (by omega)))
          clear h h0
          go_wp2_with fail
          refine wp_region_qb (by kernel_rfl) (by kernel_rfl) ?_; (repeat (go_big_quiet_step ((go_at_call 11; exact quietBb hok (specIsItem _ (HS.out.gr RI.keeps _ _) (Nat.le_refl _)))))); refine wpQuiet_nil ?_; intro w8 hb8
          go_wp2
          go_roundw
          case rel => exact ⟨k + 1, by omega, by go_num, HU, HB.out.trans (hb8.mono hsz)⟩
          case measure => simp [intOf]; omega
        · have hk1 : 1 ≤ k := by omega
          have q0 : decide (0 < k) = true := by simp; omega
          have e0 : IntKind.i64.wrap ((k : Int) - 1) = (k : Int) - 1 := IntWalk.i64_in _ (by omega)
          have e1 : ((k : Int) - 1).toNat = k - 1 := by omega
          obtain ⟨b', o', y, A2, n2, c2, hA, hb', hy, hf', hs', g0', g1'⟩ := itemAt h (show k - 1 < n by omega)
          injection hA with hA
          injection hA with hA1 hA2
          subst hA1 hA2
          have HY := Lib.hid hy
          clear hy hs' g1' hb' h
          by_cases hid : id ≤ y.id
          · have q2 : decide (id ≤ y.id) = true := by simpa using hid
            have HN := Lib.hid (P.okIs_bad2 (k := k - 1) HY.out (by rw [show k - 1 + 1 = k by omega]; exact HX.out) hid)
            go_wp2_with fail
            refine wp_region_qb (by kernel_rfl) (by kernel_rfl) ?_; (repeat (go_big_quiet_step ((go_at_call 11; exact quietBb hok (specIsItem _ (HS.out.gr RI.keeps _ _) (Nat.le_refl _)))))); refine wpQuiet_nil ?_; intro w8 hb8
            go_wp2
            go_ret
            exact ⟨ret_bool HN.out.symm, HB.out.trans (hb8.mono hsz)⟩
          · have q2 : decide (id ≤ y.id) = false := by simpa using hid
            have HU := Lib.hid (P.okUp_step hup.out HX.out hok (fun z _ hz => by rw [HY.out] at hz; injection hz with hz; subst hz; show y.id < id; omega))
            go_wp2_with fail
            refine wp_region_qb (by kernel_rfl) (by kernel_rfl) ?_; (repeat (go_big_quiet_step ((go_at_call 11; exact quietBb hok (specIsItem _ (HS.out.gr RI.keeps _ _) (Nat.le_refl _)))))); refine wpQuiet_nil ?_; intro w8 hb8
            go_wp2
            go_roundw
            case rel => exact ⟨k + 1, by omega, by go_num, HU, HB.out.trans (hb8.mono hsz)⟩
            case measure => simp [intOf]; omega
    · have HV := Lib.hid (P.okIs_len hup.out HL.out (by omega))
      clear h hC
      go_wp2
      go_ret
      exact ⟨ret_bool HV.out.symm, hbw⟩
end Go.Proofs.Ytncaamjmidmmdaa.Wk
