/-
  Walks of chapter 1: FormatInt.
  Conditions: none beyond the bounds that each states.
-/
import Derived.Test.YtphbochfpidgeaaW6
import Derived.BigRegion
namespace Go.Proofs.Ytphbochfpidgeaa.Wk
open Go.RowKit
set_option linter.unusedVariables false

/-- What FormatInt writes. -/
def fmtS (n : Int) : ByteArray := strOfNums (P.fmtL n)
set_option maxHeartbeats 400000 in
set_option maxRecDepth 100000 in
theorem specFormatInt_pos (N : Nat) (hN : N ≤ 9223372036854775808) (hN0 : 0 < N) (h1 : N ≤ 9223372036854775807) (w : World) : Calls Try.prog 49 #[.int .i64 ((N : Int))] w fun e w' => e = .returned (.string (strOfNums (P.digs N))) ∧ Below w.heap.size w w' := by
  have h0 : (((N : Int) : Int) == 0) = false := by simp; omega
  have hlen := P.digs_len 19 N (by simp; omega)
  have hsg : decide ((N : Int) < 0) = false := by simp
  go_enter Try.func49, Try.ntmps49
  go_wp2
  go_loopw [0, 3, 5] (fun vn vo vd wr => ∃ (m : Nat) (acc : List Int), m ≤ N ∧ vn = .int .i64 ((m : Int)) ∧ Hid (P.digs m ++ acc = P.digs N) ∧ vo = .string (strOfNums acc) ∧ Below w.heap.size w wr)
    (fun vn _ _ _ => (intOf vn).natAbs)
  case atStart => exact ⟨N, [], Nat.le_refl _, rfl, by show _ = _; simp, rfl, Below.refl _ _⟩
  case round =>
    obtain ⟨m, acc, hm, rfl, hacc, rfl, hbw⟩ := hrel
    by_cases hlt : 0 < m
    · have hne : (((m : Int) : Int) != 0) = true := by simp; omega
      have hal : acc.length + 1 ≤ 19 := by
        have h1 := congrArg List.length hacc.out
        rw [P.digs_pos hlt] at h1
        simp at h1; omega
      have HS : Hid (P.digs (m / 10) ++ (((48 + m % 10 : Nat) : Int) :: acc) = P.digs N) := by
        have := hacc.out
        rw [P.digs_pos hlt, List.append_assoc] at this
        exact this
      have hconv := fun x => conv_one (Pr := Try.prog) 22 5 9 Try.underlying22 Try.underlying5 Try.underlying9 wr x
      have hadd := fun x wq => add_one (Pr := Try.prog) x acc (by omega) wq
      have hba := fun o => hbw.alloc hbw.size o
      clear hacc hbw
      
      go_wp2
      all_goals
        skip
        go_roundw
        case rel => exact ⟨m / 10, _, by omega, vint (by omega), HS, congrArg (fun x => Value.string (strOfNums (x :: acc))) (by omega), hba _⟩
        case measure => simp [intOf]; omega
    · have hm0 : m = 0 := by omega
      subst hm0
      have hne : (((0 : Int) : Int) != 0) = false := by simp
      have HV : Hid (acc = P.digs N) := by
        have := hacc.out
        rw [P.digs_zero] at this
        exact this
      skip
      clear hacc
      go_wp2
      go_ret
      exact ⟨congrArg (fun l => Ending.returned (.string (strOfNums (l)))) HV.out, hbw⟩
set_option maxHeartbeats 400000 in
set_option maxRecDepth 100000 in
theorem specFormatInt_neg (N : Nat) (hN : N ≤ 9223372036854775808) (hN0 : 0 < N) (h1 : N ≤ 9223372036854775808) (w : World) : Calls Try.prog 49 #[.int .i64 (-(N : Int))] w fun e w' => e = .returned (.string (strOfNums (45 :: P.digs N))) ∧ Below w.heap.size w w' := by
  have h0 : ((-(N : Int) : Int) == 0) = false := by simp; omega
  have hlen := P.digs_len 19 N (by simp; omega)
  have hsg : decide (-(N : Int) < 0) = true := by simp; omega
  go_enter Try.func49, Try.ntmps49
  go_wp2
  go_loopw [0, 3, 5] (fun vn vo vd wr => ∃ (m : Nat) (acc : List Int), m ≤ N ∧ vn = .int .i64 (-(m : Int)) ∧ Hid (P.digs m ++ acc = P.digs N) ∧ vo = .string (strOfNums acc) ∧ Below w.heap.size w wr)
    (fun vn _ _ _ => (intOf vn).natAbs)
  case atStart => exact ⟨N, [], Nat.le_refl _, rfl, by show _ = _; simp, rfl, Below.refl _ _⟩
  case round =>
    obtain ⟨m, acc, hm, rfl, hacc, rfl, hbw⟩ := hrel
    by_cases hlt : 0 < m
    · have hne : ((-(m : Int) : Int) != 0) = true := by simp; omega
      have hal : acc.length + 1 ≤ 19 := by
        have h1 := congrArg List.length hacc.out
        rw [P.digs_pos hlt] at h1
        simp at h1; omega
      have HS : Hid (P.digs (m / 10) ++ (((48 + m % 10 : Nat) : Int) :: acc) = P.digs N) := by
        have := hacc.out
        rw [P.digs_pos hlt, List.append_assoc] at this
        exact this
      have hconv := fun x => conv_one (Pr := Try.prog) 22 5 9 Try.underlying22 Try.underlying5 Try.underlying9 wr x
      have hadd := fun x wq => add_one (Pr := Try.prog) x acc (by omega) wq
      have hba := fun o => hbw.alloc hbw.size o
      clear hacc hbw
      have t1 : (-(m : Int)).tmod 10 = -((m % 10 : Nat) : Int) := by rw [Int.neg_tmod, Int.tmod_eq_emod_of_nonneg (by omega)]; omega
      have t2 : (-(m : Int)).tdiv 10 = -((m / 10 : Nat) : Int) := by rw [Int.neg_tdiv, Int.tdiv_eq_ediv_of_nonneg (by omega)]; omega
      have hb1 : m ≤ 9223372036854775808 := by omega
      go_wp2
      all_goals
        clear t1 t2
        go_roundw
        case rel => exact ⟨m / 10, _, by omega, vint (by omega), HS, congrArg (fun x => Value.string (strOfNums (x :: acc))) (by omega), hba _⟩
        case measure => simp [intOf]; omega
    · have hm0 : m = 0 := by omega
      subst hm0
      have hne : ((-(0 : Int) : Int) != 0) = false := by simp
      have HV : Hid (acc = P.digs N) := by
        have := hacc.out
        rw [P.digs_zero] at this
        exact this
      have hadd := fun wq => add_one (Pr := Try.prog) 45 acc (by have := congrArg List.length HV.out; omega) wq
      rw [show strOfNums [45] = (⟨#[45]⟩ : ByteArray) from rfl] at hadd
      clear hacc
      go_wp2
      go_ret
      exact ⟨congrArg (fun l => Ending.returned (.string (strOfNums (45 :: l)))) HV.out, hbw⟩
theorem specFormatInt (n : Int) (h : M.Fit n) (w : World) : Calls Try.prog 49 #[.int .i64 n] w fun e w' => e = .returned (.string (fmtS n)) ∧ Below w.heap.size w w' := by
  obtain ⟨h1, h2⟩ := h
  by_cases h0 : n = 0
  · subst h0
    have e0 : fmtS 0 = ⟨#[48]⟩ := rfl
    rw [e0]
    clear e0
    go_enter Try.func49, Try.ntmps49
    go_wp2
    go_ret
    exact ⟨rfl, Below.refl _ _⟩
  · by_cases hn : n < 0
    · have e0 : fmtS n = strOfNums (45 :: P.digs n.natAbs) := by unfold fmtS P.fmtL; rw [if_neg h0, if_pos hn]
      rw [e0]
      have := specFormatInt_neg n.natAbs (by omega) (by omega) (by omega) w
      rwa [show (-(n.natAbs : Int)) = n by omega] at this
    · have e0 : fmtS n = strOfNums (P.digs n.natAbs) := by unfold fmtS P.fmtL; rw [if_neg h0, if_neg hn]
      rw [e0]
      have := specFormatInt_pos n.natAbs (by omega) (by omega) (by omega) w
      rwa [show ((n.natAbs : Nat) : Int) = n by omega] at this
end Go.Proofs.Ytphbochfpidgeaa.Wk
