/-
  Walks of chapter 1: ParseInt of the program.
  Conditions: none beyond the bounds that each states.
-/
import Derived.Test.YtphbochfpidgeaaW10
namespace Go.Proofs.Ytphbochfpidgeaa.Wk
open Go.RowKit
set_option linter.unusedVariables false

set_option maxHeartbeats 1600000 in
set_option maxRecDepth 100000 in
theorem implParseInt_neg (s : ByteArray) (hs : s.size ≤ maxLen) (h0 : 0 < s.size) (h45 : s[0].toNat = 45) (w : World) : Calls Try.prog 45 #[.string s] w fun e w' => e = .returned (.tuple #[.int .i64 (piN s.data.toList), .bool (piB s.data.toList)]) ∧ Below w.heap.size w w' := by
  unfold maxLen at hs
  have hneg : P.neg s.data.toList = true := by simp only [P.neg, decide_eq_true_eq]; exact ⟨h0, by rw [getD_dn h0]; exact h45⟩
  have ht0 : ((s[0].toNat : Int) == 45) = true := by simp; omega
  clear h45
  have hst : P.st s.data.toList = 1 := by unfold P.st; rw [hneg]; rfl
  by_cases hlen : 1 ≤ s.size - 1 ∧ s.size - 1 ≤ 9
  · obtain ⟨l1, l9⟩ := hlen
    have hin : P.inR ((s.size : Int) - 1) 1 9 = true := P.inR_mk (by omega)
    skip
    go_enter Try.func45, Try.ntmps45
    go_wp2_with (go_at_call 56; refine (within _ _ _ _).mono ?_; rintro e w' ⟨rfl, rfl⟩)
    go_loop [5, 6] (fun vn vi => ∃ i : Nat, 1 ≤ i ∧ i ≤ s.size ∧ vi = .int .i64 i ∧ vn = .int .i64 (P.sv s.data.toList (i - 1)) ∧ Hid (∀ j, 1 ≤ j → j < i → P.isD (s.data.toList.getD j 0) = true) ∧ P.sv s.data.toList (i - 1) < 10 ^ (i - 1)) (fun _ vi => s.size - (intOf vi).toNat)
    case atStart => exact ⟨1, by omega, by omega, rfl, rfl, fun j a b => absurd a (by omega), by simp [P.sv]⟩
    case round =>
      obtain ⟨i, hi1, his, rfl, rfl, hD, hlt⟩ := hrel
      have hp := P.pow10_le9 (k := i - 1) (by omega)
      have hle : P.sv s.data.toList (i - 1) ≤ 1000000000 := by omega
      have HLT := Lib.hid hlt
      clear hlt hp
      by_cases hi : i < s.size
      · have hsb : s[i].toNat < 256 := s[i].toNat_lt
        have HG := Lib.hid (getD_of hi)
        by_cases d1 : s[i].toNat < 48
        · have hn : P.pI s.data.toList = none := P.pI_bad (i := i) (by rw [hst]; omega) hi (by rw [HG.out]; simp only [P.isD, decide_eq_false_iff_not]; omega)
          have HN := Lib.hid (piN_none hn)
          clear hn hst hneg
          go_wp2
          go_ret2
          exact ⟨ret_pi HN.out, Below.refl _ _⟩
        · by_cases d2 : 57 < s[i].toNat
          · have hn : P.pI s.data.toList = none := P.pI_bad (i := i) (by rw [hst]; omega) hi (by rw [HG.out]; simp only [P.isD, decide_eq_false_iff_not]; omega)
            have HN := Lib.hid (piN_none hn)
            clear hn hst hneg
            go_wp2
            go_ret2
            exact ⟨ret_pi HN.out, Below.refl _ _⟩
          · have hd : P.isD (s.data.toList.getD i 0) = true := by rw [HG.out]; simp only [P.isD, decide_eq_true_eq]; omega
            have HS : Hid (P.sv s.data.toList (i + 1 - 1) = 10 * P.sv s.data.toList (i - 1) + (s[i].toNat - 48)) := by
              show _ = _
              rw [show i + 1 - 1 = (i - 1) + 1 by omega, P.sv, hst, show 1 + (i - 1) = i by omega, HG.out]
            have HD := Lib.hid hd
            clear hd hst hneg
            have d1' : 48 ≤ s[i].toNat := by omega
            clear d1
            generalize P.sv s.data.toList (i - 1) = x at *
            go_wp2
            go_round
            case rel => exact ⟨i + 1, by omega, by omega, by go_num, vint (by rw [HS.out]; omega), fun j a b => by
              by_cases e : j = i
              · subst e; exact HD.out
              · exact hD.out j a (by omega), by
              have := HLT.out
              rw [HS.out, show i + 1 - 1 = (i - 1) + 1 by omega, Nat.pow_succ]; omega⟩
            case measure => simp [intOf]; omega
      · have hie : i = s.size := by omega
        have HP : Hid (P.pI s.data.toList = if P.fmtL (P.svI s.data.toList) = P.nums s.data.toList then some (P.svI s.data.toList) else none) :=
          P.pI_prog (by rw [hst]; exact l1) (by rw [hst]; exact l9) (fun j a b => hD.out j (by rw [hst] at a; exact a) (by rw [hie]; exact b))
        have HX : Hid (P.svI s.data.toList = -(P.sv s.data.toList (i - 1) : Int)) := by
          show _ = _
          unfold P.svI
          rw [hneg, hst, hie]; rfl
        clear hst hneg hie
        generalize P.sv s.data.toList (i - 1) = x at *
        go_wp2_with (go_at_call 41; refine (implFormatInt _ ⟨by omega, by omega⟩ _).mono ?_; rintro e w1 ⟨rfl, hb1⟩)
        · have ht : (!(fmtS (-(x : Int))).toList == s.toList) = true := by assumption
          go_ret2
          exact ⟨ret_pi (piN_none (by rw [HP.out, if_neg]; intro h3; rw [HX.out] at h3; rw [fmt_test.2 h3] at ht; cases ht)), hb1⟩
        · have ht : (!(fmtS (-(x : Int))).toList == s.toList) = false := by assumption
          go_ret2
          exact ⟨ret_pi (piN_some (by rw [HP.out, HX.out, if_pos (fmt_test.1 (by simpa using ht))])), hb1⟩
  · have hin : P.inR ((s.size : Int) - 1) 1 9 = false := P.inR_no (by omega)
    have hn : P.pI s.data.toList = none := P.pI_len (by rw [hst]; have : s.data.toList.length = s.size := rfl; omega)
    have HN := Lib.hid (piN_none hn)
    clear hn hst hneg
    skip
    go_enter Try.func45, Try.ntmps45
    go_wp2_with (go_at_call 56; refine (within _ _ _ _).mono ?_; rintro e w' ⟨rfl, rfl⟩)
    go_ret2
    exact ⟨ret_pi HN.out, Below.refl _ _⟩
set_option maxHeartbeats 1600000 in
set_option maxRecDepth 100000 in
theorem implParseInt_pos (s : ByteArray) (hs : s.size ≤ maxLen) (h0 : 0 < s.size) (h45 : ¬ s[0].toNat = 45) (w : World) : Calls Try.prog 45 #[.string s] w fun e w' => e = .returned (.tuple #[.int .i64 (piN s.data.toList), .bool (piB s.data.toList)]) ∧ Below w.heap.size w w' := by
  unfold maxLen at hs
  have hneg : P.neg s.data.toList = false := by simp only [P.neg, decide_eq_false_iff_not]; rintro ⟨_, h⟩; rw [getD_dn h0] at h; exact h45 h
  have ht0 : ((s[0].toNat : Int) == 45) = false := by simp; omega
  clear h45
  have hst : P.st s.data.toList = 0 := by unfold P.st; rw [hneg]; rfl
  by_cases hlen : 1 ≤ s.size - 0 ∧ s.size - 0 ≤ 9
  · obtain ⟨l1, l9⟩ := hlen
    have hin : P.inR (s.size : Int) 1 9 = true := P.inR_mk (by omega)
    skip
    go_enter Try.func45, Try.ntmps45
    go_wp2_with (go_at_call 56; refine (within _ _ _ _).mono ?_; rintro e w' ⟨rfl, rfl⟩)
    go_loop [5, 6] (fun vn vi => ∃ i : Nat, 0 ≤ i ∧ i ≤ s.size ∧ vi = .int .i64 i ∧ vn = .int .i64 (P.sv s.data.toList (i)) ∧ Hid (∀ j, 0 ≤ j → j < i → P.isD (s.data.toList.getD j 0) = true) ∧ P.sv s.data.toList (i) < 10 ^ (i)) (fun _ vi => s.size - (intOf vi).toNat)
    case atStart => exact ⟨0, by omega, by omega, rfl, rfl, fun j a b => absurd a (by omega), by simp [P.sv]⟩
    case round =>
      obtain ⟨i, hi1, his, rfl, rfl, hD, hlt⟩ := hrel
      have hp := P.pow10_le9 (k := i) (by omega)
      have hle : P.sv s.data.toList (i) ≤ 1000000000 := by omega
      have HLT := Lib.hid hlt
      clear hlt hp
      by_cases hi : i < s.size
      · have hsb : s[i].toNat < 256 := s[i].toNat_lt
        have HG := Lib.hid (getD_of hi)
        by_cases d1 : s[i].toNat < 48
        · have hn : P.pI s.data.toList = none := P.pI_bad (i := i) (by rw [hst]; omega) hi (by rw [HG.out]; simp only [P.isD, decide_eq_false_iff_not]; omega)
          have HN := Lib.hid (piN_none hn)
          clear hn hst hneg
          go_wp2
          go_ret2
          exact ⟨ret_pi HN.out, Below.refl _ _⟩
        · by_cases d2 : 57 < s[i].toNat
          · have hn : P.pI s.data.toList = none := P.pI_bad (i := i) (by rw [hst]; omega) hi (by rw [HG.out]; simp only [P.isD, decide_eq_false_iff_not]; omega)
            have HN := Lib.hid (piN_none hn)
            clear hn hst hneg
            go_wp2
            go_ret2
            exact ⟨ret_pi HN.out, Below.refl _ _⟩
          · have hd : P.isD (s.data.toList.getD i 0) = true := by rw [HG.out]; simp only [P.isD, decide_eq_true_eq]; omega
            have HS : Hid (P.sv s.data.toList (i + 1) = 10 * P.sv s.data.toList (i) + (s[i].toNat - 48)) := by
              show _ = _
              rw [P.sv, hst, show 0 + i = i by omega, HG.out]
            have HD := Lib.hid hd
            clear hd hst hneg
            have d1' : 48 ≤ s[i].toNat := by omega
            clear d1
            generalize P.sv s.data.toList (i) = x at *
            go_wp2
            go_round
            case rel => exact ⟨i + 1, by omega, by omega, by go_num, vint (by rw [HS.out]; omega), fun j a b => by
              by_cases e : j = i
              · subst e; exact HD.out
              · exact hD.out j a (by omega), by
              have := HLT.out
              rw [HS.out, Nat.pow_succ]; omega⟩
            case measure => simp [intOf]; omega
      · have hie : i = s.size := by omega
        have HP : Hid (P.pI s.data.toList = if P.fmtL (P.svI s.data.toList) = P.nums s.data.toList then some (P.svI s.data.toList) else none) :=
          P.pI_prog (by rw [hst]; exact l1) (by rw [hst]; exact l9) (fun j a b => hD.out j (by rw [hst] at a; exact a) (by rw [hie]; exact b))
        have HX : Hid (P.svI s.data.toList = (P.sv s.data.toList (i) : Int)) := by
          show _ = _
          unfold P.svI
          rw [hneg, hst, hie]; rfl
        clear hst hneg hie
        generalize P.sv s.data.toList (i) = x at *
        go_wp2_with (go_at_call 41; refine (implFormatInt _ ⟨by omega, by omega⟩ _).mono ?_; rintro e w1 ⟨rfl, hb1⟩)
        · have ht : (!(fmtS ((x : Int))).toList == s.toList) = true := by assumption
          go_ret2
          exact ⟨ret_pi (piN_none (by rw [HP.out, if_neg]; intro h3; rw [HX.out] at h3; rw [fmt_test.2 h3] at ht; cases ht)), hb1⟩
        · have ht : (!(fmtS ((x : Int))).toList == s.toList) = false := by assumption
          go_ret2
          exact ⟨ret_pi (piN_some (by rw [HP.out, HX.out, if_pos (fmt_test.1 (by simpa using ht))])), hb1⟩
  · have hin : P.inR (s.size : Int) 1 9 = false := P.inR_no (by omega)
    have hn : P.pI s.data.toList = none := P.pI_len (by rw [hst]; have : s.data.toList.length = s.size := rfl; omega)
    have HN := Lib.hid (piN_none hn)
    clear hn hst hneg
    skip
    go_enter Try.func45, Try.ntmps45
    go_wp2_with (go_at_call 56; refine (within _ _ _ _).mono ?_; rintro e w' ⟨rfl, rfl⟩)
    go_ret2
    exact ⟨ret_pi HN.out, Below.refl _ _⟩
theorem implParseInt (s : ByteArray) (hs : s.size ≤ maxLen) (w : World) : Calls Try.prog 45 #[.string s] w fun e w' => e = .returned (.tuple #[.int .i64 (piN s.data.toList), .bool (piB s.data.toList)]) ∧ Below w.heap.size w w' := by
  by_cases h0 : 0 < s.size
  · by_cases h45 : s[0].toNat = 45
    · exact implParseInt_neg s hs h0 h45 w
    · exact implParseInt_pos s hs h0 h45 w
  · have hn : P.pI s.data.toList = none := P.pI_len (by have : s.data.toList.length = s.size := rfl; omega)
    have HN := Lib.hid (piN_none hn)
    have hin : P.inR (s.size : Int) 1 9 = false := P.inR_no (by omega)
    clear hn
    unfold maxLen at hs
    go_enter Try.func45, Try.ntmps45
    go_wp2_with (go_at_call 56; refine (within _ _ _ _).mono ?_; rintro e w' ⟨rfl, rfl⟩)
    go_ret2
    exact ⟨ret_pi HN.out, Below.refl _ _⟩
end Go.Proofs.Ytphbochfpidgeaa.Wk
