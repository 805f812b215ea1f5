/-
  Walks of chapter 1: ParseInt.
  Conditions: none beyond the bounds that each states.
-/
import Derived.Test.YtgjghpaenliliaaW8
import Derived.Test.YtgjghpaenliliaaP2
namespace Go.Proofs.Ytgjghpaenliliaa.Wk
open Go.RowKit
set_option linter.unusedVariables false

theorem bytesEq2 {xs : List Int} (h : ∀ x ∈ xs, 0 ≤ x ∧ x < 256) (l : List UInt8) : (strOfNums xs).data.toList = l ↔ xs = P.nums l := by
  rw [strOfNums_data]
  constructor
  · rintro rfl
    unfold P.nums
    rw [List.map_map]
    have : xs.map ((fun b : UInt8 => (b.toNat : Int)) ∘ fun n => UInt8.ofNat n.toNat) = xs.map id := List.map_congr_left fun x hx => by
      have := h x hx
      simp; omega
    rw [this]; simp
  · rintro rfl
    unfold P.nums
    rw [List.map_map]
    have : ((fun n : Int => UInt8.ofNat n.toNat) ∘ fun b : UInt8 => (b.toNat : Int)) = id := by funext b; simp
    rw [this]; simp
theorem fmtL_mem (n : Int) : ∀ x ∈ P.fmtL n, 0 ≤ x ∧ x < 256 := by
  intro x hx
  unfold P.fmtL at hx
  split at hx
  · simp at hx; omega
  · split at hx
    · rcases List.mem_cons.1 hx with rfl | hx
      · omega
      · have := P.digs_mem _ _ hx; omega
    · have := P.digs_mem _ _ hx; omega
theorem fmt_test {s : ByteArray} {n : Int} : ((fmtS n).toList == s.toList) = true ↔ P.fmtL n = P.nums s.data.toList := by
  rw [ByteArray.toList_eq, ByteArray.toList_eq, beq_iff_eq]
  exact bytesEq2 (fmtL_mem n) _
/-- What ParseInt answers. -/
noncomputable def piN (l : List UInt8) : Int := (P.pI l).getD 0
noncomputable def piB (l : List UInt8) : Bool := (P.pI l).isSome
theorem piN_none {l : List UInt8} (h : P.pI l = none) : piN l = 0 ∧ piB l = false := by unfold piN piB; rw [h]; exact ⟨rfl, rfl⟩
theorem piN_some {l : List UInt8} {n : Int} (h : P.pI l = some n) : piN l = n ∧ piB l = true := by unfold piN piB; rw [h]; exact ⟨rfl, rfl⟩
theorem ret_pi {l : List UInt8} {n : Int} {b : Bool} (h : piN l = n ∧ piB l = b) : Ending.returned (.tuple #[.int .i64 n, .bool b]) = Ending.returned (.tuple #[.int .i64 (piN l), .bool (piB l)]) := by rw [h.1, h.2]
theorem getD_dn {s : ByteArray} {k : Nat} (h : k < s.size) : (s.data.toList.getD k 0).toNat = s[k].toNat := by rw [getD_of h]
set_option maxHeartbeats 1600000 in
set_option maxRecDepth 100000 in
theorem specParseInt (s : ByteArray) (hs : s.size ≤ maxLen) (w : World) : Calls Try.prog 113 #[.string s] w fun e w' => e = .returned (.tuple #[.int .i64 (piN s.data.toList), .bool (piB s.data.toList)]) ∧ Below w.heap.size w w' := by
  unfold maxLen at hs
  go_enter Try.func113, Try.ntmps113
  go_wp2
  go_loop [4, 5, 6] (fun vn vc vi => ∃ k : Nat, k ≤ 11 ∧ k ≤ s.size ∧ vi = .int .i64 k ∧ vn = .int .i64 (P.sc s.data.toList k) ∧ vc = .int .i64 (P.cnt s.data.toList k)) (fun _ _ vi => 11 - (intOf vi).toNat)
  case atStart => exact ⟨0, by omega, by omega, rfl, rfl, rfl⟩
  case round =>
    obtain ⟨k, h11, hks, rfl, rfl, rfl⟩ := hrel
    by_cases hin : k < s.size ∧ k < 11
    · obtain ⟨hk, hk11⟩ := hin
      have hsb : s[k].toNat < 256 := s[k].toNat_lt
      have hxb := P.sc_le s.data.toList (k := k) (by omega)
      have hcb := P.cnt_le s.data.toList k
      have HG := Lib.hid (getD_of hk)
      by_cases hD : 48 ≤ s[k].toNat ∧ s[k].toNat ≤ 57
      · obtain ⟨d1, d2⟩ := hD
        have hd : P.isD (s.data.toList.getD k 0) = true := by rw [HG.out]; simp only [P.isD, decide_eq_true_eq]; exact ⟨d1, d2⟩
        have HS : Hid (P.sc s.data.toList (k + 1) = P.sc s.data.toList k * 10 + (s[k].toNat - 48) ∧ P.cnt s.data.toList (k + 1) = P.cnt s.data.toList k + 1) := by
          show _ ∧ _
          rw [P.sc, P.cnt, if_pos hd, if_pos hd, HG.out]; exact ⟨rfl, rfl⟩
        clear hd
        generalize P.sc s.data.toList k = x at *
        generalize P.cnt s.data.toList k = c at *
        go_wp2
        go_round
        case rel => exact ⟨k + 1, by omega, by omega, by go_num, vint (by rw [HS.out.1]; omega), vint (by rw [HS.out.2]; omega)⟩
        case measure => simp [intOf]; omega
      · have hd : P.isD (s.data.toList.getD k 0) = false := by rw [HG.out]; simp only [P.isD, decide_eq_false_iff_not]; exact hD
        have HS : Hid (P.sc s.data.toList (k + 1) = P.sc s.data.toList k ∧ P.cnt s.data.toList (k + 1) = P.cnt s.data.toList k) := by
          show _ ∧ _
          rw [P.sc, P.cnt, if_neg (by rw [hd]; simp), if_neg (by rw [hd]; simp)]; exact ⟨rfl, rfl⟩
        clear hd
        generalize P.sc s.data.toList k = x at *
        generalize P.cnt s.data.toList k = c at *
        by_cases d1 : 48 ≤ s[k].toNat
        · have d2 : 57 < s[k].toNat := by omega
          clear hD
          go_wp2
          go_round
          case rel => exact ⟨k + 1, by omega, by omega, by go_num, vint (by rw [HS.out.1]), vint (by rw [HS.out.2])⟩
          case measure => simp [intOf]; omega
        · clear hD
          go_wp2
          go_round
          case rel => exact ⟨k + 1, by omega, by omega, by go_num, vint (by rw [HS.out.1]), vint (by rw [HS.out.2])⟩
          case measure => simp [intOf]; omega
    · have hK : Hid (k = min s.data.toList.length 11) := by
        show k = min s.size 11
        omega
      by_cases h0 : 0 < s.size
      · have HG0 := Lib.hid (getD_dn h0)
        by_cases h45 : s[0].toNat = 45
        · have hneg : P.neg s.data.toList = true := by simp only [P.neg, decide_eq_true_eq]; exact ⟨h0, by rw [HG0.out]; exact h45⟩
          have ht : ((s[0].toNat : Int) == 45) = true := by simp; omega
          clear h45
          by_cases hk11 : k < s.size
          · have hk11' : ¬ k < 11 := fun h => hin ⟨hk11, h⟩
            clear hin
            have HR := Lib.hid (P.pI_ref s.data.toList)
            clear hneg
            have hxb := P.sc_le s.data.toList (k := k) (by omega)
            have hcb := P.cnt_le s.data.toList k
            generalize P.sc s.data.toList k = x at *
            generalize P.cnt s.data.toList k = c at *
            have hl : ¬ s.size ≤ 10 := by omega
            by_cases hc : c ≤ 9
            · go_wp2_with fail
              go_ret2
              exact ⟨ret_pi (piN_none (by rw [HR.out, if_neg]; rintro ⟨_, h2, _⟩; exact hl h2)), Below.refl _ _⟩
            · go_wp2_with fail
              go_ret2
              exact ⟨ret_pi (piN_none (by rw [HR.out, if_neg]; rintro ⟨_, h2, _⟩; exact hl h2)), Below.refl _ _⟩
          · clear hin
            have HR := Lib.hid (P.pI_ref s.data.toList)
            have HX : Hid (P.scanned s.data.toList = -(P.sc s.data.toList k : Int)) := by
              show _ = _
              unfold P.scanned
              rw [hneg, ← hK.out]; rfl
            clear hneg
            have hxb := P.sc_le s.data.toList (k := k) (by omega)
            have HC : Hid (P.cnt s.data.toList (min s.data.toList.length 11) = P.cnt s.data.toList k) := by rw [← hK.out]; rfl
            have hcb := P.cnt_le s.data.toList k
            generalize P.sc s.data.toList k = x at *
            generalize P.cnt s.data.toList k = c at *
            by_cases hc : c ≤ 9
            · by_cases hl : s.size ≤ 10
              · go_wp2_with (go_at_call 58; refine (specFormatInt _ ⟨by omega, by omega⟩ _).mono ?_; rintro e w1 ⟨rfl, hb1⟩)
                · have ht : (!(fmtS (-(x : Int))).toList == s.toList) = true := by
                    have hor : (9 < (c : Int) ∨ 10 < (s.size : Int)) ∨ (!(fmtS (-(x : Int))).toList == s.toList) = true := by assumption
                    rcases hor with (h | h) | h
                    · omega
                    · omega
                    · exact h
                  go_ret2
                  exact ⟨ret_pi (piN_none (by rw [HR.out, if_neg]; rintro ⟨_, _, h3⟩; rw [HX.out] at h3; rw [fmt_test.2 h3] at ht; cases ht)), hb1⟩
                · have ht : (!(fmtS (-(x : Int))).toList == s.toList) = false := by
                    have hor : ((c : Int) ≤ 9 ∧ (s.size : Int) ≤ 10) ∧ (!(fmtS (-(x : Int))).toList == s.toList) = false := by assumption
                    exact hor.2
                  go_ret2
                  exact ⟨ret_pi (piN_some (by rw [HR.out, HX.out, if_pos ⟨by rw [HC.out]; exact hc, hl, fmt_test.1 (by simpa using ht)⟩])), hb1⟩
              · go_wp2_with fail
                go_ret2
                exact ⟨ret_pi (piN_none (by rw [HR.out, if_neg]; rintro ⟨_, h2, _⟩; exact hl h2)), Below.refl _ _⟩
            · go_wp2_with fail
              go_ret2
              exact ⟨ret_pi (piN_none (by rw [HR.out, if_neg]; rintro ⟨h1, _, _⟩; rw [HC.out] at h1; exact hc h1)), Below.refl _ _⟩
        · have hneg : P.neg s.data.toList = false := by simp only [P.neg, decide_eq_false_iff_not]; rintro ⟨_, h⟩; rw [HG0.out] at h; exact h45 h
          have ht : ((s[0].toNat : Int) == 45) = false := by simp; omega
          clear h45
          by_cases hk11 : k < s.size
          · have hk11' : ¬ k < 11 := fun h => hin ⟨hk11, h⟩
            clear hin
            have HR := Lib.hid (P.pI_ref s.data.toList)
            clear hneg
            have hxb := P.sc_le s.data.toList (k := k) (by omega)
            have hcb := P.cnt_le s.data.toList k
            generalize P.sc s.data.toList k = x at *
            generalize P.cnt s.data.toList k = c at *
            have hl : ¬ s.size ≤ 10 := by omega
            by_cases hc : c ≤ 9
            · go_wp2_with fail
              go_ret2
              exact ⟨ret_pi (piN_none (by rw [HR.out, if_neg]; rintro ⟨_, h2, _⟩; exact hl h2)), Below.refl _ _⟩
            · go_wp2_with fail
              go_ret2
              exact ⟨ret_pi (piN_none (by rw [HR.out, if_neg]; rintro ⟨_, h2, _⟩; exact hl h2)), Below.refl _ _⟩
          · clear hin
            have HR := Lib.hid (P.pI_ref s.data.toList)
            have HX : Hid (P.scanned s.data.toList = (P.sc s.data.toList k : Int)) := by
              show _ = _
              unfold P.scanned
              rw [hneg, ← hK.out]; rfl
            clear hneg
            have hxb := P.sc_le s.data.toList (k := k) (by omega)
            have HC : Hid (P.cnt s.data.toList (min s.data.toList.length 11) = P.cnt s.data.toList k) := by rw [← hK.out]; rfl
            have hcb := P.cnt_le s.data.toList k
            generalize P.sc s.data.toList k = x at *
            generalize P.cnt s.data.toList k = c at *
            by_cases hc : c ≤ 9
            · by_cases hl : s.size ≤ 10
              · go_wp2_with (go_at_call 58; refine (specFormatInt _ ⟨by omega, by omega⟩ _).mono ?_; rintro e w1 ⟨rfl, hb1⟩)
                · have ht : (!(fmtS ((x : Int))).toList == s.toList) = true := by
                    have hor : (9 < (c : Int) ∨ 10 < (s.size : Int)) ∨ (!(fmtS ((x : Int))).toList == s.toList) = true := by assumption
                    rcases hor with (h | h) | h
                    · omega
                    · omega
                    · exact h
                  go_ret2
                  exact ⟨ret_pi (piN_none (by rw [HR.out, if_neg]; rintro ⟨_, _, h3⟩; rw [HX.out] at h3; rw [fmt_test.2 h3] at ht; cases ht)), hb1⟩
                · have ht : (!(fmtS ((x : Int))).toList == s.toList) = false := by
                    have hor : ((c : Int) ≤ 9 ∧ (s.size : Int) ≤ 10) ∧ (!(fmtS ((x : Int))).toList == s.toList) = false := by assumption
                    exact hor.2
                  go_ret2
                  exact ⟨ret_pi (piN_some (by rw [HR.out, HX.out, if_pos ⟨by rw [HC.out]; exact hc, hl, fmt_test.1 (by simpa using ht)⟩])), hb1⟩
              · go_wp2_with fail
                go_ret2
                exact ⟨ret_pi (piN_none (by rw [HR.out, if_neg]; rintro ⟨_, h2, _⟩; exact hl h2)), Below.refl _ _⟩
            · go_wp2_with fail
              go_ret2
              exact ⟨ret_pi (piN_none (by rw [HR.out, if_neg]; rintro ⟨h1, _, _⟩; rw [HC.out] at h1; exact hc h1)), Below.refl _ _⟩
      · have hneg : P.neg s.data.toList = false := by simp only [P.neg, decide_eq_false_iff_not]; rintro ⟨h, _⟩; exact h0 h
        clear hin
        have HR := Lib.hid (P.pI_ref s.data.toList)
        have HX : Hid (P.scanned s.data.toList = (P.sc s.data.toList k : Int)) := by
          show _ = _
          unfold P.scanned
          rw [hneg, ← hK.out]; rfl
        clear hneg
        have hxb := P.sc_le s.data.toList (k := k) (by omega)
        have HC : Hid (P.cnt s.data.toList (min s.data.toList.length 11) = P.cnt s.data.toList k) := by rw [← hK.out]; rfl
        have hcb := P.cnt_le s.data.toList k
        generalize P.sc s.data.toList k = x at *
        generalize P.cnt s.data.toList k = c at *
        have hc : c ≤ 9 := by omega
        have hl : s.size ≤ 10 := by omega
        go_wp2_with (go_at_call 58; refine (specFormatInt _ ⟨by omega, by omega⟩ _).mono ?_; rintro e w1 ⟨rfl, hb1⟩)
        · have ht : (!(fmtS ((x : Int))).toList == s.toList) = true := by
            have hor : (9 < (c : Int) ∨ 10 < (s.size : Int)) ∨ (!(fmtS ((x : Int))).toList == s.toList) = true := by assumption
            rcases hor with (h | h) | h
            · omega
            · omega
            · exact h
          go_ret2
          exact ⟨ret_pi (piN_none (by rw [HR.out, if_neg]; rintro ⟨_, _, h3⟩; rw [HX.out] at h3; rw [fmt_test.2 h3] at ht; cases ht)), hb1⟩
        · have ht : (!(fmtS ((x : Int))).toList == s.toList) = false := by
            have hor : ((c : Int) ≤ 9 ∧ (s.size : Int) ≤ 10) ∧ (!(fmtS ((x : Int))).toList == s.toList) = false := by assumption
            exact hor.2
          go_ret2
          exact ⟨ret_pi (piN_some (by rw [HR.out, HX.out, if_pos ⟨by rw [HC.out]; exact hc, hl, fmt_test.1 (by simpa using ht)⟩])), hb1⟩
end Go.Proofs.Ytgjghpaenliliaa.Wk
