/-
  Walks of chapter 1: names of codes, fixed width.
  Conditions: none beyond the bounds that each states.
-/
import Derived.Test.YtapehlgafalkjaaW1
import Derived.Test.YtapehlgafalkjaaB1
namespace Go.Proofs.Ytapehlgafalkjaa.Wk
open Go.RowKit
set_option linter.unusedVariables false

theorem ret_int {k : IntKind} {a b : Int} (h : a = b) : Ending.returned (.int k a) = .returned (.int k b) := by rw [h]
theorem vint {k : IntKind} {a b : Int} (h : a = b) : Value.int k a = .int k b := by rw [h]
theorem getD_of {s : ByteArray} {k : Nat} (h : k < s.size) : s.data.toList.getD k 0 = s[k] := by
  have : k < s.data.toList.length := by simpa using h
  simp [List.getD]
  rw [Array.getElem?_eq_getElem (by simpa using h)]
  rfl

/-- The name of a code. -/
def cname (c : Int) : ByteArray :=
  if c = -1 then ⟨#[119, 111, 114, 115, 101]⟩ else if c = 0 then ⟨#[101, 113, 117, 97, 108]⟩ else if c = 1 then ⟨#[98, 101, 116, 116, 101, 114]⟩
  else if c = 2 then ⟨#[117, 110, 114, 101, 108, 97, 116, 101, 100]⟩ else ⟨#[]⟩

theorem specCodeName (c : Int) (w : World) : Calls Try.prog 16 #[.int .i64 c] w fun e w' => e = .returned (.string (cname c)) ∧ Below w.heap.size w w' := by
  by_cases h0 : c = -1
  · subst h0
    go_enter Try.func16, Try.ntmps16
    go_wp2
    go_ret
    exact ⟨rfl, Below.refl _ _⟩
  by_cases h1 : c = 0
  · subst h1
    go_enter Try.func16, Try.ntmps16
    go_wp2
    go_ret
    exact ⟨rfl, Below.refl _ _⟩
  by_cases h2 : c = 1
  · subst h2
    go_enter Try.func16, Try.ntmps16
    go_wp2
    go_ret
    exact ⟨rfl, Below.refl _ _⟩
  by_cases h3 : c = 2
  · subst h3
    go_enter Try.func16, Try.ntmps16
    go_wp2
    go_ret
    exact ⟨rfl, Below.refl _ _⟩
  have hn : cname c = ⟨#[]⟩ := by unfold cname; rw [if_neg h0, if_neg h1, if_neg h2, if_neg h3]
  have H := Lib.hid hn
  clear hn
  have e0 : (c == -1) = false := by simpa using h0
  have e1 : (c == 0) = false := by simpa using h1
  have e2 : (c == 1) = false := by simpa using h2
  have e3 : (c == 2) = false := by simpa using h3
  clear h0 h1 h2 h3
  go_enter Try.func16, Try.ntmps16
  go_wp2
  go_ret
  exact ⟨by rw [H.out]; rfl, Below.refl _ _⟩
theorem implCodeName (c : Int) (w : World) : Calls Try.prog 17 #[.int .i64 c] w fun e w' => e = .returned (.string (cname c)) ∧ Below w.heap.size w w' := by
  by_cases h0 : c = -1
  · subst h0
    have hin : P.inR (-1) (-1) 2 = true := P.inR_mk (by omega)
    go_enter Try.func17, Try.ntmps17
    go_wp2_with (go_at_call 37; refine (within _ _ _ _).mono ?_; rintro e w' ⟨rfl, rfl⟩)
    go_ret
    exact ⟨rfl, (Below.refl _ _).alloc (Nat.le_refl _) _⟩
  by_cases h1 : c = 0
  · subst h1
    have hin : P.inR 0 (-1) 2 = true := P.inR_mk (by omega)
    go_enter Try.func17, Try.ntmps17
    go_wp2_with (go_at_call 37; refine (within _ _ _ _).mono ?_; rintro e w' ⟨rfl, rfl⟩)
    go_ret
    exact ⟨rfl, (Below.refl _ _).alloc (Nat.le_refl _) _⟩
  by_cases h2 : c = 1
  · subst h2
    have hin : P.inR 1 (-1) 2 = true := P.inR_mk (by omega)
    go_enter Try.func17, Try.ntmps17
    go_wp2_with (go_at_call 37; refine (within _ _ _ _).mono ?_; rintro e w' ⟨rfl, rfl⟩)
    go_ret
    exact ⟨rfl, (Below.refl _ _).alloc (Nat.le_refl _) _⟩
  by_cases h3 : c = 2
  · subst h3
    have hin : P.inR 2 (-1) 2 = true := P.inR_mk (by omega)
    go_enter Try.func17, Try.ntmps17
    go_wp2_with (go_at_call 37; refine (within _ _ _ _).mono ?_; rintro e w' ⟨rfl, rfl⟩)
    go_ret
    exact ⟨rfl, (Below.refl _ _).alloc (Nat.le_refl _) _⟩
  have hn : cname c = ⟨#[]⟩ := by unfold cname; rw [if_neg h0, if_neg h1, if_neg h2, if_neg h3]
  have hin : P.inR c (-1) 2 = false := P.inR_no (by omega)
  have H := Lib.hid hn
  clear hn h0 h1 h2 h3
  go_enter Try.func17, Try.ntmps17
  go_wp2_with (go_at_call 37; refine (within _ _ _ _).mono ?_; rintro e w' ⟨rfl, rfl⟩)
  go_ret
  exact ⟨by rw [H.out]; rfl, Below.refl _ _⟩
theorem FnExactCodeName (c : Int) (hc : (Lit.int .i64 c).wf = true) (w : World) : Calls Try.prog 5 #[.int .i64 c] w fun e w' => e = .returned (.bool true) ∧ Below w.heap.size w w' := by
  clear hc
  go_enter Try.func5, Try.ntmps5
  go_wp2_with fail
  refine (specCodeName _ _).mono ?_
  rintro e w1 ⟨rfl, hb1⟩
  go_wp2_with fail
  refine (implCodeName _ _).mono ?_
  rintro e w2 ⟨rfl, hb2⟩
  go_wp2_with fail
  go_ret
  exact ⟨rfl, hb1.trans (hb2.mono hb1.size)⟩

/-- What DecodeFixed answers. -/
def dfB (s : ByteArray) (width : Int) : Bool := P.inR width 1 7 && decide (width ≤ s.size)
def dfN (s : ByteArray) (width : Int) : Int := if dfB s width then P.be s.data.toList width.toNat else 0
theorem specDecodeFixed_y (s : ByteArray) (m : Nat) (w : World) (hs : s.size ≤ maxLen) (h1 : 1 ≤ m) (h7 : m ≤ 7) (hm : m ≤ s.size) :
    Calls Try.prog 18 #[.string s, .int .i64 m] w fun e w' => e = .returned (.tuple #[.int .i64 (P.be s.data.toList m), .bool true]) ∧ Below w.heap.size w w' := by
  have hin : P.inR m 1 7 = true := P.inR_mk (by omega)
  have hd : decide (s.size < m) = false := by simpa using hm
  unfold maxLen at hs
  go_enter Try.func18, Try.ntmps18
  go_wp2_with (go_at_call 38; refine (l1In _ _ _ _).mono ?_; rintro e w' ⟨rfl, rfl⟩)
  go_loop [6, 7] (fun n i => ∃ k : Nat, k ≤ m ∧ i = .int .i64 k ∧ n = .int .i64 (P.be s.data.toList k)) (fun _ i => m - (intOf i).toNat)
  case atStart => exact ⟨0, Nat.zero_le _, rfl, rfl⟩
  case round =>
    obtain ⟨k, hk, rfl, rfl⟩ := hrel
    have hb := P.be_lt s.data.toList k
    by_cases hlt : k < m
    · have hp := P.pow_le6 (k := k) (by omega)
      have hss : k < s.size := by omega
      have hsb : s[k].toNat < 256 := s[k].toNat_lt
      have HS := Lib.hid (P.be_succ s.data.toList k)
      have HG := Lib.hid (getD_of hss)
      have hble : P.be s.data.toList k ≤ 281474976710656 := by omega
      clear hb hp
      go_wp2
      go_round
      case rel => exact ⟨k + 1, by omega, by go_num, vint (by rw [HS.out, HG.out]; omega)⟩
      case measure => simp [intOf]; omega
    · have hkm : k = m := by omega
      subst hkm
      clear hb
      go_wp2
      go_ret2
      exact ⟨rfl, Below.refl _ _⟩
theorem specDecodeFixed (s : ByteArray) (width : Int) (w : World) (hs : s.size ≤ maxLen) :
    Calls Try.prog 18 #[.string s, .int .i64 width] w fun e w' => e = .returned (.tuple #[.int .i64 (dfN s width), .bool (dfB s width)]) ∧ Below w.heap.size w w' := by
  cases hr : P.inR width 1 7 with
  | false =>
    have hB : dfB s width = false := by simp [dfB, hr]
    have hN : dfN s width = 0 := by simp [dfN, hB]
    rw [hB, hN]
    clear hB hN hs
    go_enter Try.func18, Try.ntmps18
    go_wp2_with (go_at_call 38; refine (l1In _ _ _ _).mono ?_; rintro e w' ⟨rfl, rfl⟩)
    go_ret2
    exact ⟨rfl, Below.refl _ _⟩
  | true =>
    have hb := P.inR_t hr
    obtain ⟨m, rfl⟩ : ∃ m : Nat, width = m := ⟨width.toNat, by omega⟩
    by_cases hm : m ≤ s.size
    · have hB : dfB s m = true := by simp [dfB, hr, hm]
      have hN : dfN s m = P.be s.data.toList m := by simp [dfN, hB]
      rw [hB, hN]
      exact specDecodeFixed_y s m w hs (by omega) (by omega) hm
    · have hB : dfB s m = false := by simp [dfB]; omega
      have hN : dfN s m = 0 := by simp [dfN, hB]
      have hd : decide (s.size < m) = true := by simp; omega
      rw [hB, hN]
      clear hB hN hm hb
      go_enter Try.func18, Try.ntmps18
      go_wp2_with (go_at_call 38; refine (l1In _ _ _ _).mono ?_; rintro e w' ⟨rfl, rfl⟩)
      go_ret2
      exact ⟨rfl, Below.refl _ _⟩
theorem implDecodeFixed_y (s : ByteArray) (m : Nat) (w : World) (hs : s.size ≤ maxLen) (h1 : 1 ≤ m) (h7 : m ≤ 7) (hm : m ≤ s.size) :
    Calls Try.prog 19 #[.string s, .int .i64 m] w fun e w' => e = .returned (.tuple #[.int .i64 (P.be s.data.toList m), .bool true]) ∧ Below w.heap.size w w' := by
  have hin : P.inR m 1 7 = true := P.inR_mk (by omega)
  have hd : decide (s.size < m) = false := by simpa using hm
  unfold maxLen at hs
  go_enter Try.func19, Try.ntmps19
  go_wp2_with (go_at_call 37; refine (within _ _ _ _).mono ?_; rintro e w' ⟨rfl, rfl⟩)
  go_loop [6, 7] (fun n i => ∃ k : Nat, k ≤ m ∧ i = .int .i64 k ∧ n = .int .i64 (P.be s.data.toList k)) (fun _ i => m - (intOf i).toNat)
  case atStart => exact ⟨0, Nat.zero_le _, rfl, rfl⟩
  case round =>
    obtain ⟨k, hk, rfl, rfl⟩ := hrel
    have hb := P.be_lt s.data.toList k
    by_cases hlt : k < m
    · have hp := P.pow_le6 (k := k) (by omega)
      have hss : k < s.size := by omega
      have hsb : s[k].toNat < 256 := s[k].toNat_lt
      have HS := Lib.hid (P.be_succ s.data.toList k)
      have HG := Lib.hid (getD_of hss)
      have hble : P.be s.data.toList k ≤ 281474976710656 := by omega
      clear hb hp
      go_wp2
      go_round
      case rel => exact ⟨k + 1, by omega, by go_num, vint (by rw [HS.out, HG.out, B.or256 _ _ hsb hble]; omega)⟩
      case measure => simp [intOf]; omega
    · have hkm : k = m := by omega
      subst hkm
      clear hb
      go_wp2
      go_ret2
      exact ⟨rfl, Below.refl _ _⟩
theorem implDecodeFixed (s : ByteArray) (width : Int) (w : World) (hs : s.size ≤ maxLen) :
    Calls Try.prog 19 #[.string s, .int .i64 width] w fun e w' => e = .returned (.tuple #[.int .i64 (dfN s width), .bool (dfB s width)]) ∧ Below w.heap.size w w' := by
  cases hr : P.inR width 1 7 with
  | false =>
    have hB : dfB s width = false := by simp [dfB, hr]
    have hN : dfN s width = 0 := by simp [dfN, hB]
    rw [hB, hN]
    clear hB hN hs
    go_enter Try.func19, Try.ntmps19
    go_wp2_with (go_at_call 37; refine (within _ _ _ _).mono ?_; rintro e w' ⟨rfl, rfl⟩)
    go_ret2
    exact ⟨rfl, Below.refl _ _⟩
  | true =>
    have hb := P.inR_t hr
    obtain ⟨m, rfl⟩ : ∃ m : Nat, width = m := ⟨width.toNat, by omega⟩
    by_cases hm : m ≤ s.size
    · have hB : dfB s m = true := by simp [dfB, hr, hm]
      have hN : dfN s m = P.be s.data.toList m := by simp [dfN, hB]
      rw [hB, hN]
      exact implDecodeFixed_y s m w hs (by omega) (by omega) hm
    · have hB : dfB s m = false := by simp [dfB]; omega
      have hN : dfN s m = 0 := by simp [dfN, hB]
      have hd : decide (s.size < m) = true := by simp; omega
      rw [hB, hN]
      clear hB hN hm hb
      go_enter Try.func19, Try.ntmps19
      go_wp2_with (go_at_call 37; refine (within _ _ _ _).mono ?_; rintro e w' ⟨rfl, rfl⟩)
      go_ret2
      exact ⟨rfl, Below.refl _ _⟩
theorem FnExactDecodeFixed (s : ByteArray) (hs : s.size ≤ maxLen) (width : Int) (hc : (Lit.int .i64 width).wf = true) (w : World) : Calls Try.prog 6 #[.string s, .int .i64 width] w fun e w' => e = .returned (.bool true) ∧ Below w.heap.size w w' := by
  clear hc
  by_cases h : 1048576 < s.size
  · go_enter Try.func6, Try.ntmps6
    go_wp2_with fail
    go_ret
    exact ⟨rfl, Below.refl _ _⟩
  go_enter Try.func6, Try.ntmps6
  go_wp2_with fail
  refine (specDecodeFixed _ _ _ hs).mono ?_
  rintro e w1 ⟨rfl, hb1⟩
  go_wp2_with fail
  refine (implDecodeFixed _ _ _ hs).mono ?_
  rintro e w2 ⟨rfl, hb2⟩
  go_wp2_with fail
  go_ret
  exact ⟨rfl, hb1.trans (hb2.mono hb1.size)⟩
end Go.Proofs.Ytapehlgafalkjaa.Wk
