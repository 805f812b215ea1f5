/-
  Walks of chapter 1: hexadecimal digits.
  Conditions: none beyond the bounds that each states.
-/
import Derived.Test.YtapehlgafalkjaaW3
import Derived.Test.YtapehlgafalkjaaP2
import Derived.Deep.RegionHeld3
import Derived.Deep.AppendLies
import Derived.OwnWalk
namespace Go.Proofs.Ytapehlgafalkjaa.Wk
open Go.RowKit
set_option linter.unusedVariables false

def digits : ByteArray := ⟨#[48, 49, 50, 51, 52, 53, 54, 55, 56, 57, 97, 98, 99, 100, 101, 102]⟩
theorem digits_at : ∀ n : Fin 16, ∃ b : UInt8, digits[n.val]? = some b ∧ (b.toNat : Int) = P.hexd n.val := by decide
theorem run_dig {Pr : Program} (T : TypeId) (hT : Pr.underlying T = some .string) (k : IntKind) (x : Int) (n : Nat) (hx : x = n) (hn : n < 16) (w : World) :
    (Instr.index T (.string ⟨#[48, 49, 50, 51, 52, 53, 54, 55, 56, 57, 97, 98, 99, 100, 101, 102]⟩) (.int k x)).run Pr w = .ok (.int .u8 (P.hexd n)) w := by
  subst hx
  obtain ⟨b, h1, h2⟩ := digits_at ⟨n, hn⟩
  change digits[n]? = some b at h1
  change (Instr.index T (.string digits) (.int k n)).run Pr w = _
  rw [← h2]
  simp [Instr.index, asIntOf, run_underlying hT, h1]
theorem take_snoc {s : ByteArray} {k : Nat} (h : k < s.size) : s.data.toList.take (k + 1) = s.data.toList.take k ++ [s[k]] := by
  rw [List.take_succ_eq_append_getElem (by simpa using h)]; rfl
theorem enc_step {w wr w1 : World} {s : ByteArray} {k : Nat} {v v' : Value} {o : Obj} (h : k < s.size) (hown : wr.ownsRow w.heap.size 5 1 v (2 * k) ((P.enc (s.data.toList.take k)).map (Value.int .u8)))
    (hbw : Below w.heap.size w wr) (hown' : w1.ownsRow w.heap.size 5 1 v' (2 * k + 2) ((P.enc (s.data.toList.take k)).map (Value.int .u8) ++ [.int .u8 (P.hexd (s[k].toNat / 16)), .int .u8 (P.hexd (s[k].toNat % 16))]))
    (hg : (wr.alloc o).drew.grownBy w1 v.ownBlock) :
    w1.ownsRow w.heap.size 5 1 v' (2 * (k + 1)) ((P.enc (s.data.toList.take (k + 1))).map (Value.int .u8)) ∧ Below w.heap.size w w1 := by
  refine ⟨?_, ((hbw.alloc hbw.size _).drew).grown hg (by have := hbw.size; simp; omega) (fun k hk => (hown.lt k hk).1)⟩
  rw [take_snoc h, P.enc_snoc]
  simpa [Nat.mul_add] using hown'
set_option maxHeartbeats 400000 in
set_option maxRecDepth 100000 in
theorem implEncodeHex (s : ByteArray) (hs : s.size ≤ 1048576) (w : World) : Calls Try.prog 15 #[.string s] w fun e w' => e = .returned (.string (strOfNums (P.enc s.data.toList))) ∧ Below w.heap.size w w' := by
  obtain ⟨i0, hi, hz0, hz1, hz2⟩ := info_parts info_u8
  go_enter Try.func15, Try.ntmps15
  go_wp2_with (at_make; refine wpList_make_own _ rfl _ _ 37 rfl w.heap.size 5 i0 (.int .u8 0) 1 Try.underlying37 hi hz0 hz1 .i64 .i64 _ (2 * s.size) rfl rfl ?m1 ?m2 ?m3 ?m4 ?_)
  case m1 => omega
  case m2 => rw [hz2]; omega
  case m3 => unfold maxLen; omega
  case m4 => omega
  intro w1 hown1 hgrow1
  have hb1 : Below w.heap.size w w1 := (Below.refl _ _).grown hgrow1 (Nat.le_refl _) (fun k hk => by cases hk)
  clear hgrow1
  go_wp2
  go_loopw [3, 4] (fun vo vi wr => ∃ k : Nat, k ≤ s.size ∧ vi = .int .i64 k ∧ wr.ownsRow w.heap.size 5 1 vo (2 * k) ((P.enc (s.data.toList.take k)).map (Value.int .u8)) ∧ Below w.heap.size w wr)
    (fun _ vi _ => s.size - (intOf vi).toNat)
  case atStart => exact ⟨0, Nat.zero_le _, rfl, by simpa [P.enc] using hown1, hb1⟩
  case round =>
    obtain ⟨k, hk, rfl, hown, hbw⟩ := hrel
    clear hown1 hb1
    by_cases hlt : k < s.size
    · have hsb : s[k].toNat < 256 := s[k].toNat_lt
      go_wp2_with fail
      have hand : bits BinOp.and IntKind.u8 (s[k].toNat : Int) 15 = (s[k].toNat : Int) % 16 := by
        have := Go.u8_and_nat s[k].toNat 15 hsb (by omega)
        rw [Go.nat_mask4] at this
        exact this.trans (by omega)
      have hd1 := run_dig (Pr := Try.prog) 9 Try.underlying9 .u8 ((s[k].toNat : Int) / 16) (s[k].toNat / 16) (by omega) (by omega)
      have hd2 := run_dig (Pr := Try.prog) 9 Try.underlying9 .u8 ((s[k].toNat : Int) % 16) (s[k].toNat % 16) (by omega) (by omega)
      go_region_held3 (fun _ => True) (trivial) ((refine step_append_lies _ (by rfl) _ _ _ (by rfl) w.heap.size 5 i0 _ 1 1 Try.underlying37 hi hz0 hz1 hz2 rfl (by omega) _ _ _ (by rfl) ((hown.alloc _).drew) ⟨wr.heap.size, 0, none⟩ 2 2 [_, _] (by rfl) (by rfl) (cell_two_new _ _ _ _) (by simp [Value.oneCell']) (by omega) (by unfold maxLen; omega) (by omega) (by have := hbw.size; simp; omega) _ rfl ?_; intro gg cap w1 hown1 hgrow hat hgl))
      all_goals
        have R := enc_step (w := w) hlt hown hbw hown1 hgrow
        clear hown1 hgrow hat hgl hown hbw
        go_wp2
        go_roundw
        case rel => exact ⟨k + 1, by omega, by go_num, R.1, R.2⟩
        case measure => simp [intOf]; omega
    · have hconv := M.conv_own (P := Try.prog) 37 9 Try.underlying37 Try.underlying5 Try.underlying9 hown
      have hkk : Hid (s.data.toList.take k = s.data.toList) := List.take_of_length_le (by simp; show s.size ≤ k; omega)
      clear hown
      go_wp2
      go_ret
      exact ⟨congrArg (fun l => Ending.returned (.string (strOfNums (P.enc l)))) hkk.out, hbw⟩
theorem l1Digit (x : Int) (n : Nat) (hx : x = n) (hn : n < 16) (w : World) : Calls Try.prog 36 #[.int .i64 x] w fun e w' => e = .returned (.int .u8 (P.hexd n)) ∧ w = w' := by
  have hd := run_dig (Pr := Try.prog) 9 Try.underlying9 .i64 x n hx hn
  clear hx
  go_enter Try.func36, Try.ntmps36
  go_wp2
  go_ret
  exact ⟨rfl, rfl⟩
def hexdI (x : Int) : Int := P.hexd x.toNat
theorem hexdI_hi (n : Nat) : hexdI ((n : Int) / 16) = P.hexd (n / 16) := by unfold hexdI; congr 1
theorem hexdI_lo (n : Nat) : hexdI ((n : Int) % 16) = P.hexd (n % 16) := by unfold hexdI; congr 1
theorem l1DigitA (x : Int) (h0 : 0 ≤ x) (h1 : x < 16) (w : World) : Calls Try.prog 36 #[.int .i64 x] w fun e w' => e = .returned (.int .u8 (hexdI x)) ∧ w = w' :=
  l1Digit x x.toNat (by omega) (by omega) w
set_option maxHeartbeats 800000 in
set_option maxRecDepth 100000 in
theorem specEncodeHex (s : ByteArray) (hs : s.size ≤ 1048576) (w : World) : Calls Try.prog 14 #[.string s] w fun e w' => e = .returned (.string (strOfNums (P.enc s.data.toList))) ∧ Below w.heap.size w w' := by
  obtain ⟨i0, hi, hz0, hz1, hz2⟩ := info_parts info_u8
  go_enter Try.func14, Try.ntmps14
  go_wp2
  go_loopw [3, 4] (fun vo vi wr => ∃ k : Nat, k ≤ s.size ∧ vi = .int .i64 k ∧ wr.ownsRow w.heap.size 5 1 vo (2 * k) ((P.enc (s.data.toList.take k)).map (Value.int .u8)) ∧ Below w.heap.size w wr)
    (fun _ vi _ => s.size - (intOf vi).toNat)
  case atStart => exact ⟨0, Nat.zero_le _, rfl, M.own_empty _ _, (Below.refl _ _).alloc (Nat.le_refl _) _⟩
  case round =>
    obtain ⟨k, hk, rfl, hown, hbw⟩ := hrel
    by_cases hlt : k < s.size
    · have hsb : s[k].toNat < 256 := s[k].toNat_lt
      have q1 : IntKind.i64.wrap (s[k].toNat : Int) = s[k].toNat := by rw [IntKind.wrap_i64]; omega
      have q2 : IntKind.i64.wrap ((s[k].toNat : Int).tdiv 16) = (s[k].toNat : Int) / 16 := by rw [Int.tdiv_eq_ediv_of_nonneg (by omega), IntKind.wrap_i64]; omega
      have q4 : IntKind.i64.wrap ((s[k].toNat : Int) / 16) = (s[k].toNat : Int) / 16 := by rw [IntKind.wrap_i64]; omega
      have q3 : (s[k].toNat : Int).tmod 16 = (s[k].toNat : Int) % 16 := Int.tmod_eq_emod_of_nonneg (by omega)
      go_wp2_with fail
      go_region_held3 (fun _ => True) (trivial) (first | (refine step_append_lies _ (by rfl) _ _ _ (by rfl) w.heap.size 5 i0 _ 1 1 Try.underlying37 hi hz0 hz1 hz2 rfl (by omega) _ _ _ (by rfl) ((hown.alloc _).drew) ⟨wr.heap.size, 0, none⟩ 2 2 [_, _] (by rfl) (by rfl) (cell_two_new _ _ _ _) (by simp [Value.oneCell']) (by omega) (by unfold maxLen; omega) (by omega) (by have := hbw.size; simp; omega) _ rfl ?_; intro gg cap w1 hown1 hgrow hat hgl) | (go_simp; go_at_call 36; with_reducible (refine (l1DigitA _ (by omega) (by omega) _).mono ?_); rintro e w' ⟨rfl, rfl⟩))
      all_goals
        clear q1 q2 q3 q4
        rw [hexdI_hi, hexdI_lo] at hown1
        have R := enc_step (w := w) hlt hown hbw hown1 hgrow
        clear hown1 hgrow hat hgl hown hbw
        go_wp2
        go_roundw
        case rel => exact ⟨k + 1, by omega, by go_num, R.1, R.2⟩
        case measure => simp [intOf]; omega
    · have hconv := M.conv_own (P := Try.prog) 37 9 Try.underlying37 Try.underlying5 Try.underlying9 hown
      have hkk : Hid (s.data.toList.take k = s.data.toList) := List.take_of_length_le (by simp; show s.size ≤ k; omega)
      clear hown
      go_wp2
      go_ret
      exact ⟨congrArg (fun l => Ending.returned (.string (strOfNums (P.enc l)))) hkk.out, hbw⟩
theorem FnExactEncodeHex (s : ByteArray) (hs : s.size ≤ maxLen) (w : World) : Calls Try.prog 4 #[.string s] w fun e w' => e = .returned (.bool true) ∧ Below w.heap.size w w' := by
  by_cases h : 1048576 < s.size
  · go_enter Try.func4, Try.ntmps4
    go_wp2_with fail
    go_ret
    exact ⟨rfl, Below.refl _ _⟩
  have h' : s.size ≤ 1048576 := by omega
  go_enter Try.func4, Try.ntmps4
  go_wp2_with fail
  refine (specEncodeHex _ h' _).mono ?_
  rintro e w1 ⟨rfl, hb1⟩
  go_wp2_with fail
  refine (implEncodeHex _ h' _).mono ?_
  rintro e w2 ⟨rfl, hb2⟩
  go_wp2_with fail
  go_ret
  exact ⟨rfl, hb1.trans (hb2.mono hb1.size)⟩
end Go.Proofs.Ytapehlgafalkjaa.Wk
