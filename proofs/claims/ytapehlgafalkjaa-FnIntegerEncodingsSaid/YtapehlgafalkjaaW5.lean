/-
  Walks of chapter 1: reading hexadecimal digits.
  Conditions: none beyond the bounds that each states.
-/
import Derived.Test.YtapehlgafalkjaaW4
import Derived.Deep.QuietTactic
import Derived.BigQuiet
namespace Go.Proofs.Ytapehlgafalkjaa.Wk
open Go.RowKit
set_option linter.unusedVariables false

theorem getD_at {s : ByteArray} {k : Nat} (h : k < s.size) : (s.data.toList.getD k 0).toNat = s[k].toNat := by rw [getD_of h]
theorem run_at {Pr : Program} (T : TypeId) (hT : Pr.underlying T = some .string) (kd : IntKind) (s : ByteArray) (x : Int) (k : Nat) (hx : x = k) (h : k < s.size) (w : World) :
    (Instr.index T (.string s) (.int kd x)).run Pr w = .ok (.int .u8 (s[k].toNat : Int)) w := by
  subst hx
  have h1 := ByteArray.getElem?_lt' s k h
  simp [Instr.index, asIntOf, run_underlying hT, h1]
theorem hexValue (b : Int) (h0 : 0 ≤ b) (h1 : b < 256) (w : World) : Calls Try.prog 40 #[.int .u8 b] w fun e w' => e = .returned (.int .i64 (P.hx b)) ∧ w = w' := by
  by_cases c1 : 48 ≤ b
  · by_cases c2 : b ≤ 57
    · have hv : P.hx b = b - 48 := by unfold P.hx; rw [if_pos ⟨c1, c2⟩]
      rw [hv]
      clear hv
      go_enter Try.func40, Try.ntmps40
      go_wp2
      go_ret
      exact ⟨rfl, rfl⟩
    · by_cases c3 : 97 ≤ b
      · by_cases c4 : b ≤ 102
        · have hv : P.hx b = b - 87 := by unfold P.hx; rw [if_neg (by omega), if_pos ⟨c3, c4⟩]
          rw [hv]
          clear hv
          go_enter Try.func40, Try.ntmps40
          go_wp2
          go_ret
          exact ⟨ret_int (by omega), rfl⟩
        · have hv : P.hx b = -1 := by unfold P.hx; rw [if_neg (by omega), if_neg (by omega)]
          rw [hv]
          clear hv
          go_enter Try.func40, Try.ntmps40
          go_wp2
          go_ret
          exact ⟨rfl, rfl⟩
      · have hv : P.hx b = -1 := by unfold P.hx; rw [if_neg (by omega), if_neg (by omega)]
        rw [hv]
        clear hv
        go_enter Try.func40, Try.ntmps40
        go_wp2
        go_ret
        exact ⟨rfl, rfl⟩
  · have hv : P.hx b = -1 := by unfold P.hx; rw [if_neg (by omega), if_neg (by omega)]
    rw [hv]
    clear hv
    go_enter Try.func40, Try.ntmps40
    go_wp2
    go_ret
    exact ⟨rfl, rfl⟩
theorem hexdI_eq (k : Nat) : hexdI (k : Int) = P.hexd k := by unfold hexdI; simp
theorem l1FromHex (b : Int) (h0 : 0 ≤ b) (h1 : b < 256) (w : World) : Calls Try.prog 39 #[.int .u8 b] w fun e w' => e = .returned (.int .i64 (P.hx b)) ∧ w = w' := by
  go_enter Try.func39, Try.ntmps39
  go_wp2
  go_loop [3] (fun vk => ∃ k : Nat, k ≤ 16 ∧ vk = .int .i64 k ∧ Hid (∀ j, j < k → P.hexd j ≠ b)) (fun vk => 16 - (intOf vk).toNat)
  case atStart => exact ⟨0, Nat.zero_le _, rfl, fun j hj => absurd hj (by omega)⟩
  case round =>
    obtain ⟨k, hk, rfl, hno⟩ := hrel
    by_cases hlt : k < 16
    · by_cases he : P.hexd k = b
      · have hv : P.hx b = k := (P.hx_iff hlt).1 he
        have ht : (hexdI k == b) = true := by rw [hexdI_eq]; simpa using he
        have HV := Lib.hid hv
        clear hv he
        go_wp2_with (go_at_call 36; refine (l1DigitA _ (by omega) (by omega) _).mono ?_; rintro e w' ⟨rfl, rfl⟩)
        go_ret
        exact ⟨ret_int HV.out.symm, rfl⟩
      · have ht : (hexdI k == b) = false := by rw [hexdI_eq]; simpa using he
        have HE := Lib.hid he
        clear he
        go_wp2_with (go_at_call 36; refine (l1DigitA _ (by omega) (by omega) _).mono ?_; rintro e w' ⟨rfl, rfl⟩)
        go_round
        case rel => exact ⟨k + 1, by omega, by go_num, fun j hj => by
          by_cases e : j = k
          · subst e; exact HE.out
          · exact hno.out j (by omega)⟩
        case measure => simp [intOf]; omega
    · have hv : P.hx b = -1 := by
        have hk16 : k = 16 := by omega
        have hb := P.hx_le b
        by_cases hx : P.hx b = -1
        · exact hx
        · exact absurd ((P.hx_iff (b := b) (k := (P.hx b).toNat) (by omega)).2 (by omega)) (hno.out _ (by omega))
      have HV := Lib.hid hv
      clear hv
      go_wp2
      go_ret
      exact ⟨ret_int HV.out.symm, rfl⟩
/-- What DecodeHex answers. -/
def dhV (s : ByteArray) : Value := .tuple #[.string (strOfNums ((P.dec s.data.toList).getD [])), .bool (P.dec s.data.toList).isSome]
theorem dhV_none {s : ByteArray} (h : P.dec s.data.toList = none) : dhV s = .tuple #[.string ⟨#[]⟩, .bool false] := by unfold dhV; rw [h]; rfl
theorem dhV_some {s : ByteArray} {l : List Int} (h : P.dec s.data.toList = some l) : dhV s = .tuple #[.string (strOfNums l), .bool true] := by unfold dhV; rw [h]; rfl
theorem dh_bad {s : ByteArray} {k : Nat} {acc : List Int} (hk : k + 2 ≤ s.size) (ha : P.dec s.data.toList = (P.dec (s.data.toList.drop k)).map (acc ++ ·))
    (h : P.hx (s.data.toList.getD k 0).toNat < 0 ∨ P.hx (s.data.toList.getD (k + 1) 0).toNat < 0) : P.dec s.data.toList = none := by
  rw [ha, P.dec_step (by simpa using hk), if_pos h]; rfl
theorem dh_good {s : ByteArray} {k : Nat} {acc : List Int} (hk : k + 2 ≤ s.size) (ha : P.dec s.data.toList = (P.dec (s.data.toList.drop k)).map (acc ++ ·))
    (h1 : 0 ≤ P.hx (s.data.toList.getD k 0).toNat) (h2 : 0 ≤ P.hx (s.data.toList.getD (k + 1) 0).toNat) :
    P.dec s.data.toList = (P.dec (s.data.toList.drop (k + 2))).map ((acc ++ [16 * P.hx (s.data.toList.getD k 0).toNat + P.hx (s.data.toList.getD (k + 1) 0).toNat]) ++ ·) := by
  rw [ha, P.dec_step (by simpa using hk), if_neg (by omega), Option.map_map]
  congr 1
  funext r
  simp
theorem dh_end {s : ByteArray} {k : Nat} {acc : List Int} (hk : s.size ≤ k) (ha : P.dec s.data.toList = (P.dec (s.data.toList.drop k)).map (acc ++ ·)) : P.dec s.data.toList = some acc := by
  rw [ha, List.drop_of_length_le (by simpa using hk)]; simp [P.dec]
theorem dh_step {w wr w1 : World} {acc : List Int} {v v' : Value} {o : Obj} {x y : Int} (hown : wr.ownsRow w.heap.size 5 1 v acc.length (acc.map (Value.int .u8)))
    (hbw : Below w.heap.size w wr) (hown' : w1.ownsRow w.heap.size 5 1 v' (acc.length + 1) (acc.map (Value.int .u8) ++ [.int .u8 x])) (hg : (wr.alloc o).grownBy w1 v.ownBlock) (hx : x = y) :
    w1.ownsRow w.heap.size 5 1 v' (acc ++ [y]).length ((acc ++ [y]).map (Value.int .u8)) ∧ Below w.heap.size w w1 := by
  subst hx
  exact ⟨by simpa using hown', (hbw.alloc hbw.size _).grown hg (by have := hbw.size; simp; omega) (fun k hk => (hown.lt k hk).1)⟩
set_option maxHeartbeats 800000 in
set_option maxRecDepth 100000 in
theorem specDecodeHex (s : ByteArray) (hs : s.size ≤ 1048576) (w : World) : Calls Try.prog 26 #[.string s] w fun e w' => e = .returned (dhV s) ∧ Below w.heap.size w w' := by
  obtain ⟨i0, hi, hz0, hz1, hz2⟩ := info_parts info_u8
  by_cases hodd : s.size % 2 = 1
  · have hn : P.dec s.data.toList = none := P.dec_odd _ (by simpa using hodd)
    rw [dhV_none hn]
    have ht : ((s.size : Int) % 2 == 1) = true := by simp; omega
    clear hn hodd
    go_enter Try.func26, Try.ntmps26
    go_wp2
    go_ret2
    exact ⟨rfl, (Below.refl _ _).alloc (Nat.le_refl _) _⟩
  · have ht : ((s.size : Int) % 2 == 1) = false := by simp; omega
    go_enter Try.func26, Try.ntmps26
    go_wp2
    go_loopw [4, 5, 6, 7] (fun vo vi va vb wr => ∃ (k : Nat) (acc : List Int), k ≤ s.size ∧ k % 2 = 0 ∧ vi = .int .i64 k ∧ acc.length ≤ k ∧ Hid (P.dec s.data.toList = (P.dec (s.data.toList.drop k)).map (acc ++ ·)) ∧ wr.ownsRow w.heap.size 5 1 vo acc.length (acc.map (Value.int .u8)) ∧ Below w.heap.size w wr)
      (fun _ vi _ _ _ => s.size - (intOf vi).toNat)
    case atStart => exact ⟨0, [], Nat.zero_le _, rfl, rfl, Nat.le_refl _, by show _ = _; simp, M.own_empty _ _, (Below.refl _ _).alloc (Nat.le_refl _) _⟩
    case round =>
      obtain ⟨k, acc, hk, hk2, rfl, hal, hacc, hown, hbw⟩ := hrel
      by_cases hlt : k < s.size
      · have hlt1 : k + 1 < s.size := by omega
        have hb0 : s[k].toNat < 256 := s[k].toNat_lt
        have hb1 : s[k + 1].toNat < 256 := s[k + 1].toNat_lt
        have E0 := Lib.hid (getD_at hlt)
        have E1 := Lib.hid (getD_at hlt1)
        have l0 := P.hx_le (s[k].toNat : Int)
        have l1 := P.hx_le (s[k + 1].toNat : Int)
        by_cases hx0 : P.hx (s[k].toNat : Int) < 0
        · have hn := dh_bad (k := k) (by omega) hacc.out (.inl (by rw [E0.out]; exact hx0))
          have HV := Lib.hid (dhV_none hn)
          clear hn hown
          go_wp2_with (go_at_call 39; refine (l1FromHex _ (by omega) (by omega) _).mono ?_; rintro e w' ⟨rfl, rfl⟩)
          go_ret2
          exact ⟨by rw [HV.out]; rfl, hbw⟩
        · by_cases hx1 : P.hx (s[k + 1].toNat : Int) < 0
          · have hn := dh_bad (k := k) (by omega) hacc.out (.inr (by rw [E1.out]; exact hx1))
            have HV := Lib.hid (dhV_none hn)
            clear hn hown
            go_wp2_with (go_at_call 39; refine (l1FromHex _ (by omega) (by omega) _).mono ?_; rintro e w' ⟨rfl, rfl⟩)
            go_ret2
            exact ⟨by rw [HV.out]; rfl, hbw⟩
          · have hg := dh_good (k := k) (by omega) hacc.out (by rw [E0.out]; omega) (by rw [E1.out]; omega)
            rw [E0.out, E1.out] at hg
            have HG := Lib.hid hg
            clear hg
            go_wp2_with (first | (go_at_call 39; refine (l1FromHex _ (by omega) (by omega) _).mono ?_; rintro e w' ⟨rfl, rfl⟩) | (at_builtin; refine wpList_append_own _ rfl _ _ 37 rfl w.heap.size 5 i0 (.int .u8 0) 1 1 Try.underlying37 hi hz0 hz1 hz2 rfl (by decide) _ _ _ rfl (hown.alloc _) ⟨wr.heap.size, 0, none⟩ 1 1 [_] rfl rfl (M.one_new _ _ _) (by simp [Value.oneCell']) ?c3 ?c4 ?c5 ?_))
            case c3 => unfold maxLen; omega
            case c4 => omega
            case c5 => have := hbw.size; simp; omega
            intro v' w1 hown' hgrow _
            have R := dh_step (w := w) (y := 16 * P.hx (s[k].toNat : Int) + P.hx (s[k + 1].toNat : Int)) hown hbw hown' hgrow (by omega)
            clear hown' hgrow hown hbw
            go_wp2
            go_roundw
            case rel => exact ⟨k + 2, _, by omega, by omega, by go_num, by simp; omega, HG, R.1, R.2⟩
            case measure => simp [intOf]; omega
      · have HV := Lib.hid (dhV_some (dh_end (k := k) (by omega) hacc.out))
        have hconv := M.conv_own (P := Try.prog) 37 9 Try.underlying37 Try.underlying5 Try.underlying9 hown
        clear hown
        go_wp2
        go_ret2
        exact ⟨by rw [HV.out]; rfl, hbw⟩
theorem hexValueQ (b : Int) (h0 : 0 ≤ b) (h1 : b < 256) (w : World) : Calls Try.prog 40 #[.int .u8 b] w fun e w' => e = .returned (.int .i64 (P.hx b)) ∧ w' = w :=
  (hexValue b h0 h1 w).mono fun _ _ h => ⟨h.1, h.2.symm⟩
set_option maxHeartbeats 800000 in
set_option maxRecDepth 100000 in
theorem implDecodeHex (s : ByteArray) (hs : s.size ≤ 1048576) (w : World) : Calls Try.prog 27 #[.string s] w fun e w' => e = .returned (dhV s) ∧ Below w.heap.size w w' := by
  obtain ⟨i0, hi, hz0, hz1, hz2⟩ := info_parts info_u8
  by_cases hodd : s.size % 2 = 1
  · have hn : P.dec s.data.toList = none := P.dec_odd _ (by simpa using hodd)
    rw [dhV_none hn]
    have ht : ((s.size : Int) % 2 != 0) = true := by simp; omega
    clear hn hodd
    go_enter Try.func27, Try.ntmps27
    go_wp2
    go_ret2
    exact ⟨rfl, Below.refl _ _⟩
  · have ht : ((s.size : Int) % 2 != 0) = false := by simp; omega
    go_enter Try.func27, Try.ntmps27
    go_wp2_with (at_make; refine wpList_make_own _ rfl _ _ 37 rfl w.heap.size 5 i0 (.int .u8 0) 1 Try.underlying37 hi hz0 hz1 .i64 .i64 _ (s.size / 2) rfl rfl ?m1 ?m2 ?m3 ?m4 ?_)
    case m1 => omega
    case m2 => rw [hz2]; omega
    case m3 => unfold maxLen; omega
    case m4 => omega
    intro w1 hown1 hgrow1
    have hb1 : Below w.heap.size w w1 := (Below.refl _ _).grown hgrow1 (Nat.le_refl _) (fun k hk => by cases hk)
    clear hgrow1
    go_wp2
    go_loopw [4, 5, 6, 7] (fun vo vi va vb wr => ∃ (k : Nat) (acc : List Int), k ≤ s.size ∧ k % 2 = 0 ∧ vi = .int .i64 k ∧ acc.length ≤ k ∧ Hid (P.dec s.data.toList = (P.dec (s.data.toList.drop k)).map (acc ++ ·)) ∧ wr.ownsRow w.heap.size 5 1 vo acc.length (acc.map (Value.int .u8)) ∧ Below w.heap.size w wr)
      (fun _ vi _ _ _ => s.size - (intOf vi).toNat)
    case atStart => exact ⟨0, [], Nat.zero_le _, rfl, rfl, Nat.le_refl _, by show _ = _; simp, hown1, hb1⟩
    case round =>
      obtain ⟨k, acc, hk, hk2, rfl, hal, hacc, hown0, hbw0⟩ := hrel
      clear hown1 hb1
      by_cases hlt : k < s.size
      · have hlt1 : k + 1 < s.size := by omega
        have hb0 : s[k].toNat < 256 := s[k].toNat_lt
        have hb1 : s[k + 1].toNat < 256 := s[k + 1].toNat_lt
        have E0 := Lib.hid (getD_at hlt)
        have E1 := Lib.hid (getD_at hlt1)
        have l0 := P.hx_le (s[k].toNat : Int)
        have l1 := P.hx_le (s[k + 1].toNat : Int)
        have q0 : IntKind.i64.wrap ((k : Int) + 1) = (k : Int) + 1 := by rw [IntKind.wrap_i64]; omega
        have q2 := run_at (Pr := Try.prog) 9 Try.underlying9 .i64 s ((k : Int) + 1) (k + 1) (by omega) hlt1
        go_wp2_with fail
        go_quiet ((go_at_call 40; first | (with_reducible exact Calls.quiet_of_same (hexValueQ _ (by omega) (by omega) _)) | (with_reducible exact M.quietA (hexValueQ _ (by omega) (by omega) _))))
        clear q0 q2
        have hown := M.own_drewN (n := nq) hown0
        have hbw := below_drewN hbw0 nq
        clear hown0 hbw0
        obtain ⟨wq, hwq⟩ : ∃ wq, wq = wr.drewN nq := ⟨_, rfl⟩
        rw [← hwq] at hown hbw ⊢
        clear hwq
        by_cases hx0 : P.hx (s[k].toNat : Int) < 0
        · have hn := dh_bad (k := k) (by omega) hacc.out (.inl (by rw [E0.out]; exact hx0))
          have HV := Lib.hid (dhV_none hn)
          clear hn hown
          go_wp2
          go_ret2
          exact ⟨by rw [HV.out]; rfl, hbw⟩
        · by_cases hx1 : P.hx (s[k + 1].toNat : Int) < 0
          · have hn := dh_bad (k := k) (by omega) hacc.out (.inr (by rw [E1.out]; exact hx1))
            have HV := Lib.hid (dhV_none hn)
            clear hn hown
            go_wp2
            go_ret2
            exact ⟨by rw [HV.out]; rfl, hbw⟩
          · have hg := dh_good (k := k) (by omega) hacc.out (by rw [E0.out]; omega) (by rw [E1.out]; omega)
            rw [E0.out, E1.out] at hg
            have HG := Lib.hid hg
            have hor := B.or16 (P.hx (s[k].toNat : Int)) (P.hx (s[k + 1].toNat : Int)) (by omega) (by omega) (by omega) (by omega)
            clear hg
            go_wp2_with (at_builtin; refine wpList_append_own _ rfl _ _ 37 rfl w.heap.size 5 i0 (.int .u8 0) 1 1 Try.underlying37 hi hz0 hz1 hz2 rfl (by decide) _ _ _ rfl (hown.alloc _) ⟨wq.heap.size, 0, none⟩ 1 1 [_] rfl rfl (M.one_new _ _ _) (by simp [Value.oneCell']) ?c3 ?c4 ?c5 ?_)
            case c3 => unfold maxLen; omega
            case c4 => omega
            case c5 => have := hbw.size; simp; omega
            intro v' w1 hown' hgrow _
            have R := dh_step (w := w) (y := 16 * P.hx (s[k].toNat : Int) + P.hx (s[k + 1].toNat : Int)) hown hbw hown' hgrow (by omega)
            clear hown' hgrow hown hbw hor
            go_wp2
            go_roundw
            case rel => exact ⟨k + 2, _, by omega, by omega, by go_num, by simp; omega, HG, R.1, R.2⟩
            case measure => simp [intOf]; omega
      · have HV := Lib.hid (dhV_some (dh_end (k := k) (by omega) hacc.out))
        have hconv := M.conv_own (P := Try.prog) 37 9 Try.underlying37 Try.underlying5 Try.underlying9 hown0
        clear hown0
        go_wp2
        go_ret2
        exact ⟨by rw [HV.out]; rfl, hbw0⟩
theorem FnExactDecodeHex (s : ByteArray) (hs : s.size ≤ maxLen) (w : World) : Calls Try.prog 10 #[.string s] w fun e w' => e = .returned (.bool true) ∧ Below w.heap.size w w' := by
  by_cases h : 1048576 < s.size
  · go_enter Try.func10, Try.ntmps10
    go_wp2_with fail
    go_ret
    exact ⟨rfl, Below.refl _ _⟩
  have h' : s.size ≤ 1048576 := by omega
  go_enter Try.func10, Try.ntmps10
  go_wp2_with fail
  refine (specDecodeHex _ h' _).mono ?_
  rintro e w1 ⟨rfl, hb1⟩
  unfold dhV
  go_wp2_with fail
  refine (implDecodeHex _ h' _).mono ?_
  rintro e w2 ⟨rfl, hb2⟩
  unfold dhV
  go_wp2_with fail
  go_ret
  exact ⟨rfl, hb1.trans (hb2.mono hb1.size)⟩
end Go.Proofs.Ytapehlgafalkjaa.Wk
