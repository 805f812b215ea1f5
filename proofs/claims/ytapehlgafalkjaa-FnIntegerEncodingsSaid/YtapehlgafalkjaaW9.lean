/-
  Walks of chapter 1: DecodeVarint.
  Conditions: none beyond the bounds that each states.
-/
import Derived.Test.YtapehlgafalkjaaW5
import Derived.Test.YtapehlgafalkjaaW6
import Derived.Test.YtapehlgafalkjaaB2
namespace Go.Proofs.Ytapehlgafalkjaa.Wk
open Go.RowKit
set_option linter.unusedVariables false

theorem bytesEq {xs : List Int} (h : ∀ x ∈ xs, 0 ≤ x ∧ x < 256) (l : List UInt8) : (strOfNums xs).data.toList = l ↔ xs = P.nums l := by
  rw [strOfNums_data]
  constructor
  · rintro rfl
    unfold P.nums
    rw [List.map_map]
    have : xs.map ((fun b : UInt8 => (b.toNat : Int)) ∘ fun n => UInt8.ofNat n.toNat) = xs.map id := List.map_congr_left fun x hx => by
      have := h x hx
      simp; omega
    rw [this]; simp
  · rintro rfl
    unfold P.nums
    rw [List.map_map]
    have : ((fun n : Int => UInt8.ofNat n.toNat) ∘ fun b : UInt8 => (b.toNat : Int)) = id := by funext b; simp
    rw [this]; simp
theorem uv_mem (n : Nat) : ∀ x ∈ P.uv n, 0 ≤ x ∧ x < 256 := by
  obtain ⟨a, z, e, h1, h2, h3⟩ := P.uv_shape n
  intro x hx
  rw [e] at hx
  rcases List.mem_append.1 hx with hx | hx
  · have := h3 x hx; omega
  · simp at hx; omega
theorem evS_nat {x : Nat} (h : x ≤ 562949953421311) : evS x = strOfNums (P.uv x) := by
  have : P.inR x 0 562949953421311 = true := P.inR_mk (by omega)
  simp [evS, this]
theorem take_extract (s : ByteArray) (k : Nat) : (s.extract 0 k).toList = s.data.toList.take k := by
  rw [ByteArray.toList_eq]
  simp [ByteArray.extract, ByteArray.copySlice, Array.toList_extract]
theorem okv_test {s : ByteArray} {k x : Nat} (hx : x = P.lv s.data.toList k) (h7 : k ≤ 7) : ((evS (x : Int)).toList == (s.extract 0 k).toList) = true ↔ P.okv s.data.toList k := by
  subst hx
  have hl := P.lv_lt s.data.toList k
  have hp := P.pow128_le7 h7
  rw [evS_nat (by omega), take_extract, ByteArray.toList_eq, beq_iff_eq, bytesEq (uv_mem _)]
  rfl
theorem pow_step {k t : Nat} (h : t + 1 ≤ k) : 128 ^ (k - t) = 128 ^ (k - (t + 1)) * 128 := by
  rw [show k - t = (k - (t + 1)) + 1 by omega, Nat.pow_succ]
/-- It returns what a decoder of varints answers. -/
def SomeDV (s : ByteArray) (w : World) (e : Ending) (w' : World) : Prop := ∃ r : Nat × Nat, P.DV s.data.toList r ∧ e = .returned (.tuple #[.int .i64 r.1, .int .i64 r.2]) ∧ Below w.heap.size w w'
set_option maxHeartbeats 800000 in
set_option maxRecDepth 100000 in
theorem specDecodeVarint (s : ByteArray) (hs : s.size ≤ 2097152) (w : World) : Calls Try.prog 28 #[.string s] w (SomeDV s w) := by
  go_enter Try.func28, Try.ntmps28
  go_wp2
  go_loopw [4, 5, 6] (fun vk vn vi wr => ∃ k : Nat, 1 ≤ k ∧ k ≤ 8 ∧ k ≤ s.size + 1 ∧ vk = .int .i64 k ∧ Hid (∀ j, 1 ≤ j → j < k → ¬ P.okv s.data.toList j) ∧ Below w.heap.size w wr)
    (fun vk _ _ _ => 9 - (intOf vk).toNat)
  case atStart => exact ⟨1, by omega, by omega, by omega, rfl, fun j h1 h2 => absurd h1 (by omega), Below.refl _ _⟩
  case round =>
    obtain ⟨k, h1, h8, hks, rfl, hno, hbw⟩ := hrel
    obtain ⟨wo, rfl⟩ : ∃ wo : World, wo = wr := ⟨_, rfl⟩
    by_cases hk7 : k ≤ 7
    · by_cases hks2 : k ≤ s.size
      · go_wp2
        go_loop [5, 6] (fun vn vi => ∃ (j : Nat) (x : Nat), j ≤ k ∧ vi = .int .i64 ((j : Int) - 1) ∧ vn = .int .i64 x ∧ x < 128 ^ (k - j) ∧ Hid (P.lv s.data.toList j + 128 ^ j * x = P.lv s.data.toList k)) (fun _ vi => (intOf vi + 1).toNat)
        case atStart => exact ⟨k, 0, Nat.le_refl _, vint (by omega), rfl, by simp, by show _ = _; simp⟩
        case round =>
          obtain ⟨j, x, hj, hvi, rfl, hx, hlv⟩ := hrel
          cases j with
          | zero =>
            obtain rfl := hvi.trans (vint (show ((0 : Nat) : Int) - 1 = -1 by omega))
            have hxe : Hid (x = P.lv s.data.toList k) := by
              have := hlv.out
              simp [P.lv] at this
              exact this
            clear hx hlv
            go_wp2_with fail
            go_region_held3 (fun _ => True) (trivial) ((go_simp; go_at_call 20; with_reducible (refine (specEncodeVarint _ _).mono ?_); rintro e w1 ⟨rfl, hb1⟩))
            all_goals
              go_wp2
              · have ht : ((evS (x : Int)).toList == (s.extract 0 k).toList) = true := by assumption
                have hok := (okv_test hxe.out hk7).1 ht
                go_ret2
                exact ⟨(P.lv s.data.toList k, k), .inl ⟨k, h1, hk7, by simpa using hks2, hok, rfl⟩, by rw [← hxe.out]; rfl, hbw.drew.trans (hb1.mono hbw.size)⟩
              · have ht : ((evS (x : Int)).toList == (s.extract 0 k).toList) = false := by assumption
                refine ⟨⟨k + 1, by omega, by omega, by omega, by go_num, fun j a b hokj => ?_, hbw.drew.trans (hb1.mono hbw.size)⟩, by simp [intOf]; omega⟩
                by_cases e : j = k
                · subst e
                  have := (okv_test hxe.out hk7).2 hokj
                  rw [ht] at this; cases this
                · exact hno.out j a (by omega) hokj
          | succ t =>
            obtain rfl := hvi.trans (vint (show ((t + 1 : Nat) : Int) - 1 = t by omega))
            have hp := P.pow128_le6 (k := k - (t + 1)) (by omega)
            have hx2 : x ≤ 4398046511104 := by omega
            have hlt : t < s.size := by omega
            have hsb : s[t].toNat < 256 := s[t].toNat_lt
            have HX := Lib.hid hx
            have HG := Lib.hid (getD_of hlt)
            clear hp hx
            go_wp2
            go_round
            case rel =>
              refine ⟨t, x * 128 + s[t].toNat % 128, by omega, by go_num, vint (by omega), ?_, ?_⟩
              · have := HX.out
                rw [pow_step (by omega)]; omega
              · show _ = _
                rw [← hlv.out, P.lv_succ, HG.out, Nat.pow_succ, Nat.mul_add, Nat.mul_assoc, Nat.mul_comm 128 x, Nat.mul_comm (128 ^ t) (s[t].toNat % 128)]
                omega
            case measure => simp [intOf]
      · go_wp2
        go_ret2
        exact ⟨(0, 0), .inr ⟨fun j a b c => hno.out j a (by rw [show s.data.toList.length = s.size from rfl] at c; omega), rfl⟩, rfl, hbw⟩
    · go_wp2
      go_ret2
      exact ⟨(0, 0), .inr ⟨fun j a b c => hno.out j a (by omega), rfl⟩, rfl, hbw⟩
set_option maxHeartbeats 800000 in
set_option maxRecDepth 100000 in
theorem implDecodeVarint (s : ByteArray) (hs : s.size ≤ 2097152) (w : World) : Calls Try.prog 29 #[.string s] w (SomeDV s w) := by
  go_enter Try.func29, Try.ntmps29
  go_wp2
  go_loop [4, 5] (fun vn vi => ∃ k : Nat, k ≤ 7 ∧ k ≤ s.size ∧ vi = .int .i64 k ∧ vn = .int .i64 (P.lv s.data.toList k) ∧ Hid (∀ j, j < k → 128 ≤ (s.data.toList.getD j 0).toNat)) (fun _ vi => 7 - (intOf vi).toNat)
  case atStart => exact ⟨0, by omega, by omega, rfl, rfl, fun j h => absurd h (by omega)⟩
  case round =>
    obtain ⟨k, h7, hks, rfl, rfl, hbig⟩ := hrel
    have hl := P.lv_lt s.data.toList k
    have hlsz : s.data.toList.length = s.size := rfl
    have HLS := Lib.hid hlsz
    clear hlsz
    by_cases hk7 : k < 7
    · by_cases hks2 : k < s.size
      · have hp := P.pow128_le6 (k := k) (by omega)
        have hsb : s[k].toNat < 256 := s[k].toNat_lt
        have hand : bits BinOp.and IntKind.u8 (s[k].toNat : Int) 127 = (s[k].toNat : Int) % 128 := by
          have := Go.u8_and_nat s[k].toNat 127 hsb (by omega)
          rw [Go.nat_mask7] at this
          exact this.trans (by omega)
        have hor := B.or_shift (P.lv s.data.toList k) (s[k].toNat % 128) k hl (by omega) (by omega)
        rw [show ((s[k].toNat % 128 : Nat) : Int) = (s[k].toNat : Int) % 128 by omega] at hor
        have hx1 : P.lv s.data.toList k + s[k].toNat % 128 * 128 ^ k = P.lv s.data.toList (k + 1) := by rw [P.lv_succ, getD_of hks2]
        have hG := Lib.hid (getD_of hks2)
        rw [hx1] at hor
        have HX : Hid (P.lv s.data.toList (k + 1) = P.lv s.data.toList (k + 1)) := rfl
        generalize P.lv s.data.toList (k + 1) = x1 at hor hx1
        have HX1 : Hid (x1 = P.lv s.data.toList (k + 1)) := by
          show _ = _
          rw [← hx1, P.lv_succ, getD_of hks2]
        clear hx1 HX hl hp
        by_cases hend : s[k].toNat < 128
        · have q0 : IntKind.i64.wrap ((k : Int) + 1) = (k : Int) + 1 := by rw [IntKind.wrap_i64]; omega
          have q1 : (0 : Int) ≤ (k : Int) + 1 := by omega
          have q2 : (k : Int) + 1 ≤ (s.size : Int) := by omega
          go_wp2_with fail
          go_region_held3 (fun _ => True) (trivial) ((go_simp; go_at_call 21; with_reducible (refine (implEncodeVarint _ _).mono ?_); rintro e w1 ⟨rfl, hb1⟩))
          all_goals
            clear q0 q1 q2
            go_wp2
            · have ht : (!(evS (x1 : Int)).toList == (s.extract 0 (k + 1)).toList) = true := by assumption
              have hno : ¬ P.okv s.data.toList (k + 1) := fun hok => by
                rw [(okv_test HX1.out (by omega)).2 hok] at ht; cases ht
              go_ret2
              refine ⟨(0, 0), .inr ⟨fun j a b c hok => ?_, rfl⟩, rfl, (Below.refl _ _).drew.trans hb1⟩
              obtain ⟨_, g1, g2⟩ := P.okv_shape hok c
              by_cases e1 : j - 1 < k
              · have := hbig.out (j - 1) e1; omega
              · by_cases e2 : j = k + 1
                · subst e2; exact hno hok
                · have := g2 k (by omega); rw [hG.out] at this; omega
            · have ht : (!(evS (x1 : Int)).toList == (s.extract 0 (k + 1)).toList) = false := by assumption
              have hok : P.okv s.data.toList (k + 1) := (okv_test HX1.out (by omega)).1 (by simpa using ht)
              go_ret2
              exact ⟨(P.lv s.data.toList (k + 1), k + 1), .inl ⟨k + 1, by omega, by omega, by rw [HLS.out]; omega, hok, rfl⟩, by rw [← HX1.out]; rfl, (Below.refl _ _).drew.trans hb1⟩
        · go_wp2
          go_round
          case rel => exact ⟨k + 1, by omega, by omega, by go_num, vint (by rw [HX1.out]), fun j hj => by
            by_cases e : j = k
            · subst e; rw [hG.out]; omega
            · exact hbig.out j (by omega)⟩
          case measure => simp [intOf]; omega
      · have hn : P.DV s.data.toList (0, 0) := .inr ⟨fun j a b c hok => by
          obtain ⟨_, h1, _⟩ := P.okv_shape hok c
          rw [HLS.out] at c
          have := hbig.out (j - 1) (by omega)
          omega, rfl⟩
        have HN := Lib.hid hn
        clear hn hl
        go_wp2
        go_ret2
        exact ⟨(0, 0), HN.out, rfl, Below.refl _ _⟩
    · have hn : P.DV s.data.toList (0, 0) := .inr ⟨fun j a b c hok => by
        obtain ⟨_, h1, _⟩ := P.okv_shape hok c
        have := hbig.out (j - 1) (by omega)
        omega, rfl⟩
      have HN := Lib.hid hn
      clear hn hl
      by_cases hks2 : k < s.size
      · go_wp2
        go_ret2
        exact ⟨(0, 0), HN.out, rfl, Below.refl _ _⟩
      · go_wp2
        go_ret2
        exact ⟨(0, 0), HN.out, rfl, Below.refl _ _⟩
theorem FnExactDecodeVarint (s : ByteArray) (hs : s.size ≤ maxLen) (w : World) : Calls Try.prog 11 #[.string s] w fun e w' => e = .returned (.bool true) ∧ Below w.heap.size w w' := by
  by_cases h : 1048576 < s.size
  · go_enter Try.func11, Try.ntmps11
    go_wp2_with fail
    go_ret
    exact ⟨rfl, Below.refl _ _⟩
  have h' : s.size ≤ 2097152 := by omega
  go_enter Try.func11, Try.ntmps11
  go_wp2_with fail
  refine (specDecodeVarint _ h' _).mono ?_
  rintro e w1 ⟨r, hr, rfl, hb1⟩
  go_wp2_with fail
  refine (implDecodeVarint _ h' _).mono ?_
  rintro e w2 ⟨r', hr', rfl, hb2⟩
  obtain rfl := P.DV_one hr hr'
  go_wp2_with fail
  go_ret
  exact ⟨rfl, hb1.trans (hb2.mono hb1.size)⟩
end Go.Proofs.Ytapehlgafalkjaa.Wk
