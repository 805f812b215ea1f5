/-
  Walks of chapter 1's draws: numbers below a bound, from a list, any number, a text.
  Conditions: none beyond the bounds that each states.
-/
import Derived.Test.YtapehlgafalkjaaW80
namespace Go.Proofs.Ytapehlgafalkjaa.Wk
open Go.RowKit Go.Proofs.Ytapehlgafalkjaa.M
set_option linter.unusedVariables false
attribute [local go_sem] cell_grow

set_option maxHeartbeats 1600000 in
set_option maxRecDepth 100000 in
theorem l1Below {p : Nat} {n : Int} (w : World) (h : Cur w p) (hn : 0 < n) (hf : n ≤ 4611686018427387904) : Calls Try.prog 44 #[.pointer (some ⟨p, 0, none⟩), .int .i64 n] w (DrI w p 0 n) := by
  have q0 : ¬ n ≤ 0 := by omega
  have q00 : ¬ n = 0 := by omega
  have q1 : (n == 0) = false := by simp; omega
  by_cases h2 : n ≤ 256
  · go_enter Try.func44, Try.ntmps44
    go_wp2_with fail
    refine (l1Byte _ h).mono ?_
    rintro e w2 ⟨x, rfl, x0, x1, hC, hD⟩
    go_wp2
    go_ret
    exact ⟨_, rfl, Int.emod_nonneg _ q00, Int.emod_lt_of_pos _ hn, hC, hD⟩
  · go_enter Try.func44, Try.ntmps44
    go_wp2_with fail
    refine (l1Byte _ h).mono ?_
    rintro e w2 ⟨x, rfl, x0, x1, hC, hD⟩
    go_wp2_with fail
    refine (l1Byte _ hC).mono ?_
    rintro e w3 ⟨y, rfl, y0, y1, hC3, hD3⟩
    go_wp2_with fail
    refine (l1Byte _ hC3).mono ?_
    rintro e w4 ⟨z, rfl, z0, z1, hC4, hD4⟩
    go_wp2_with fail
    refine (l1Byte _ hC4).mono ?_
    rintro e w5 ⟨u, rfl, u0, u1, hC5, hD5⟩
    go_wp2
    go_ret
    exact ⟨_, rfl, Int.emod_nonneg _ q00, Int.emod_lt_of_pos _ hn, hC5, ((hD.trans hD3).trans hD4).trans hD5⟩
theorem l1PickInt {p g n c : Nat} {E : TypeId} {xs : List Int} (w : World) (h : Cur w p) (hr : Row w g E (xs.map (Value.int .i64))) (hn : xs.length = n) (hn0 : 0 < n) (hc : n ≤ c) (hb : n ≤ 1000) (hg : g ≠ p) :
    Calls Try.prog 45 #[.pointer (some ⟨p, 0, none⟩), .slice (some ⟨g, 0, none⟩) n c] w fun e w' => ∃ x, e = .returned (.int .i64 x) ∧ x ∈ xs ∧ Cur w' p ∧ Dr p w w' := by
  have q0 : (0 : Int) < (n : Int) := by omega
  go_enter Try.func45, Try.ntmps45
  go_wp2_with fail
  refine (l1Below (n := (n : Int)) _ h q0 (by omega)).mono ?_
  rintro e w2 ⟨x, rfl, x0, x1, hC, hD⟩
  obtain ⟨k, rfl⟩ := Int.eq_ofNat_of_zero_le x0
  have hk : k < xs.length := by omega
  have hR := hr.dr hD hg
  have c0 : w2.cell? ⟨g, k, none⟩ = some (.int .i64 xs[k]) := by rw [hR.cell, List.getElem?_map, List.getElem?_eq_getElem hk]; rfl
  have hlt := hR.lt
  have q1 : (k : Int) < (n : Int) := x1
  have q2 : (n : Int) ≤ (c : Int) := by omega
  obtain ⟨y, hy⟩ : ∃ y, xs[k] = y := ⟨_, rfl⟩
  have hm : y ∈ xs := by rw [← hy]; exact List.getElem_mem hk
  rw [hy] at c0
  clear hR hr hy
  go_wp2
  go_ret
  exact ⟨y, rfl, hm, hC, hD⟩
set_option maxHeartbeats 1600000 in
set_option maxRecDepth 100000 in
theorem l1Num {p : Nat} (w : World) (h : Cur w p) : Calls Try.prog 42 #[.pointer (some ⟨p, 0, none⟩)] w fun e w' => ∃ x, e = .returned (.int .i64 x) ∧ Fit x ∧ Cur w' p ∧ Dr p w w' := by
  go_enter Try.func42, Try.ntmps42
  go_wp2_with fail
  refine (l1Below (n := 8) _ h (by omega) (by omega)).mono ?_
  rintro e w2 ⟨x, rfl, x0, x1, hC, hD⟩
  by_cases e0 : x = 0
  · have q0 : (x == 0) = true := by simp [e0]
    clear e0
    have hp := hC.lt
    go_wp2_with fail
    refine (l1PickInt (n := 17) (c := 17) (xs := [-1, 0, 127, 128, 255, 256, 16383, 16384, 65535, 65536, 562949953421311, 562949953421312, 999999999, 1000000000, -999999999, 9223372036854775807, -9223372036854775808]) _ (hC.alloc _) (Row.new w2 _ _) rfl (by omega) (by omega) (by omega) (by omega)).mono ?_
    rintro e w3 ⟨y, rfl, hy, hC3, hD3⟩
    have hf : Fit y := by
      simp at hy
      unfold Fit
      omega
    go_wp2
    go_ret
    exact ⟨y, rfl, hf, hC3, (hD.alloc _).trans hD3⟩
  · have q0 : (x == 0) = false := by simp [e0]
    clear e0
    by_cases e1 : x = 1
    · have q1 : (x == 1) = true := by simp [e1]
      clear e1
      go_wp2_with fail
      refine (l1Below (n := 1000000000) _ hC (by omega) (by omega)).mono ?_
      rintro e w3 ⟨y, rfl, y0, y1, hC3, hD3⟩
      go_wp2_with fail
      refine (l1Below (n := 1000000000) _ hC3 (by omega) (by omega)).mono ?_
      rintro e w4 ⟨z, rfl, z0, z1, hC4, hD4⟩
      go_wp2
      go_ret
      exact ⟨_, rfl, by first | exact fit_wrap _ | (unfold wrap64 Fit; omega) | (have := fit_wrap (y * z); rw [IntKind.wrap_i64] at this; unfold wrap64; exact this), hC4, (hD.trans hD3).trans hD4⟩
    · have q1 : (x == 1) = false := by simp [e1]
      clear e1
      by_cases e2 : x = 2
      · have q2 : (x == 2) = true := by simp [e2]
        clear e2
        go_wp2_with fail
        refine (l1Below (n := 100000) _ hC (by omega) (by omega)).mono ?_
        rintro e w3 ⟨y, rfl, y0, y1, hC3, hD3⟩
        go_wp2
        go_ret
        exact ⟨-y, rfl, by unfold Fit; omega, hC3, hD.trans hD3⟩
      · have q2 : (x == 2) = false := by simp [e2]
        clear e2
        go_wp2_with fail
        refine (l1Below (n := 70000) _ hC (by omega) (by omega)).mono ?_
        rintro e w3 ⟨y, rfl, y0, y1, hC3, hD3⟩
        go_wp2
        go_ret
        exact ⟨y, rfl, by unfold Fit; omega, hC3, hD.trans hD3⟩
set_option maxHeartbeats 1600000 in
set_option maxRecDepth 100000 in
theorem l1Text {p m : Nat} (w : World) (h : Cur w p) (hm : m ≤ 1000) : Calls Try.prog 43 #[.pointer (some ⟨p, 0, none⟩), .int .i64 m] w fun e w' => ∃ s : ByteArray, e = .returned (.string s) ∧ s.size ≤ m ∧ Cur w' p ∧ Dr p w w' := by
  obtain ⟨i0, hi, hz0, hz1, hz2⟩ := info_parts info_u8
  have hp := h.lt
  go_enter Try.func43, Try.ntmps43
  go_wp2_with fail
  refine (l1Below (n := 4) _ (h.alloc _) (by omega) (by omega)).mono ?_
  rintro e w2 ⟨st, rfl, s0, s1, hC2, hD2⟩
  have hO2 := own_dr_past (own_emptyS w 5 1) hD2 hp
  go_wp2_with fail
  refine (l1Below (n := (m : Int) + 1) _ hC2 (by omega) (by omega)).mono ?_
  rintro e w3 ⟨k0, rfl, k00, k01, hC3, hD3⟩
  obtain ⟨kn, rfl⟩ := Int.eq_ofNat_of_zero_le k00
  have hO3 := own_dr_past hO2 hD3 hp
  have hD03 := (((Dr.refl p w).alloc (.cells #[] 5)).trans hD2).trans hD3
  clear hD2 hD3 hO2 hC2
  go_wp2
  go_loopw [5, 7, 8] (fun vo vn vb wr => ∃ (k : Nat) (bs : List Int), k + bs.length ≤ m ∧ vn = .int .i64 k ∧ wr.ownsRow w.heap.size 5 1 vo bs.length (bs.map (Value.int .u8)) ∧ Cur wr p ∧ Dr p w wr) (fun _ vn _ _ => (intOf vn).toNat)
  case atStart => exact ⟨kn, [], by simp; omega, rfl, hO3, hC3, hD03⟩
  case round =>
    clear hO3 hC3 hD03
    obtain ⟨k, bs, hk, rfl, hown, hC, hD⟩ := hrel
    by_cases hlt : 0 < k
    · have q1 : (0 : Int) < (k : Int) := by omega
      go_wp2_with fail
      refine (l1Byte _ hC).mono ?_
      rintro e w4 ⟨b, rfl, b0, b1, hC4, hD4⟩
      have hown4 := own_dr_past hown hD4 hp
      have hD04 := hD.trans hD4
      clear hown hC hD hD4
      by_cases e1 : st = 1
      · have t1 : (st == 1) = true := by simp [e1]
        have t2 : (st == 2) = false := by simp [e1]
        clear e1
        go_wp2_with (at_builtin; refine wpList_append_own _ rfl _ _ 37 rfl w.heap.size 5 i0 (.int .u8 0) 1 1 Try.underlying37 hi hz0 hz1 hz2 rfl (by decide) _ _ _ rfl (hown4.alloc _) ⟨w4.heap.size, 0, none⟩ 1 1 [_] rfl rfl (M.one_new _ _ _) (by simp [Value.oneCell']) ?c3 ?c4 ?c5 ?_)
        case c3 => unfold maxLen; omega
        case c4 => omega
        case c5 => have := hD04.size; simp; omega
        intro v' w5 hown5 hgrow _
        have O5 := Lib.hid hown5
        have C5 := Lib.hid ((hC4.alloc _).grown hgrow (fun q hq => by have := (hown4.lt q hq).1; omega))
        have D5 := Lib.hid ((hD04.alloc _).grown hgrow (fun q hq => (hown4.lt q hq).1))
        clear hown5 hgrow hown4 hC4 hD04
        go_wp2
        go_roundw
        case rel => exact ⟨k - 1, bs ++ [_], by simp; omega, by first | go_num | exact vint (by omega), by have := O5.out; simpa using this, C5.out, D5.out⟩
        case measure => simp [intOf]; omega
      · have t1 : (st == 1) = false := by simp [e1]
        clear e1
        by_cases e2 : st = 2
        · have t2 : (st == 2) = true := by simp [e2]
          clear e2
          go_wp2_with (at_builtin; refine wpList_append_own _ rfl _ _ 37 rfl w.heap.size 5 i0 (.int .u8 0) 1 1 Try.underlying37 hi hz0 hz1 hz2 rfl (by decide) _ _ _ rfl (hown4.alloc _) ⟨w4.heap.size, 0, none⟩ 1 1 [_] rfl rfl (M.one_new _ _ _) (by simp [Value.oneCell']) ?c3 ?c4 ?c5 ?_)
          case c3 => unfold maxLen; omega
          case c4 => omega
          case c5 => have := hD04.size; simp; omega
          intro v' w5 hown5 hgrow _
          have O5 := Lib.hid hown5
          have C5 := Lib.hid ((hC4.alloc _).grown hgrow (fun q hq => by have := (hown4.lt q hq).1; omega))
          have D5 := Lib.hid ((hD04.alloc _).grown hgrow (fun q hq => (hown4.lt q hq).1))
          clear hown5 hgrow hown4 hC4 hD04
          go_wp2
          go_roundw
          case rel => exact ⟨k - 1, bs ++ [_], by simp; omega, by first | go_num | exact vint (by omega), by have := O5.out; simpa using this, C5.out, D5.out⟩
          case measure => simp [intOf]; omega
        · have t2 : (st == 2) = false := by simp [e2]
          clear e2
          go_wp2_with (at_builtin; refine wpList_append_own _ rfl _ _ 37 rfl w.heap.size 5 i0 (.int .u8 0) 1 1 Try.underlying37 hi hz0 hz1 hz2 rfl (by decide) _ _ _ rfl (hown4.alloc _) ⟨w4.heap.size, 0, none⟩ 1 1 [_] rfl rfl (M.one_new _ _ _) (by simp [Value.oneCell']) ?c3 ?c4 ?c5 ?_)
          case c3 => unfold maxLen; omega
          case c4 => omega
          case c5 => have := hD04.size; simp; omega
          intro v' w5 hown5 hgrow _
          have O5 := Lib.hid hown5
          have C5 := Lib.hid ((hC4.alloc _).grown hgrow (fun q hq => by have := (hown4.lt q hq).1; omega))
          have D5 := Lib.hid ((hD04.alloc _).grown hgrow (fun q hq => (hown4.lt q hq).1))
          clear hown5 hgrow hown4 hC4 hD04
          go_wp2
          go_roundw
          case rel => exact ⟨k - 1, bs ++ [_], by simp; omega, by first | go_num | exact vint (by omega), by have := O5.out; simpa using this, C5.out, D5.out⟩
          case measure => simp [intOf]; omega
    · have q1 : ¬ (0 : Int) < (k : Int) := by omega
      have hconv := M.conv_own (P := Try.prog) 37 9 Try.underlying37 Try.underlying5 Try.underlying9 hown
      go_wp2
      go_ret
      exact ⟨_, rfl, by rw [strOfNums_size]; omega, hC, hD⟩
end Go.Proofs.Ytapehlgafalkjaa.Wk
