/-
  Walks of chapter 1: EncodeFixed.
  Conditions: none beyond the bounds that each states.
-/
import Derived.Test.YtapehlgafalkjaaW3
import Derived.Test.YtapehlgafalkjaaM4
namespace Go.Proofs.Ytapehlgafalkjaa.Wk
open Go.RowKit
set_option linter.unusedVariables false

theorem conv_one {Pr : Program} (T E S : TypeId) (hT : Pr.underlying T = some (.slice E)) (hE : Pr.underlying E = some (.int .u8)) (hS : Pr.underlying S = some .string) (w : World) (x : Int) :
    (convert T S (.slice (some ⟨w.heap.size, 0, none⟩) 1 1)).run Pr (w.alloc (.cells #[.int .u8 x] E)) = .ok (.string (strOfNums [x])) (w.alloc (.cells #[.int .u8 x] E)) := by
  refine run_convert_bytes_arg _ T E hT hE w.heap.size 0 1 1 [x] rfl (fun i hi => ?_) S hS
  have : i = 0 := by omega
  subst this
  simp
theorem strOfNums_cons (x : Int) (l : List Int) : strOfNums [x] ++ strOfNums l = strOfNums (x :: l) := by
  rw [strOfNums, strOfNums, ByteArray.mk_append_mk]; rfl
theorem add_one {Pr : Program} (x : Int) (l : List Int) (h : l.length ≤ 1048576) (w : World) : (Op.stringOp .add (strOfNums [x]) (strOfNums l)).run Pr w = .ok (.string (strOfNums (x :: l))) w := by
  rw [run_string_add_sum (P := Pr) (w := w) _ _ (by rw [strOfNums_size, strOfNums_size]; simp; omega), strOfNums_cons]
/-- What EncodeFixed writes. -/
def efS (n width : Int) : ByteArray := if P.inR width 1 7 && decide (0 ≤ n) && decide (n.toNat / 256 ^ width.toNat = 0) then strOfNums (P.lo8 width.toNat n.toNat) else ⟨#[]⟩
set_option maxHeartbeats 400000 in
set_option maxRecDepth 100000 in
theorem specEncodeFixed_y (N m : Nat) (hN : N ≤ 9223372036854775807) (h1 : 1 ≤ m) (h7 : m ≤ 7) (w : World) : Calls Try.prog 22 #[.int .i64 N, .int .i64 m] w fun e w' => e = .returned (.string (if N / 256 ^ m = 0 then strOfNums (P.lo8 m N) else ⟨#[]⟩)) ∧ Below w.heap.size w w' := by
  have hin : P.inR m 1 7 = true := P.inR_mk (by omega)
  go_enter Try.func22, Try.ntmps22
  go_wp2_with (go_at_call 38; refine (l1In _ _ _ _).mono ?_; rintro e w' ⟨rfl, rfl⟩)
  go_loopw [0, 5, 6] (fun vn vo vi wr => ∃ k : Nat, k ≤ m ∧ vi = .int .i64 k ∧ vn = .int .i64 (N / 256 ^ k : Nat) ∧ vo = .string (strOfNums (P.lo8 k N)) ∧ Below w.heap.size w wr)
    (fun _ _ vi _ => m - (intOf vi).toNat)
  case atStart => exact ⟨0, Nat.zero_le _, rfl, by simp, rfl, Below.refl _ _⟩
  case round =>
    obtain ⟨k, hk, rfl, rfl, rfl, hbw⟩ := hrel
    have hd := Nat.div_le_self N (256 ^ k)
    have HS := Lib.hid (P.div_succ N k)
    have HL := Lib.hid (P.lo8_succ k N)
    have hll : (P.lo8 k N).length ≤ 7 := by rw [P.lo8_len]; omega
    generalize hq : N / 256 ^ k = q at *
    by_cases hlt : k < m
    · have hconv := fun x => conv_one (Pr := Try.prog) 37 5 9 Try.underlying37 Try.underlying5 Try.underlying9 wr x
      have hadd := fun x wq => add_one (Pr := Try.prog) x (P.lo8 k N) (by omega) wq
      have hba := fun o => hbw.alloc hbw.size o
      clear hq hbw
      go_wp2
      go_roundw
      case rel => exact ⟨k + 1, by omega, by go_num, vint (by rw [← HS.out]; omega), by rw [HL.out]; rfl, hba _⟩
      case measure => simp [intOf]; omega
    · have hkm : k = m := by omega
      subst hkm
      by_cases hz : q = 0
      · have HZ : Hid (N / 256 ^ k = 0) := by rw [hq]; exact hz
        subst hz
        clear hq HS
        go_wp2
        go_ret
        first | exact ⟨rfl, hbw⟩ | exact ⟨by rw [if_pos HZ.out]; rfl, hbw⟩
      · have HZ : Hid (¬ N / 256 ^ k = 0) := by rw [hq]; exact hz
        have hz0 : 0 < q := by omega
        clear hq HS hz
        go_wp2
        go_ret
        first | exact ⟨rfl, hbw⟩ | exact ⟨by rw [if_neg HZ.out]; rfl, hbw⟩
theorem specEncodeFixed (n width : Int) (hn : n ≤ 9223372036854775807) (w : World) : Calls Try.prog 22 #[.int .i64 n, .int .i64 width] w fun e w' => e = .returned (.string (efS n width)) ∧ Below w.heap.size w w' := by
  cases hr : P.inR width 1 7 with
  | false =>
    have e0 : efS n width = ⟨#[]⟩ := by simp [efS, hr]
    rw [e0]
    clear e0 hn
    go_enter Try.func22, Try.ntmps22
    go_wp2_with (go_at_call 38; refine (l1In _ _ _ _).mono ?_; rintro e w' ⟨rfl, rfl⟩)
    go_ret
    exact ⟨rfl, Below.refl _ _⟩
  | true =>
    by_cases h0 : 0 ≤ n
    · have hb := P.inR_t hr
      obtain ⟨m, rfl⟩ : ∃ m : Nat, width = m := ⟨width.toNat, by omega⟩
      obtain ⟨N, rfl⟩ : ∃ N : Nat, n = N := ⟨n.toNat, by omega⟩
      have e0 : efS N m = if N / 256 ^ m = 0 then strOfNums (P.lo8 m N) else ⟨#[]⟩ := by simp [efS, hr]
      rw [e0]
      exact specEncodeFixed_y N m (by omega) (by omega) (by omega) w
    · have e0 : efS n width = ⟨#[]⟩ := by simp [efS, h0]
      rw [e0]
      have hlt : n < 0 := by omega
      clear e0 hn h0
      go_enter Try.func22, Try.ntmps22
      go_wp2_with (go_at_call 38; refine (l1In _ _ _ _).mono ?_; rintro e w' ⟨rfl, rfl⟩)
      go_ret
      exact ⟨rfl, Below.refl _ _⟩
theorem pow_wrap {m : Nat} (h : m ≤ 7) : wrap64 (2 ^ (8 * m)) = ((256 ^ m : Nat) : Int) := by
  have e : (2 : Int) ^ (8 * m) = ((256 ^ m : Nat) : Int) := by rw [Int.pow_mul]; simp
  have hb := P.pow_le7 h
  rw [e]
  generalize 256 ^ m = q at *
  exact IntWalk.wrap64_in q ⟨by omega, by omega⟩
set_option maxHeartbeats 400000 in
set_option maxRecDepth 100000 in
theorem implEncodeFixed_y (N m : Nat) (hN : N ≤ 9223372036854775807) (h1 : 1 ≤ m) (h7 : m ≤ 7) (hz : N / 256 ^ m = 0) (w : World) : Calls Try.prog 23 #[.int .i64 N, .int .i64 m] w fun e w' => e = .returned (.string (strOfNums (P.lo8 m N))) ∧ Below w.heap.size w w' := by
  have hin : P.inR m 1 7 = true := P.inR_mk (by omega)
  have hlt0 : N < 256 ^ m := by
    have := Nat.div_eq_zero_iff.1 hz
    have := Nat.pow_pos (n := m) (show 0 < 256 by omega)
    omega
  have hw := pow_wrap h7
  have hmk : ∀ w : World, (Instr.makeSlice 37 (.int .i64 (m : Int)) (.int .i64 (m : Int))).run Try.prog w = .ok (.slice (some ⟨w.heap.size, 0, none⟩) m m) (w.alloc (.cells (madeCells #[.int .u8 0] m) 5)) := fun w =>
    run_make_row' (P := Try.prog) 37 5 (.int .u8 0) 1 Try.underlying37 info_u8 rfl .i64 .i64 m (by omega) (by omega) w
  generalize hq : 256 ^ m = q at *
  have hge : decide ((q : Int) ≤ (N : Int)) = false := by simp; omega
  clear hq hz
  go_enter Try.func23, Try.ntmps23
  go_wp2_with (go_at_call 37; refine (within _ _ _ _).mono ?_; rintro e w' ⟨rfl, rfl⟩)
  clear hw hmk hge
  go_loopw [0, 6] (fun vn vi wr => ∃ r : Nat, r ≤ m ∧ vi = .int .i64 ((r : Int) - 1) ∧ vn = .int .i64 (N / 256 ^ (m - r) : Nat) ∧ M.Row wr w.heap.size 5 (List.replicate r (.int .u8 0) ++ (P.lo8 (m - r) N).map (Value.int .u8)) ∧ Below w.heap.size w wr)
    (fun _ vi _ => (intOf vi + 1).toNat)
  case atStart => exact ⟨m, Nat.le_refl _, rfl, by simp, by simpa [P.lo8] using M.Row.made w _ _ m, (Below.refl _ _).alloc (Nat.le_refl _) _⟩
  case round =>
    obtain ⟨r, hr, hvi, rfl, hrow, hbw⟩ := hrel
    have hd := Nat.div_le_self N (256 ^ (m - r))
    cases r with
    | zero =>
      obtain rfl := hvi.trans (vint (show ((0 : Nat) : Int) - 1 = -1 by omega))
      have hrow' : M.Row wr w.heap.size 5 ((P.lo8 m N).map (Value.int .u8)) := by simpa using hrow
      have hconv := M.Row.conv (P := Try.prog) (cap := m) 37 9 Try.underlying37 Try.underlying5 Try.underlying9 hrow' (P.lo8_len m N)
      generalize hq2 : N / 256 ^ (m - 0) = q2 at *
      clear hrow hrow' hq2
      go_wp2
      go_ret
      exact ⟨rfl, hbw⟩
    | succ t =>
      obtain rfl := hvi.trans (vint (show ((t + 1 : Nat) : Int) - 1 = t by omega))
      have HS : Hid (N / 256 ^ (m - (t + 1)) / 256 = N / 256 ^ (m - t)) := by
        show _ = _
        rw [P.div_succ, show m - (t + 1) + 1 = m - t by omega]
      have HL : Hid (P.lo8 (m - t) N = ((N / 256 ^ (m - (t + 1)) % 256 : Nat) : Int) :: P.lo8 (m - (t + 1)) N) := by
        show _ = _
        rw [show m - t = (m - (t + 1)) + 1 by omega, P.lo8_succ]
      have hc : wr.cell? ⟨w.heap.size, t, none⟩ = some (.int .u8 0) := by
        rw [hrow.cell, List.getElem?_append_left (by simp), List.getElem?_replicate, if_pos (by omega)]
      have hf := hrow.free t
      have hset := fun x => hrow.set t x
      have hbs := fun x => hbw.setCell (p := ⟨w.heap.size, t, none⟩) (Nat.le_refl _) x
      have hand := B.and255 ((N / 256 ^ (m - (t + 1)) : Nat) : Int)
      generalize hq2 : N / 256 ^ (m - (t + 1)) = q2 at *
      clear hrow hbw hq2
      have HSet := Lib.hid hset
      have HBs := Lib.hid hbs
      clear hset hbs
      go_wp2
      go_roundw
      case rel =>
        refine ⟨t, by omega, by go_num, vint (by rw [← HS.out]; omega), ?_, HBs.out _⟩
        have := HSet.out (.int .u8 ((q2 % 256 : Nat) : Int))
        rw [M.set_rep] at this
        rw [HL.out]
        simpa using this
      case measure => simp [intOf]
theorem implEncodeFixed (n width : Int) (hn : n ≤ 9223372036854775807) (w : World) : Calls Try.prog 23 #[.int .i64 n, .int .i64 width] w fun e w' => e = .returned (.string (efS n width)) ∧ Below w.heap.size w w' := by
  cases hr : P.inR width 1 7 with
  | false =>
    have e0 : efS n width = ⟨#[]⟩ := by simp [efS, hr]
    rw [e0]
    clear e0 hn
    go_enter Try.func23, Try.ntmps23
    go_wp2_with (go_at_call 37; refine (within _ _ _ _).mono ?_; rintro e w' ⟨rfl, rfl⟩)
    go_ret
    exact ⟨rfl, Below.refl _ _⟩
  | true =>
    by_cases h0 : 0 ≤ n
    · have hb := P.inR_t hr
      obtain ⟨m, rfl⟩ : ∃ m : Nat, width = m := ⟨width.toNat, by omega⟩
      obtain ⟨N, rfl⟩ : ∃ N : Nat, n = N := ⟨n.toNat, by omega⟩
      by_cases hz : N / 256 ^ m = 0
      · have e0 : efS N m = strOfNums (P.lo8 m N) := by simp [efS, hr, hz]
        rw [e0]
        exact implEncodeFixed_y N m (by omega) (by omega) (by omega) hz w
      · have e0 : efS N m = ⟨#[]⟩ := by simp [efS, hr, hz]
        rw [e0]
        have hw := pow_wrap (m := m) (by omega)
        have hge0 : 256 ^ m ≤ N := by
          rcases Nat.lt_or_ge N (256 ^ m) with h | h
          · exact absurd (Nat.div_eq_of_lt h) hz
          · exact h
        generalize hq : 256 ^ m = q at *
        have hge : decide ((q : Int) ≤ (N : Int)) = true := by simp; omega
        clear hq hz e0
        go_enter Try.func23, Try.ntmps23
        go_wp2_with (go_at_call 37; refine (within _ _ _ _).mono ?_; rintro e w' ⟨rfl, rfl⟩)
        go_ret
        exact ⟨rfl, Below.refl _ _⟩
    · have e0 : efS n width = ⟨#[]⟩ := by simp [efS, h0]
      rw [e0]
      have hlt : n < 0 := by omega
      clear e0 hn h0
      go_enter Try.func23, Try.ntmps23
      go_wp2_with (go_at_call 37; refine (within _ _ _ _).mono ?_; rintro e w' ⟨rfl, rfl⟩)
      go_ret
      exact ⟨rfl, Below.refl _ _⟩
theorem FnExactEncodeFixed (n : Int) (hn : (Lit.int .i64 n).wf = true) (width : Int) (hc : (Lit.int .i64 width).wf = true) (w : World) : Calls Try.prog 8 #[.int .i64 n, .int .i64 width] w fun e w' => e = .returned (.bool true) ∧ Below w.heap.size w w' := by
  have hn' := (M.fit_wf hn).2
  clear hc hn
  go_enter Try.func8, Try.ntmps8
  go_wp2_with fail
  refine (specEncodeFixed _ _ hn' _).mono ?_
  rintro e w1 ⟨rfl, hb1⟩
  go_wp2_with fail
  refine (implEncodeFixed _ _ hn' _).mono ?_
  rintro e w2 ⟨rfl, hb2⟩
  go_wp2_with fail
  go_ret
  exact ⟨rfl, hb1.trans (hb2.mono hb1.size)⟩
end Go.Proofs.Ytapehlgafalkjaa.Wk
