/-
  Walks of chapter 3's draws: lists of pairs.
  Conditions: none beyond the bounds that each states.
-/
import Derived.Test.YtphbochfpidgeaaW81
import Derived.Test.YtphbochfpidgeaaU5
import Derived.Maps.AppendAt
namespace Go.Proofs.Ytphbochfpidgeaa.Wk
open Go.RowKit Go.Proofs.Ytphbochfpidgeaa.M
set_option linter.unusedVariables false
set_option linter.unusedSimpArgs false
attribute [local go_sem] cell_grow

theorem l1Once {p : Nat} {n : Int} (w : World) (h : Cur w p) (hn : 0 < n) (hf : n ≤ 4611686018427387904) : Calls Try.prog 65 #[.pointer (some ⟨p, 0, none⟩), .int .i64 n] w fun e w' => ∃ b : Bool, e = .returned (.bool b) ∧ Cur w' p ∧ Dr p w w' := by
  go_enter Try.func65, Try.ntmps65
  go_wp2_with fail
  refine (l1Below _ h hn hf).mono ?_
  rintro e w2 ⟨x, rfl, x0, x1, hC, hD⟩
  go_wp2
  go_ret
  exact ⟨_, rfl, hC, hD⟩
theorem info_p84 : (Try.prog.info? 74).map (fun i => (i.zero, i.size, i.bytes)) = some (some (.agg #[.int .i64 0, .int .i64 0]), 2, 16) := by kernel_rfl
/-- Pairs drawn, their row the call's own. -/
def DrPs (w : World) (p m : Nat) (e : Ending) (w' : World) : Prop := ∃ (v : Value) (l : List (Int × Int)), e = .returned v ∧ w'.ownsRow w.heap.size 74 2 v l.length (prc l) ∧ Hid (∀ q ∈ l, Fit q.1 ∧ Fit q.2) ∧ l.length ≤ m ∧ Cur w' p ∧ Dr p w w'
theorem fit_snoc {l : List (Int × Int)} {a b : Int} (h : Hid (∀ q ∈ l, Fit q.1 ∧ Fit q.2)) (ha : Fit a) (hb : Fit b) : Hid (∀ q ∈ l ++ [(a, b)], Fit q.1 ∧ Fit q.2) := by
  intro q hq
  rcases List.mem_append.1 hq with hq | hq
  · exact h.out q hq
  · simp at hq; subst hq; exact ⟨ha, hb⟩
set_option maxHeartbeats 1600000 in
set_option maxRecDepth 100000 in
theorem l3Pairs {p : Nat} (w : World) (h : Cur w p) : Calls Try.prog 75 #[.pointer (some ⟨p, 0, none⟩)] w (DrPs w p 4) := by
  obtain ⟨i0, hi, hz0, hz1, hz2⟩ := info_parts info_p84
  have hp := h.lt
  go_enter Try.func75, Try.ntmps75
  go_wp2_with fail
  refine (l1Below (n := 5) _ (h.alloc _) (by omega) (by omega)).mono ?_
  rintro e w2 ⟨k0, rfl, k00, k01, hC2, hD2⟩
  obtain ⟨kn, rfl⟩ := Int.eq_ofNat_of_zero_le k00
  have hO2 := own_dr_past (own_emptyS w 74 2) hD2 hp
  have hD02 := ((Dr.refl p w).alloc (.cells #[] 74)).trans hD2
  clear hD2
  go_wp2
  go_loopw [3, 4, 5, 6] (fun vo vn va vb wr => ∃ (k : Nat) (l : List (Int × Int)), k + l.length ≤ 4 ∧ vn = .int .i64 k ∧ Hid (∀ q ∈ l, Fit q.1 ∧ Fit q.2) ∧ wr.ownsRow w.heap.size 74 2 vo l.length (prc l) ∧ Cur wr p ∧ Dr p w wr) (fun _ vn _ _ _ => (intOf vn).toNat)
  case atStart => exact ⟨kn, [], by simp; omega, rfl, fun q hq => absurd hq (by simp), hO2, hC2, hD02⟩
  case round =>
    clear hO2 hC2 hD02
    obtain ⟨k, l, hk, rfl, HF, hown, hC, hD⟩ := hrel
    by_cases hlt : 0 < k
    · have q1 : (0 : Int) < (k : Int) := by omega
      go_wp2_with fail
      refine (l1Below (n := 4) _ hC (by omega) (by omega)).mono ?_
      rintro e w3 ⟨a, rfl, a0, a1, hC3, hD3⟩
      have hown3 := own_dr_past hown hD3 hp
      have hD03 := hD.trans hD3
      clear hown hC hD hD3
      go_wp2_with fail
      refine (l1Below (n := 3) _ hC3 (by omega) (by omega)).mono ?_
      rintro e w4 ⟨d, rfl, d0, d1, hC4, hD4⟩
      have hown4 := own_dr_past hown3 hD4 hp
      have hD04 := hD03.trans hD4
      clear hown3 hC3 hD03 hD4
      go_wp2_with fail
      refine (l1Once _ hC4 (by omega) (by omega)).mono ?_
      rintro e w5 ⟨t, rfl, hC5, hD5⟩
      have hown5 := own_dr_past hown4 hD5 hp
      have hD05 := hD04.trans hD5
      have hz5 := hD05.size
      clear hown4 hC4 hD04 hD5
      have h63 : l.length + 1 ≤ 100 := by omega
      cases t with
      | true =>
        have HF2 := fit_snoc HF (a := a + 1 + d) (b := a + 1 + d + 1) (by unfold Fit; omega) (by unfold Fit; omega)
        go_wp2_with (at_builtin; refine wpList_append_own_at _ rfl _ _ 31 rfl w.heap.size 74 i0 (.agg #[.int .i64 0, .int .i64 0]) 2 16 Try.underlying31 hi hz0 hz1 hz2 rfl (by decide) _ _ _ rfl (hown5.alloc _) ⟨w5.heap.size, 0, none⟩ 1 1 [_, _] rfl rfl (cell_two_new _ _ _ _) (by simp [Value.oneCell']) (by unfold maxLen; omega) (by omega) (by simp; omega) ?_)
        intro v' w6 hown6 hgrow _ hat
        have O6 : Hid (w6.ownsRow w.heap.size 74 2 v' (l ++ [(a + 1 + d, a + 1 + d + 1)]).length (prc (l ++ [(a + 1 + d, a + 1 + d + 1)]))) := by show World.ownsRow _ _ _ _ _ _ _; rw [prc_snoc, List.length_append]; exact hown6
        have C6 := Lib.hid ((hC5.alloc _).grown hgrow (fun q hq => by have := (hown5.lt q hq).1; omega))
        have D6 := Lib.hid ((hD05.alloc _).grown hgrow (fun q hq => (hown5.lt q hq).1))
        clear hown6 hgrow hown5 hC5 hD05 hat
        go_wp2
        go_roundw
        case rel => exact ⟨k - 1, l ++ [_], by simp; omega, by first | go_num | exact vint (by omega), HF2, O6.out, C6.out, D6.out⟩
        case measure => simp [intOf]; omega
      | false =>
        have HF2 := fit_snoc HF (a := a) (b := a + 1 + d) (by unfold Fit; omega) (by unfold Fit; omega)
        go_wp2_with (at_builtin; refine wpList_append_own_at _ rfl _ _ 31 rfl w.heap.size 74 i0 (.agg #[.int .i64 0, .int .i64 0]) 2 16 Try.underlying31 hi hz0 hz1 hz2 rfl (by decide) _ _ _ rfl (hown5.alloc _) ⟨w5.heap.size, 0, none⟩ 1 1 [_, _] rfl rfl (cell_two_new _ _ _ _) (by simp [Value.oneCell']) (by unfold maxLen; omega) (by omega) (by simp; omega) ?_)
        intro v' w6 hown6 hgrow _ hat
        have O6 : Hid (w6.ownsRow w.heap.size 74 2 v' (l ++ [(a, a + 1 + d)]).length (prc (l ++ [(a, a + 1 + d)]))) := by show World.ownsRow _ _ _ _ _ _ _; rw [prc_snoc, List.length_append]; exact hown6
        have C6 := Lib.hid ((hC5.alloc _).grown hgrow (fun q hq => by have := (hown5.lt q hq).1; omega))
        have D6 := Lib.hid ((hD05.alloc _).grown hgrow (fun q hq => (hown5.lt q hq).1))
        clear hown6 hgrow hown5 hC5 hD05 hat
        go_wp2
        go_roundw
        case rel => exact ⟨k - 1, l ++ [_], by simp; omega, by first | go_num | exact vint (by omega), HF2, O6.out, C6.out, D6.out⟩
        case measure => simp [intOf]; omega
    · have q1 : ¬ (0 : Int) < (k : Int) := by omega
      go_wp2
      go_ret
      exact ⟨_, l, rfl, hown, HF, by omega, hC, hD⟩
set_option maxHeartbeats 1600000 in
set_option maxRecDepth 100000 in
theorem l3Any {p : Nat} (w : World) (h : Cur w p) : Calls Try.prog 46 #[.pointer (some ⟨p, 0, none⟩)] w (DrPs w p 5) := by
  obtain ⟨i0, hi, hz0, hz1, hz2⟩ := info_parts info_p84
  have hp := h.lt
  go_enter Try.func46, Try.ntmps46
  go_wp2_with fail
  refine (l3Pairs _ h).mono ?_
  rintro e w2 ⟨v, l, rfl, hO2, HF, hl, hC2, hD2⟩
  go_wp2_with fail
  refine (l1Once _ hC2 (by omega) (by omega)).mono ?_
  rintro e w3 ⟨t, rfl, hC3, hD3⟩
  have hO3 := own_dr_past hO2 hD3 hp
  have hD03 := hD2.trans hD3
  clear hO2 hC2 hD2 hD3
  cases t with
  | false =>
    go_wp2
    go_ret
    exact ⟨v, l, rfl, hO3, HF, by omega, hC3, hD03⟩
  | true =>
    go_wp2_with fail
    refine (l1Below (n := 8) _ hC3 (by omega) (by omega)).mono ?_
    rintro e w4 ⟨a, rfl, a0, a1, hC4, hD4⟩
    have hO4 := own_dr_past hO3 hD4 hp
    have hD04 := hD03.trans hD4
    have hp4 := hC4.lt
    have hz4 := hD04.size
    clear hO3 hC3 hD03 hD4
    go_wp2_with fail
    refine (l1PickInt (n := 6) (c := 6) (xs := [0, 1, 9, 10, -1, a]) _ (hC4.alloc _) (Row.new w4 _ _) rfl (by omega) (by omega) (by omega) (by omega)).mono ?_
    rintro e w5 ⟨b, rfl, hb, hC5, hD5⟩
    have hfb : Fit b := by
      simp at hb
      unfold Fit
      omega
    have hown5 := own_dr_past (hO4.alloc _) hD5 hp
    have hD05 := (hD04.alloc _).trans hD5
    have hz5 := hD05.size
    have h63 : l.length + 1 ≤ 100 := by omega
    have HF2 := fit_snoc HF (a := a) (b := b) (by unfold Fit; omega) hfb
    clear hO4 hC4 hD04 hD5
    obtain ⟨A, c, rfl, _, _⟩ := own_form hown5
    go_wp2_with (at_builtin; refine wpList_append_own_at _ rfl _ _ 31 rfl w.heap.size 74 i0 (.agg #[.int .i64 0, .int .i64 0]) 2 16 Try.underlying31 hi hz0 hz1 hz2 rfl (by decide) _ _ _ rfl (hown5.alloc _) ⟨w5.heap.size, 0, none⟩ 1 1 [_, _] rfl rfl (cell_two_new _ _ _ _) (by simp [Value.oneCell']) (by unfold maxLen; omega) (by omega) (by simp; omega) ?_)
    intro v' w6 hown6 hgrow _ hat
    have O6 : Hid (w6.ownsRow w.heap.size 74 2 v' (l ++ [(a, b)]).length (prc (l ++ [(a, b)]))) := by show World.ownsRow _ _ _ _ _ _ _; rw [prc_snoc, List.length_append]; exact hown6
    have C6 := Lib.hid ((hC5.alloc _).grown hgrow (fun q hq => by have := (hown5.lt q hq).1; omega))
    have D6 := Lib.hid ((hD05.alloc _).grown hgrow (fun q hq => (hown5.lt q hq).1))
    clear hown6 hgrow hown5 hC5 hD05 hat
    go_wp2
    go_ret
    exact ⟨v', _, rfl, O6.out, HF2, by simp; omega, C6.out, D6.out⟩
section
variable {A : Option Addr} {n c : Nat} {bs : List UInt8}
end
end Go.Proofs.Ytphbochfpidgeaa.Wk
