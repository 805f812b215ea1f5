/-
  Walks of chapter 2's draws: items.
  Conditions: none beyond the bounds that each states.
-/
import Derived.Test.YtpnbpjgnehcdbaaW86
import Derived.Laws.OwnMore
namespace Go.Proofs.Ytpnbpjgnehcdbaa.Wk
open Go.RowKit Go.Proofs.Ytpnbpjgnehcdbaa.M
set_option linter.unusedVariables false
set_option linter.unusedSimpArgs false
attribute [local go_sem] cell_grow

/-- An item drawn, its row the call's own. -/
def DrIt (w : World) (p m : Nat) (e : Ending) (w' : World) : Prop := ∃ (x : It) (A : Option Addr) (c : Nat), e = .returned (.agg #[.int .i64 x.id, .slice A x.vals.length c]) ∧ w'.ownsRow w.heap.size 3 1 (.slice A x.vals.length c) x.vals.length (x.vals.map (Value.int .i64)) ∧ Hid (Fit x.id ∧ ∀ y ∈ x.vals, Fit y) ∧ (3 ≤ x.vals.length ∧ x.vals.length ≤ m) ∧ Cur w' p ∧ Dr p w w'
set_option maxHeartbeats 3000000 in
set_option maxRecDepth 100000 in
theorem l2Item {p : Nat} {id wide : Int} (w : World) (h : Cur w p) (hid : Fit id) (hw0 : 0 < wide) (hw1 : wide ≤ 256) : Calls Try.prog 38 #[.pointer (some ⟨p, 0, none⟩), .int .i64 id, .int .i64 wide] w (DrIt w p 3) := by
  obtain ⟨i0, hi, hz0, hz1, hz2⟩ := info_parts info_i86
  have hp := h.lt
  have hpn : w.heap.size ≠ p := by omega
  have hn1 : w.heap.size + 1 ≠ p := by omega
  have hn4 : w.heap.size ≠ w.heap.size + 1 := by omega
  have hpG : p < w.heap.size + 1 := by omega
  have hwG : w.heap.size ≤ w.heap.size + 1 := by omega
  have R0 := (Row.new w 36 [.int .i64 0, .slice none 0 0]).alloc (.cells #[.int .i64 0, .slice none 0 0] 36)
  have G0 := Row.new (w.alloc (.cells #[.int .i64 0, .slice none 0 0] 36)) 36 [.int .i64 0, .slice none 0 0]
  have G00 := Row.new (w.alloc (.cells #[.int .i64 0, .slice none 0 0] 36)) 36 [.int .i64 id, .slice none 0 0]
  have R00 := (Row.new w 36 [.int .i64 0, .slice none 0 0]).alloc (.cells #[.int .i64 id, .slice none 0 0] 36)
  have sz : (w.alloc (.cells #[.int .i64 0, .slice none 0 0] 36)).heap.size = w.heap.size + 1 := by simp
  rw [sz] at G0 G00
  clear sz
  have z0 : ((w.alloc (.cells #[.int .i64 0, .slice none 0 0] 36)).alloc (.cells #[.int .i64 0, .slice none 0 0] 36)).cell? ⟨w.heap.size + 1, 0, none⟩ = some (.int .i64 0) := G0.cell 0
  have fz0 := G0.free 0
  have z1 : ((w.alloc (.cells #[.int .i64 0, .slice none 0 0] 36)).alloc (.cells #[.int .i64 0, .slice none 0 0] 36)).cell? ⟨w.heap.size + 1, 1, none⟩ = some (.slice none 0 0) := G0.cell 1
  have fz1 := G0.free 1
  have lG0 := G0.lt
  have D0 := ((Dr.refl p w).alloc (.cells #[.int .i64 0, .slice none 0 0] 36))
  have D00 := D0.alloc (.cells #[.int .i64 id, .slice none 0 0] 36)
  have C00 := (h.alloc (.cells #[.int .i64 0, .slice none 0 0] 36)).alloc (.cells #[.int .i64 id, .slice none 0 0] 36)
  go_enter Try.func38, Try.ntmps38
  go_wp2
  go_loopw [8, 9] (fun vi vv wr => ∃ (k : Nat) (xs : List Int) (A : Option Addr) (c : Nat), k ≤ 3 ∧ vi = .int .i64 k ∧ xs.length = k ∧ Hid (∀ y ∈ xs, Fit y) ∧ wr.ownsRow (w.heap.size + 2) 3 1 (.slice A xs.length c) xs.length (xs.map (Value.int .i64)) ∧ Row wr w.heap.size 36 [.int .i64 0, .slice none 0 0] ∧ Row wr (w.heap.size + 1) 36 [.int .i64 id, .slice A xs.length c] ∧ Cur wr p ∧ Dr p w wr) (fun vi _ _ => 3 - (intOf vi).toNat)
  case atStart => exact ⟨0, [], none, 0, Nat.zero_le _, rfl, rfl, fun y hy => absurd hy (by simp), World.ownsRow_nil _ _ _ _, R00, G00, C00, D00⟩
  case round =>
    clear R0 G0 G00 R00 D0 D00 C00 z0 fz0 z1 fz1 lG0
    obtain ⟨k, xs, A, c, hk, rfl, hxk, HF, hown, hR, hG, hC, hD⟩ := hrel
    subst hxk
    obtain ⟨k, hkk⟩ : ∃ k, Hid (k = xs.length) := ⟨_, rfl⟩
    have hlr := hR.lt
    have hlg := hG.lt
    by_cases hlt : xs.length < 3
    · have q1 : (xs.length : Int) < 3 := by omega
      go_wp2_with fail
      refine (l1Below _ hC hw0 (by omega)).mono ?_
      rintro e w4 ⟨v, rfl, v0, v1, hC4, hD4⟩
      have R4 := hR.dr hD4 hpn
      have G4 := hG.dr hD4 hn1
      have D4 := hD.trans hD4
      have O4 := own_dr_past hown hD4 (by omega)
      have hl4 := R4.lt
      have hg4 := G4.lt
      have g1 : w4.cell? ⟨w.heap.size + 1, 1, none⟩ = some (.slice A xs.length c) := G4.cell 1
      have hrow : ∀ q, (Value.slice A xs.length c).ownBlock = some q → w.heap.size + 2 ≤ q := fun q hq => (O4.lt q hq).1
      have h63 : xs.length + 1 ≤ 100 := by omega
      have HR := Lib.hid R4
      have HG := Lib.hid G4
      have HC := Lib.hid hC4
      have HD := Lib.hid D4
      clear hR hG hC hD R4 G4 hC4 D4 hD4 hown
      go_wp2_with (at_builtin; refine wpList_append_own _ rfl _ _ 24 rfl (w.heap.size + 2) 3 i0 (.int .i64 0) 1 8 Try.underlying24 hi hz0 hz1 hz2 rfl (by decide) _ _ _ rfl (O4.alloc _) ⟨w4.heap.size, 0, none⟩ 1 1 [_] rfl rfl (one_new _ _ _) (by simp [Value.oneCell']) (by unfold maxLen; omega) (by omega) (by simp; omega) ?_)
      intro v' w6 hown6 hgrow _
      obtain ⟨A6, c6, rfl, _, _⟩ := own_form hown6
      obtain ⟨ys, hys⟩ : ∃ ys, ys = xs ++ [v] := ⟨_, rfl⟩
      have hlen : xs.length + 1 = ys.length := by rw [hys]; simp
      have emap : ys.map (Value.int .i64) = xs.map (Value.int .i64) ++ [.int .i64 v] := by rw [hys]; simp
      rw [← emap] at hown6
      rw [hlen] at hown6 ⊢
      have hyk : Hid (ys.length = xs.length + 1) := by show _ = _; omega
      have HF2 : Hid (∀ y ∈ ys, Fit y) := fun y hy => by
        have hy : y ∈ ys := hy
        rw [hys] at hy
        rcases List.mem_append.1 hy with hy | hy
        · exact HF.out y hy
        · simp at hy; subst hy; unfold Fit; omega
      have R6 := (HR.out.alloc (.cells #[.int .i64 v] 3)).grown hgrow (fun e => by have := hrow _ e.symm; omega)
      have G6 := (HG.out.alloc (.cells #[.int .i64 v] 3)).grown hgrow (fun e => by have := hrow _ e.symm; omega)
      have C6 := (HC.out.alloc (.cells #[.int .i64 v] 3)).grown hgrow (fun q hq => by have := hrow q hq; omega)
      have D6 := (HD.out.alloc (.cells #[.int .i64 v] 3)).grown hgrow (fun q hq => by have := hrow q hq; omega)
      have gf1 := G6.free 1
      have gc1 : w6.cell? ⟨w.heap.size + 1, 1, none⟩ = some (.slice A xs.length c) := G6.cell 1
      have hlg6 := G6.lt
      have R7 := Lib.hid (R6.far (p := ⟨w.heap.size + 1, 1, none⟩) hn4 (.slice A6 ys.length c6))
      have G7 : Hid (Row (w6.setCell ⟨w.heap.size + 1, 1, none⟩ (.slice A6 ys.length c6)) (w.heap.size + 1) 36 [.int .i64 id, .slice A6 ys.length c6]) := G6.set 1 (.slice A6 ys.length c6)
      have C7 := Lib.hid (C6.set (a := ⟨w.heap.size + 1, 1, none⟩) hpG (.slice A6 ys.length c6))
      have D7 := Lib.hid (D6.new (a := ⟨w.heap.size + 1, 1, none⟩) hwG (.slice A6 ys.length c6))
      have O7 := Lib.hid (ownsRow_setCell_below hown6 (a := ⟨w.heap.size + 1, 1, none⟩) (Nat.lt_succ_self _) (.slice A6 ys.length c6))
      clear hown6 hgrow O4 R6 G6 C6 D6 g1 HR HG HC HD hlen emap hys
      go_wp2
      go_roundw
      case rel => exact ⟨xs.length + 1, ys, A6, c6, by omega, by go_num, hyk.out, HF2, O7.out, R7.out, G7.out, C7.out, D7.out⟩
      case measure => simp [intOf]; omega
    · have q1 : ¬ (xs.length : Int) < 3 := by omega
      have HFI : Hid (Fit id ∧ ∀ y ∈ xs, Fit y) := ⟨hid, HF.out⟩
      have O9 : wr.ownsRow (w.heap.size + 1) 3 1 (.slice A xs.length c) xs.length (xs.map (Value.int .i64)) := own_mono hown (by omega)
      have hlw : w.heap.size < w.heap.size + 1 := Nat.lt_succ_self _
      have hnl : 3 ≤ xs.length ∧ xs.length ≤ 3 := by omega
      have a0 : (wr).cell? ⟨w.heap.size, 0, none⟩ = some (.int .i64 0) := hR.cell 0
      have fa0 := hR.free 0
      have a1 : (wr).cell? ⟨w.heap.size, 1, none⟩ = some (.slice none 0 0) := hR.cell 1
      have fa1 := hR.free 1
      have g0 : (wr).cell? ⟨w.heap.size + 1, 0, none⟩ = some (.int .i64 id) := hG.cell 0
      have fg0 := hG.free 0
      have g1 : (wr).cell? ⟨w.heap.size + 1, 1, none⟩ = some (.slice A xs.length c) := hG.cell 1
      have fg1 := hG.free 1
      clear hR hG hown
      go_wp2
      refine bodyPost_ret (v := .agg #[.int .i64 id, .slice A xs.length c]) (by simp [results, Try.results38, go_sem, *]) rfl ?_
      refine ⟨⟨id, xs⟩, A, c, rfl, own_mono (b' := w.heap.size) (by repeat (first | with_reducible exact O9 | with_reducible refine World.ownsRow.alloc ?_ _ | with_reducible refine ownsRow_setCell_below ?_ (by first | assumption | (simp; omega)) _ | with_reducible refine ownsRow_setCell_other ?_ (by first | assumption | (simp; omega)) _)) (Nat.le_succ _), HFI, hnl, ?_, ?_⟩
      · repeat (first | with_reducible exact hC | with_reducible refine Cur.alloc ?_ _ | with_reducible refine Cur.set ?_ (by first | assumption | (simp; omega)) _)
      · repeat (first | with_reducible exact hD | with_reducible refine Dr.alloc ?_ _ | with_reducible refine Dr.new ?_ (by first | exact Nat.le_refl _ | assumption | (simp; omega)) _)
set_option maxHeartbeats 3000000 in
set_option maxRecDepth 100000 in
theorem l2AnyItem {p : Nat} (w : World) (h : Cur w p) : Calls Try.prog 28 #[.pointer (some ⟨p, 0, none⟩)] w (DrIt w p 5) := by
  obtain ⟨i0, hi, hz0, hz1, hz2⟩ := info_parts info_i86
  have hp := h.lt
  have hpn : w.heap.size ≠ p := by omega
  have R0 := Row.new w 36 [.int .i64 0, .slice none 0 0]
  have D0 := (Dr.refl p w).alloc (.cells #[.int .i64 0, .slice none 0 0] 36)
  go_enter Try.func28, Try.ntmps28
  go_wp2_with fail
  refine (l1Below (n := 6) _ (h.alloc _) (by omega) (by omega)).mono ?_
  rintro e w2 ⟨y, rfl, y0, y1, hC2, hD2⟩
  have R2 := R0.dr hD2 hpn
  have D2 := D0.trans hD2
  have hl2 := R2.lt
  clear R0 D0 hD2
  go_wp2_with fail
  refine (l2Item (wide := 10) _ hC2 (by unfold Fit; omega) (by omega) (by omega)).mono ?_
  rintro e w3 ⟨x, A, c, rfl, hU, HFX, hnl3, hC3, hD3⟩
  have hnl : 3 ≤ x.vals.length ∧ x.vals.length ≤ 5 := by omega
  have R3 := R2.dr hD3 hpn
  have D3 := D2.trans hD3
  have hl3 := R3.lt
  have hU : w3.ownsRow (w.heap.size + 1) 3 1 (.slice A x.vals.length c) x.vals.length (x.vals.map (Value.int .i64)) := own_mono hU (by omega)
  have hU2 : ∀ q, (Value.slice A x.vals.length c).ownBlock = some q → w.heap.size + 1 ≤ q ∧ q < w3.heap.size := fun q hq => hU.lt q hq
  have hp2 : p < w3.heap.size := by omega
  have hw2 : w.heap.size ≤ w3.heap.size := by omega
  have hn2 : w3.heap.size ≠ p := by omega
  have hn4 : w.heap.size ≠ w3.heap.size := by omega
  have hn5 : w3.heap.size ≠ w.heap.size := by omega
  have hlw : w.heap.size < w.heap.size + 1 := Nat.lt_succ_self _
  clear R2 D2 hD3 hC2
  go_wp2_with fail
  refine (l1Below (n := 8) _ (hC3.alloc _) (by omega) (by omega)).mono ?_
  rintro e w4 ⟨k, rfl, k0, k1, hC4, hD4⟩
  have R3 := (R3.alloc _).dr hD4 hpn
  have G3 := (Row.new w3 36 [.int .i64 x.id, .slice A x.vals.length c]).dr hD4 hn2
  have O3 := own_dr_past (hU.alloc (.cells #[.int .i64 x.id, .slice A x.vals.length c] 36)) hD4 (by omega)
  have D3 := (D3.alloc _).trans hD4
  have hC3 := hC4
  have hp3 := hC4.lt
  have hl3 := R3.lt
  have hg3 := G3.lt
  clear hD4 hU hC4
  by_cases e0 : k = 0
  · have t0 : (k == 0) = true := by simp [e0]
    clear e0
    go_wp2_with fail
    refine (l1PickInt (n := 3) (c := 3) (xs := [-1, 99, 100]) _ (hC3.alloc _) (Row.new w4 _ _) rfl (by omega) (by omega) (by omega) (by omega)).mono ?_
    rintro e w5 ⟨v, rfl, hv, hC4, hD4⟩
    have hfv : Fit v := by
      simp at hv
      unfold Fit
      omega
    have R4 := (R3.alloc _).dr hD4 hpn
    have G4 := (G3.alloc _).dr hD4 hn2
    have O4 := own_dr_past (O3.alloc _) hD4 (by omega)
    have D4 := (D3.alloc _).trans hD4
    have NU : (Value.slice A x.vals.length c).ownBlock ≠ some w3.heap.size := fun e => by have := hU2 _ e; omega
    clear hD4
    have G5 : Row (w5.setCell ⟨w3.heap.size, 0, none⟩ (.int .i64 v)) w3.heap.size 36 [.int .i64 v, .slice A x.vals.length c] := G4.set 0 (.int .i64 v)
    have R5 := R4.far (p := ⟨w3.heap.size, 0, none⟩) hn4 (.int .i64 v)
    have hl4 := R4.lt
    have hg4 := G4.lt
    have FX : Hid (Fit v ∧ ∀ y ∈ x.vals, Fit y) := ⟨hfv, HFX.out.2⟩
    have a0 : (w5).cell? ⟨w.heap.size, 0, none⟩ = some (.int .i64 0) := R4.cell 0
    have fa0 := R4.free 0
    have a1 : (w5).cell? ⟨w.heap.size, 1, none⟩ = some (.slice none 0 0) := R4.cell 1
    have fa1 := R4.free 1
    have g0 : (w5).cell? ⟨w3.heap.size, 0, none⟩ = some (.int .i64 x.id) := G4.cell 0
    have fg0 := G4.free 0
    have g1 : (w5).cell? ⟨w3.heap.size, 1, none⟩ = some (.slice A x.vals.length c) := G4.cell 1
    have fg1 := G4.free 1
    have b0 : ((w5.setCell ⟨w3.heap.size, 0, none⟩ (.int .i64 v))).cell? ⟨w.heap.size, 0, none⟩ = some (.int .i64 0) := R5.cell 0
    have fb0 := R5.free 0
    have b1 : ((w5.setCell ⟨w3.heap.size, 0, none⟩ (.int .i64 v))).cell? ⟨w.heap.size, 1, none⟩ = some (.slice none 0 0) := R5.cell 1
    have fb1 := R5.free 1
    have j0 : ((w5.setCell ⟨w3.heap.size, 0, none⟩ (.int .i64 v))).cell? ⟨w3.heap.size, 0, none⟩ = some (.int .i64 v) := G5.cell 0
    have fj0 := G5.free 0
    have j1 : ((w5.setCell ⟨w3.heap.size, 0, none⟩ (.int .i64 v))).cell? ⟨w3.heap.size, 1, none⟩ = some (.slice A x.vals.length c) := G5.cell 1
    have fj1 := G5.free 1
    clear R4 G4 G5 R5 R3 G3 D3 hC3 O3
    go_wp2
    refine bodyPost_ret (v := .agg #[.int .i64 v, .slice A x.vals.length c]) (by simp [results, Try.results28, go_sem, *]) rfl ?_
    refine ⟨⟨v, x.vals⟩, A, c, rfl, own_mono (b' := w.heap.size) (by repeat (first | with_reducible exact O4 | with_reducible refine World.ownsRow.alloc ?_ _ | with_reducible refine ownsRow_setCell_below ?_ (by first | assumption | (simp; omega)) _ | with_reducible refine ownsRow_setCell_other ?_ (by first | assumption | (simp; omega)) _)) (Nat.le_succ _), FX, hnl, ?_, ?_⟩
    · repeat (first | with_reducible exact hC4 | with_reducible refine Cur.alloc ?_ _ | with_reducible refine Cur.set ?_ (by first | assumption | (simp; omega)) _)
    · repeat (first | with_reducible exact D4 | with_reducible refine Dr.alloc ?_ _ | with_reducible refine Dr.new ?_ (by first | exact Nat.le_refl _ | assumption | (simp; omega)) _)
  have t0 : (k == 0) = false := by simp [e0]
  by_cases e1 : k = 1
  · have t1 : (k == 1) = true := by simp [e1]
    clear e0 e1
    obtain ⟨gg, cap, cs, hAe, hgb, hgc, hgm, hgR, hgl⟩ := own_row O3 (by omega)
    injection hAe with hA1 _ hA3
    subst hA1 hA3
    have g1 : w4.drew.cell? ⟨w3.heap.size, 1, none⟩ = some (.slice (some ⟨gg, 0, none⟩) x.vals.length c) := G3.cell 1
    have bd : Below w4.heap.size w4 w4.drew := (Below.refl _ _).drew
    have hC3d := hC3.drew
    have zd : w4.heap.size ≤ w4.drew.heap.size := Nat.le_refl _
    have q5 : (0 : Int) < (x.vals.length : Int) := by omega
    have q6 : (x.vals.length : Int) ≤ (c : Int) := by omega
    have hgg := hU2 gg rfl
    go_wp2_with fail
    refine wp_region_T 5 (fun w' => w'.cell? ⟨w3.heap.size, 1, none⟩ = some (.slice (some ⟨gg, 0, none⟩) x.vals.length c)) (by kernel_rfl) g1 (fun hC => ?_)
    refine wpAnyT_take (i := 0) (v := ?v9_0) rfl (by kernel_rfl) (fun _ _ _ h => h) (Or.inl ⟨by rfl, ?h9_0⟩) (by assumption) ?r9_0; (case h9_0 => (intro w9 hC9; (try dsimp only at hC9); go_simp; (try with_reducible rfl))); (try simp only [Act.put, List.setIfInBounds_toArray, List.set_cons_zero, List.set_cons_succ])
    refine wpAnyT_take (i := 1) (v := ?v9_1) rfl (by kernel_rfl) (fun _ _ _ h => h) (Or.inl ⟨by rfl, ?h9_1⟩) (by assumption) ?r9_1; (case h9_1 => (intro w9 hC9; (try dsimp only at hC9); go_simp; (try with_reducible rfl))); (try simp only [Act.put, List.setIfInBounds_toArray, List.set_cons_zero, List.set_cons_succ])
    refine wpAnyT_take (i := 2) (v := ?v9_2) rfl (by kernel_rfl) (fun _ _ _ h => h) (Or.inl ⟨by rfl, ?h9_2⟩) (by assumption) ?r9_2; (case h9_2 => (intro w9 hC9; (try dsimp only at hC9); go_simp; (try with_reducible rfl))); (try simp only [Act.put, List.setIfInBounds_toArray, List.set_cons_zero, List.set_cons_succ])
    refine wpAnyT_rest 3 (by kernel_rfl) ?_; simp only [List.drop_succ_cons, List.drop_zero]
    refine wpListT_step rfl ?_
    go_wp2
    refine ⟨fun _ => cel86 g1 _, ?_⟩
    refine wpListT_step rfl ?_
    go_wp2_with fail
    refine (l1PickInt (n := 3) (c := 3) (xs := [-1, 9, 10]) _ (hC3d.alloc _) (Row.new w4.drew _ _) rfl (by omega) (by omega) (by omega) (by omega)).mono ?_
    rintro e w5 ⟨v, rfl, hv, hC5, hD5⟩
    have hfv : Fit v := by
      simp at hv
      unfold Fit
      omega
    have R5 := ((R3.below bd hl3).alloc _).dr hD5 hpn
    have G5 := ((G3.below bd hg3).alloc _).dr hD5 hn2
    have O5 := own_dr_past ((own_below O3 bd).alloc _) hD5 (by omega)
    have D5 := ((D3.trans (Dr.of_below bd (Nat.le_refl _))).alloc _).trans hD5
    have g5 : w5.cell? ⟨w3.heap.size, 1, none⟩ = some (.slice (some ⟨gg, 0, none⟩) x.vals.length c) := G5.cell 1
    clear R3 G3 D3 hD5 hC3 g1 hC hC3d bd
    go_wp2
    refine ⟨fun _ => g5, ?_⟩
    refine wpListT_end (by decide) rfl ?_
    have fr0 := O5.frozenAt 0
    have hl0 := (O5.lt gg rfl).2
    obtain ⟨y, hy⟩ : ∃ y, x.vals[0]? = some y := ⟨x.vals[0]'(by omega), List.getElem?_eq_getElem (by omega)⟩
    have ce0 : w5.cell? ⟨gg, 0, none⟩ = some (.int .i64 y) := by
      have := O5.cells rfl 0 (.int .i64 y) (by rw [List.getElem?_map, hy]; rfl)
      simpa [Addr.add] using this
    have R6 := R5.far (p := ⟨gg, 0, none⟩) (by show w.heap.size ≠ gg; omega) (.int .i64 v)
    have G6 := G5.far (p := ⟨gg, 0, none⟩) (by show w3.heap.size ≠ gg; omega) (.int .i64 v)
    obtain ⟨ys, hys⟩ : ∃ ys, ys = x.vals.set 0 v := ⟨_, rfl⟩
    have hlen : x.vals.length = ys.length := by rw [hys]; simp
    have O6 : Hid ((w5.setCell ⟨gg, 0, none⟩ (.int .i64 v)).ownsRow (w.heap.size + 1) 3 1 (.slice (some ⟨gg, 0, none⟩) ys.length c) ys.length (ys.map (Value.int .i64))) := by
      have := (O5.stored 0 (.int .i64 v)).1
      show World.ownsRow _ _ _ _ _ _ _
      rw [← hlen, hys, List.map_set]
      exact this
    have FX : Hid (Fit x.id ∧ ∀ y ∈ ys, Fit y) := by
      refine ⟨HFX.out.1, fun z hz => ?_⟩
      have hz : z ∈ ys := hz
      rw [hys] at hz
      rcases List.mem_or_eq_of_mem_set hz with hz | hz
      · exact HFX.out.2 z hz
      · rw [hz]; exact hfv
    rw [hlen] at q5 q6 G5 G6 g5 hnl ⊢
    have NU : (Value.slice (some ⟨gg, 0, none⟩) ys.length c).ownBlock ≠ some w3.heap.size := fun e => by have := hU2 gg rfl; simp [Value.ownBlock] at e; omega
    have hpg : p < gg := by omega
    have hwg : w.heap.size ≤ gg := by omega
    have ng1 : gg ≠ w.heap.size := by omega
    have ng2 : gg ≠ w3.heap.size := by omega
    have hl5 := R5.lt
    have hg5 := G5.lt
    have a0 : (w5).cell? ⟨w.heap.size, 0, none⟩ = some (.int .i64 0) := R5.cell 0
    have fa0 := R5.free 0
    have a1 : (w5).cell? ⟨w.heap.size, 1, none⟩ = some (.slice none 0 0) := R5.cell 1
    have fa1 := R5.free 1
    have g0 : (w5).cell? ⟨w3.heap.size, 0, none⟩ = some (.int .i64 x.id) := G5.cell 0
    have fg0 := G5.free 0
    have g1 : (w5).cell? ⟨w3.heap.size, 1, none⟩ = some (.slice (some ⟨gg, 0, none⟩) ys.length c) := G5.cell 1
    have fg1 := G5.free 1
    have b0 : (w5.setCell ⟨gg, 0, none⟩ (.int .i64 v)).cell? ⟨w.heap.size, 0, none⟩ = some (.int .i64 0) := R6.cell 0
    have fb0 := R6.free 0
    have b1 : (w5.setCell ⟨gg, 0, none⟩ (.int .i64 v)).cell? ⟨w.heap.size, 1, none⟩ = some (.slice none 0 0) := R6.cell 1
    have fb1 := R6.free 1
    have j0 : (w5.setCell ⟨gg, 0, none⟩ (.int .i64 v)).cell? ⟨w3.heap.size, 0, none⟩ = some (.int .i64 x.id) := G6.cell 0
    have fj0 := G6.free 0
    have j1 : (w5.setCell ⟨gg, 0, none⟩ (.int .i64 v)).cell? ⟨w3.heap.size, 1, none⟩ = some (.slice (some ⟨gg, 0, none⟩) ys.length c) := G6.cell 1
    have fj1 := G6.free 1
    clear R5 G5 R6 G6 O3 O5 hlen hys hy hgb hgc hgm hgR hgl hU2
    go_wp2
    refine bodyPost_ret (v := .agg #[.int .i64 x.id, .slice (some ⟨gg, 0, none⟩) ys.length c]) (by simp [results, Try.results28, go_sem, *]) rfl ?_
    refine ⟨⟨x.id, ys⟩, some ⟨gg, 0, none⟩, c, rfl, own_mono (b' := w.heap.size) (by repeat (first | with_reducible exact O6.out | with_reducible refine World.ownsRow.alloc ?_ _ | with_reducible refine ownsRow_setCell_below ?_ (by first | assumption | (simp; omega)) _ | with_reducible refine ownsRow_setCell_other ?_ (by first | assumption | (simp; omega)) _)) (Nat.le_succ _), FX, hnl, ?_, ?_⟩
    · repeat (first | with_reducible exact hC5 | with_reducible refine Cur.alloc ?_ _ | with_reducible refine Cur.set ?_ (by first | assumption | (simp; omega)) _)
    · repeat (first | with_reducible exact D5 | with_reducible refine Dr.alloc ?_ _ | with_reducible refine Dr.new ?_ (by first | exact Nat.le_refl _ | assumption | (simp; omega)) _)
  have t1 : (k == 1) = false := by simp [e1]
  by_cases e2 : k = 2
  · have t2 : (k == 2) = true := by simp [e2]
    clear e0 e1 e2
    have gx1 : w4.cell? ⟨w3.heap.size, 1, none⟩ = some (.slice A x.vals.length c) := G3.cell 1
    have hrow : ∀ q, (Value.slice A x.vals.length c).ownBlock = some q → w.heap.size + 1 ≤ q := fun q hq => (hU2 q hq).1
    have h63 : x.vals.length + 1 ≤ 100 := by omega
    have HR := Lib.hid R3
    have HG := Lib.hid G3
    have HC := Lib.hid hC3
    have HD := Lib.hid D3
    have hz4 := D3.size
    clear R3 G3 hC3 D3
    go_wp2_with (at_builtin; refine wpList_append_own_at _ rfl _ _ 24 rfl (w.heap.size + 1) 3 i0 (.int .i64 0) 1 8 Try.underlying24 hi hz0 hz1 hz2 rfl (by decide) _ _ _ rfl (O3.alloc _) ⟨w4.heap.size, 0, none⟩ 1 1 [_] rfl rfl (one_new _ _ _) (by simp [Value.oneCell']) (by unfold maxLen; omega) (by omega) (by simp; omega) ?_)
    intro v' w9 hown9 hgrow _ hat
    obtain ⟨A9, c9, rfl, _, _⟩ := own_form hown9
    obtain ⟨ys, hys⟩ : ∃ ys, ys = x.vals ++ [1] := ⟨_, rfl⟩
    have hlen : x.vals.length + 1 = ys.length := by rw [hys]; simp
    have emap : ys.map (Value.int .i64) = x.vals.map (Value.int .i64) ++ [.int .i64 1] := by rw [hys]; simp
    rw [← emap] at hown9
    rw [hlen] at hown9 hat ⊢
    have hy5 : 3 ≤ ys.length ∧ ys.length ≤ 5 := by omega
    have HXS := Lib.hid hys
    clear hlen emap hys
    have NU : (Value.slice A9 ys.length c9).ownBlock ≠ some w3.heap.size := fun e => by
      rcases hat with hat | hat
      · have := hU2 _ (hat.symm.trans e); omega
      · rw [hat] at e; injection e with e; first | omega | (simp at e; omega)
    have R9 := (HR.out.alloc (.cells #[.int .i64 1] 3)).grown hgrow (fun e => by have := hrow _ e.symm; omega)
    have G9 := (HG.out.alloc (.cells #[.int .i64 1] 3)).grown hgrow (fun e => by have := hU2 _ e.symm; omega)
    have C9 := (HC.out.alloc (.cells #[.int .i64 1] 3)).grown hgrow (fun q hq => by have := hrow q hq; omega)
    have D9 := (HD.out.alloc (.cells #[.int .i64 1] 3)).grown hgrow (fun q hq => by have := hrow q hq; omega)
    have O9 := hown9
    have G5 : Row (w9.setCell ⟨w3.heap.size, 1, none⟩ (.slice A9 ys.length c9)) w3.heap.size 36 [.int .i64 x.id, .slice A9 ys.length c9] := G9.set 1 (.slice A9 ys.length c9)
    have R5 := R9.far (p := ⟨w3.heap.size, 1, none⟩) hn4 (.slice A9 ys.length c9)
    have hl9 := R9.lt
    have hg9 := G9.lt
    have FX : Hid (Fit x.id ∧ ∀ y ∈ ys, Fit y) := by
      refine ⟨HFX.out.1, fun y hy => ?_⟩
      have hy : y ∈ ys := hy
      rw [HXS.out] at hy
      rcases List.mem_append.1 hy with hy | hy
      · exact HFX.out.2 y hy
      · simp at hy; subst hy; unfold Fit; omega
    have a0 : (w9).cell? ⟨w.heap.size, 0, none⟩ = some (.int .i64 0) := R9.cell 0
    have fa0 := R9.free 0
    have a1 : (w9).cell? ⟨w.heap.size, 1, none⟩ = some (.slice none 0 0) := R9.cell 1
    have fa1 := R9.free 1
    have g0 : (w9).cell? ⟨w3.heap.size, 0, none⟩ = some (.int .i64 x.id) := G9.cell 0
    have fg0 := G9.free 0
    have g1 : (w9).cell? ⟨w3.heap.size, 1, none⟩ = some (.slice A x.vals.length c) := G9.cell 1
    have fg1 := G9.free 1
    have b0 : (w9.setCell ⟨w3.heap.size, 1, none⟩ (.slice A9 ys.length c9)).cell? ⟨w.heap.size, 0, none⟩ = some (.int .i64 0) := R5.cell 0
    have fb0 := R5.free 0
    have b1 : (w9.setCell ⟨w3.heap.size, 1, none⟩ (.slice A9 ys.length c9)).cell? ⟨w.heap.size, 1, none⟩ = some (.slice none 0 0) := R5.cell 1
    have fb1 := R5.free 1
    have j0 : (w9.setCell ⟨w3.heap.size, 1, none⟩ (.slice A9 ys.length c9)).cell? ⟨w3.heap.size, 0, none⟩ = some (.int .i64 x.id) := G5.cell 0
    have fj0 := G5.free 0
    have j1 : (w9.setCell ⟨w3.heap.size, 1, none⟩ (.slice A9 ys.length c9)).cell? ⟨w3.heap.size, 1, none⟩ = some (.slice A9 ys.length c9) := G5.cell 1
    have fj1 := G5.free 1
    clear HR HG HC HD R9 G9 R5 G5 hown9 hgrow O3 hat gx1
    go_wp2
    refine bodyPost_ret (v := .agg #[.int .i64 x.id, .slice A9 ys.length c9]) (by simp [results, Try.results28, go_sem, *]) rfl ?_
    refine ⟨⟨x.id, ys⟩, A9, c9, rfl, own_mono (b' := w.heap.size) (by repeat (first | with_reducible exact O9 | with_reducible refine World.ownsRow.alloc ?_ _ | with_reducible refine ownsRow_setCell_below ?_ (by first | assumption | (simp; omega)) _ | with_reducible refine ownsRow_setCell_other ?_ (by first | assumption | (simp; omega)) _)) (Nat.le_succ _), FX, hy5, ?_, ?_⟩
    · repeat (first | with_reducible exact C9 | with_reducible refine Cur.alloc ?_ _ | with_reducible refine Cur.set ?_ (by first | assumption | (simp; omega)) _)
    · repeat (first | with_reducible exact D9 | with_reducible refine Dr.alloc ?_ _ | with_reducible refine Dr.new ?_ (by first | exact Nat.le_refl _ | assumption | (simp; omega)) _)
  have t2 : (k == 2) = false := by simp [e2]
  clear e0 e1 e2
  have O4 := O3
  have NU : (Value.slice A x.vals.length c).ownBlock ≠ some w3.heap.size := fun e => by have := hU2 _ e; omega
  have a0 : (w4).cell? ⟨w.heap.size, 0, none⟩ = some (.int .i64 0) := R3.cell 0
  have fa0 := R3.free 0
  have a1 : (w4).cell? ⟨w.heap.size, 1, none⟩ = some (.slice none 0 0) := R3.cell 1
  have fa1 := R3.free 1
  have g0 : (w4).cell? ⟨w3.heap.size, 0, none⟩ = some (.int .i64 x.id) := G3.cell 0
  have fg0 := G3.free 0
  have g1 : (w4).cell? ⟨w3.heap.size, 1, none⟩ = some (.slice A x.vals.length c) := G3.cell 1
  have fg1 := G3.free 1
  clear R3 G3 O3
  go_wp2
  refine bodyPost_ret (v := .agg #[.int .i64 x.id, .slice A x.vals.length c]) (by simp [results, Try.results28, go_sem, *]) rfl ?_
  refine ⟨x, A, c, rfl, own_mono (b' := w.heap.size) (by repeat (first | with_reducible exact O4 | with_reducible refine World.ownsRow.alloc ?_ _ | with_reducible refine ownsRow_setCell_below ?_ (by first | assumption | (simp; omega)) _ | with_reducible refine ownsRow_setCell_other ?_ (by first | assumption | (simp; omega)) _)) (Nat.le_succ _), HFX, hnl, ?_, ?_⟩
  · repeat (first | with_reducible exact hC3 | with_reducible refine Cur.alloc ?_ _ | with_reducible refine Cur.set ?_ (by first | assumption | (simp; omega)) _)
  · repeat (first | with_reducible exact D3 | with_reducible refine Dr.alloc ?_ _ | with_reducible refine Dr.new ?_ (by first | exact Nat.le_refl _ | assumption | (simp; omega)) _)
end Go.Proofs.Ytpnbpjgnehcdbaa.Wk
