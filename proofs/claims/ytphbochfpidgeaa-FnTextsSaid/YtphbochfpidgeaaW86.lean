/-
  Walks of chapter 4's draws: wishes.
  Conditions: none beyond the bounds that each states.
-/
import Derived.Test.YtphbochfpidgeaaW84
import Derived.Test.YtphbochfpidgeaaM18
import Derived.Test.YtphbochfpidgeaaM12
namespace Go.Proofs.Ytphbochfpidgeaa.Wk
open Go.RowKit Go.Proofs.Ytphbochfpidgeaa.M
set_option linter.unusedVariables false
set_option linter.unusedSimpArgs false
attribute [local go_sem] cell_grow

theorem Cur.set {w : World} {p : Nat} {a : Addr} (h : Cur w p) (ha : p < a.block) (u : Value) : Cur (w.setCell a u) p := h.below ((Below.refl (p + 1) w).setCell (p := a) ha u) (Nat.lt_succ_self p)
theorem fit_small {n : Int} (h0 : -100 ≤ n) (h1 : n ≤ 100) : Fit n := by unfold Fit; omega
theorem far_nil86 (u : Value) : Far u (.slice none 0 0) := by
  cases h : u.ownBlock with
  | none => exact .inl h
  | some q => refine .inr fun hh => ?_; rw [h] at hh; simp [Value.ownBlock] at hh
theorem info_i86 : (Try.prog.info? 3).map (fun i => (i.zero, i.size, i.bytes)) = some (some (.int .i64 0), 1, 8) := by kernel_rfl
theorem cel86 {w : World} {b o : Nat} {v : Value} (h : w.cell? ⟨b, o, none⟩ = some v) (x : Obj) : (w.alloc x).cell? ⟨b, o, none⟩ = some v := by
  rw [World.cell?_alloc_lt _ _ _ (World.block_lt_of_cell? w _ h)]; exact h
/-- A wish drawn, its rows the call's own. -/
def DrW (w : World) (p m : Nat) (e : Ending) (w' : World) : Prop := ∃ (x : Wi) (A : Option Addr) (c : Nat) (E : Option Addr) (d : Nat), e = .returned (.agg #[.int .i64 x.kind, .int .i64 x.field, .int .i64 x.value, .slice A x.list.length c, .slice E x.pairs.length d]) ∧ OwnW w' w.heap.size 3 74 x (.slice A x.list.length c) (.slice E x.pairs.length d) ∧ Hid (FitW x) ∧ (x.list.length ≤ m ∧ x.pairs.length ≤ m) ∧ Cur w' p ∧ Dr p w w'
set_option maxHeartbeats 3000000 in
set_option maxRecDepth 100000 in
theorem l4Wish {p : Nat} (w : World) (h : Cur w p) : Calls Try.prog 78 #[.pointer (some ⟨p, 0, none⟩)] w (DrW w p 4) := by
  obtain ⟨i0, hi, hz0, hz1, hz2⟩ := info_parts info_i86
  have hp := h.lt
  have hpn : w.heap.size ≠ p := by omega
  have R0 := Row.new w 39 [.int .i64 0, .int .i64 0, .int .i64 0, .slice none 0 0, .slice none 0 0]
  have D0 := (Dr.refl p w).alloc (.cells #[.int .i64 0, .int .i64 0, .int .i64 0, .slice none 0 0, .slice none 0 0] 39)
  go_enter Try.func78, Try.ntmps78
  go_wp2_with fail
  refine (l1Below (n := 5) _ (h.alloc _) (by omega) (by omega)).mono ?_
  rintro e w2 ⟨k, rfl, k0, k1, hC2, hD2⟩
  have R2 := R0.dr hD2 hpn
  have D2 := D0.trans hD2
  clear R0 D0 hD2
  go_wp2_with fail
  refine (l1Below (n := 3) _ hC2 (by omega) (by omega)).mono ?_
  rintro e w3 ⟨f, rfl, f0', f1', hC3, hD3⟩
  have R3 := R2.dr hD3 hpn
  have D3 := D2.trans hD3
  have hl3 := R3.lt
  have hp3 : p < w3.heap.size := by omega
  have hw3 : w.heap.size ≤ w3.heap.size := by omega
  have hn3 : w3.heap.size ≠ p := by omega
  have hn4 : w.heap.size ≠ w3.heap.size := by omega
  have hn5 : w3.heap.size ≠ w.heap.size := by omega
  have hFK : Fit k := fit_small (by omega) (by omega)
  have hFF : Fit f := fit_small (by omega) (by omega)
  have hF0 : Fit 0 := fit_small (by omega) (by omega)
  clear R2 D2 hD3 hC2
  by_cases e2 : k = 2
  · have t2 : (k == 2) = true := by simp [e2]
    clear e2
    go_wp2_with fail
    refine (l1Below (n := 5) _ (hC3.alloc _) (by omega) (by omega)).mono ?_
    rintro e w4 ⟨v, rfl, v0, v1, hC4, hD4⟩
    have R4 := (R3.alloc _).dr hD4 hpn
    have G4 := (Row.new w3 39 [.int .i64 k, .int .i64 f, .int .i64 0, .slice none 0 0, .slice none 0 0]).dr hD4 hn3
    have D4 := (D3.alloc _).trans hD4
    have G5 : Row (w4.setCell ⟨w3.heap.size, 2, none⟩ (.int .i64 v)) w3.heap.size 39 [.int .i64 k, .int .i64 f, .int .i64 v, .slice none 0 0, .slice none 0 0] := G4.set 2 (.int .i64 v)
    have R5 := R4.far (p := ⟨w3.heap.size, 2, none⟩) hn4 (.int .i64 v)
    have hl4 := R4.lt
    have hg4 := G4.lt
    have hFV : Fit v := fit_small (by omega) (by omega)
    have FX : Hid (FitW ⟨k, f, v, [], []⟩) := ⟨hFK, hFF, hFV, by simp, by simp⟩
    have a0 : (w4).cell? ⟨w.heap.size, 0, none⟩ = some (.int .i64 0) := R4.cell 0
    have fa0 := R4.free 0
    have a1 : (w4).cell? ⟨w.heap.size, 1, none⟩ = some (.int .i64 0) := R4.cell 1
    have fa1 := R4.free 1
    have a2 : (w4).cell? ⟨w.heap.size, 2, none⟩ = some (.int .i64 0) := R4.cell 2
    have fa2 := R4.free 2
    have a3 : (w4).cell? ⟨w.heap.size, 3, none⟩ = some (.slice none 0 0) := R4.cell 3
    have fa3 := R4.free 3
    have a4 : (w4).cell? ⟨w.heap.size, 4, none⟩ = some (.slice none 0 0) := R4.cell 4
    have fa4 := R4.free 4
    have g0 : (w4).cell? ⟨w3.heap.size, 0, none⟩ = some (.int .i64 k) := G4.cell 0
    have fg0 := G4.free 0
    have g1 : (w4).cell? ⟨w3.heap.size, 1, none⟩ = some (.int .i64 f) := G4.cell 1
    have fg1 := G4.free 1
    have g2 : (w4).cell? ⟨w3.heap.size, 2, none⟩ = some (.int .i64 0) := G4.cell 2
    have fg2 := G4.free 2
    have g3 : (w4).cell? ⟨w3.heap.size, 3, none⟩ = some (.slice none 0 0) := G4.cell 3
    have fg3 := G4.free 3
    have g4 : (w4).cell? ⟨w3.heap.size, 4, none⟩ = some (.slice none 0 0) := G4.cell 4
    have fg4 := G4.free 4
    have b0 : (w4.setCell ⟨w3.heap.size, 2, none⟩ (.int .i64 v)).cell? ⟨w.heap.size, 0, none⟩ = some (.int .i64 0) := R5.cell 0
    have fb0 := R5.free 0
    have b1 : (w4.setCell ⟨w3.heap.size, 2, none⟩ (.int .i64 v)).cell? ⟨w.heap.size, 1, none⟩ = some (.int .i64 0) := R5.cell 1
    have fb1 := R5.free 1
    have b2 : (w4.setCell ⟨w3.heap.size, 2, none⟩ (.int .i64 v)).cell? ⟨w.heap.size, 2, none⟩ = some (.int .i64 0) := R5.cell 2
    have fb2 := R5.free 2
    have b3 : (w4.setCell ⟨w3.heap.size, 2, none⟩ (.int .i64 v)).cell? ⟨w.heap.size, 3, none⟩ = some (.slice none 0 0) := R5.cell 3
    have fb3 := R5.free 3
    have b4 : (w4.setCell ⟨w3.heap.size, 2, none⟩ (.int .i64 v)).cell? ⟨w.heap.size, 4, none⟩ = some (.slice none 0 0) := R5.cell 4
    have fb4 := R5.free 4
    have j0 : (w4.setCell ⟨w3.heap.size, 2, none⟩ (.int .i64 v)).cell? ⟨w3.heap.size, 0, none⟩ = some (.int .i64 k) := G5.cell 0
    have fj0 := G5.free 0
    have j1 : (w4.setCell ⟨w3.heap.size, 2, none⟩ (.int .i64 v)).cell? ⟨w3.heap.size, 1, none⟩ = some (.int .i64 f) := G5.cell 1
    have fj1 := G5.free 1
    have j2 : (w4.setCell ⟨w3.heap.size, 2, none⟩ (.int .i64 v)).cell? ⟨w3.heap.size, 2, none⟩ = some (.int .i64 v) := G5.cell 2
    have fj2 := G5.free 2
    have j3 : (w4.setCell ⟨w3.heap.size, 2, none⟩ (.int .i64 v)).cell? ⟨w3.heap.size, 3, none⟩ = some (.slice none 0 0) := G5.cell 3
    have fj3 := G5.free 3
    have j4 : (w4.setCell ⟨w3.heap.size, 2, none⟩ (.int .i64 v)).cell? ⟨w3.heap.size, 4, none⟩ = some (.slice none 0 0) := G5.cell 4
    have fj4 := G5.free 4
    clear R3 R4 G4 G5 R5 D3 hD4 hC3
    go_wp2
    refine bodyPost_ret (v := .agg #[.int .i64 k, .int .i64 f, .int .i64 v, .slice none 0 0, .slice none 0 0]) (by simp [results, Try.results78, go_sem, *]) rfl ?_
    refine ⟨⟨k, f, v, [], []⟩, none, 0, none, 0, rfl, ⟨World.ownsRow_nil _ _ _ _, World.ownsRow_nil _ _ _ _, .inl rfl⟩, FX, ⟨by simp, by simp⟩, ?_, ?_⟩
    · repeat (first | with_reducible exact hC4 | with_reducible refine Cur.alloc ?_ _ | with_reducible refine Cur.set ?_ (by first | assumption | (simp; omega)) _)
    · repeat (first | with_reducible exact D4 | with_reducible refine Dr.alloc ?_ _ | with_reducible refine Dr.new ?_ (by first | exact Nat.le_refl _ | assumption | (simp; omega)) _)
  have t2 : (k == 2) = false := by simp [e2]
  by_cases e3 : k = 3
  · have t3 : (k == 3) = true := by simp [e3]
    clear e2 e3
    go_wp2_with fail
    refine (l1Below (n := 2) _ (hC3.alloc _) (by omega) (by omega)).mono ?_
    rintro e w4 ⟨x0, rfl, x00, x01, hC4, hD4⟩
    have R4 := (R3.alloc _).dr hD4 hpn
    have G4 := (Row.new w3 39 [.int .i64 k, .int .i64 f, .int .i64 0, .slice none 0 0, .slice none 0 0]).dr hD4 hn3
    have D4 := (D3.alloc _).trans hD4
    clear R3 D3 hD4 hC3
    go_wp2_with fail
    refine (l1Below (n := 3) _ hC4 (by omega) (by omega)).mono ?_
    rintro e w5 ⟨m0, rfl, m00, m01, hC5, hD5⟩
    obtain ⟨mn, rfl⟩ := Int.eq_ofNat_of_zero_le m00
    have R5 := R4.dr hD5 hpn
    have G5 := G4.dr hD5 hn3
    have D5 := D4.trans hD5
    clear R4 G4 D4 hD5 hC4
    go_wp2
    go_loopw [4, 5] (fun vx vn wr => ∃ (j : Nat) (xs : List Int) (A : Option Addr) (c : Nat) (xv : Int), vn = .int .i64 j ∧ vx = .int .i64 xv ∧ 0 ≤ xv ∧ xv ≤ 1 + 2 * (xs.length : Int) ∧ j + xs.length ≤ 3 ∧ Hid (∀ y ∈ xs, Fit y) ∧ wr.ownsRow (w3.heap.size + 1) 3 1 (.slice A xs.length c) xs.length (xs.map (Value.int .i64)) ∧ Row wr w.heap.size 39 [.int .i64 0, .int .i64 0, .int .i64 0, .slice none 0 0, .slice none 0 0] ∧ Row wr w3.heap.size 39 [.int .i64 k, .int .i64 f, .int .i64 0, .slice A xs.length c, .slice none 0 0] ∧ Cur wr p ∧ Dr p w wr) (fun _ vn _ => (intOf vn).toNat)
    case atStart => exact ⟨mn + 1, [], none, 0, x0, by go_num, rfl, x00, by simp; omega, by simp; omega, fun y hy => absurd hy (by simp), World.ownsRow_nil _ _ _ _, R5, G5, hC5, D5⟩
    case round =>
      clear R5 G5 hC5 D5
      obtain ⟨j, xs, A, c, xv, rfl, rfl, xv0, xv1, hj, HF, hown, hR, hG, hC, hD⟩ := hrel
      have hlr := hR.lt
      have hlg := hG.lt
      by_cases hlt : 0 < j
      · have q1 : (0 : Int) < (j : Int) := by omega
        have g3 : wr.cell? ⟨w3.heap.size, 3, none⟩ = some (.slice A xs.length c) := hG.cell 3
        have hrow : ∀ q, (Value.slice A xs.length c).ownBlock = some q → w3.heap.size + 1 ≤ q := fun q hq => (hown.lt q hq).1
        have h63 : xs.length + 1 ≤ 100 := by omega
        have HR := Lib.hid hR
        have HG := Lib.hid hG
        have HC := Lib.hid hC
        have HD := Lib.hid hD
        clear hR hG hC hD
        go_wp2_with (at_builtin; refine wpList_append_own _ rfl _ _ 24 rfl (w3.heap.size + 1) 3 i0 (.int .i64 0) 1 8 Try.underlying24 hi hz0 hz1 hz2 rfl (by decide) _ _ _ rfl (hown.alloc _) ⟨wr.heap.size, 0, none⟩ 1 1 [_] rfl rfl (one_new _ _ _) (by simp [Value.oneCell']) (by unfold maxLen; omega) (by omega) (by simp; omega) ?_)
        intro v' w6 hown6 hgrow _
        obtain ⟨A6, c6, rfl, _, _⟩ := own_form hown6
        have R6 := (HR.out.alloc (.cells #[.int .i64 xv] 3)).grown hgrow (fun e => by have := hrow _ e.symm; omega)
        have G6 := (HG.out.alloc (.cells #[.int .i64 xv] 3)).grown hgrow (fun e => by have := hrow _ e.symm; omega)
        have C6 := (HC.out.alloc (.cells #[.int .i64 xv] 3)).grown hgrow (fun q hq => by have := hrow q hq; omega)
        have D6 := (HD.out.alloc (.cells #[.int .i64 xv] 3)).grown hgrow (fun q hq => by have := hrow q hq; omega)
        have gf3 := G6.free 3
        have gc3 : w6.cell? ⟨w3.heap.size, 3, none⟩ = some (.slice A xs.length c) := G6.cell 3
        have hlg6 := G6.lt
        have R7 := Lib.hid (R6.far (p := ⟨w3.heap.size, 3, none⟩) hn4 (.slice A6 (xs.length + 1) c6))
        have G7 : Hid (Row (w6.setCell ⟨w3.heap.size, 3, none⟩ (.slice A6 (xs.length + 1) c6)) w3.heap.size 39 [.int .i64 k, .int .i64 f, .int .i64 0, .slice A6 (xs.length + 1) c6, .slice none 0 0]) := G6.set 3 (.slice A6 (xs.length + 1) c6)
        have C7 := Lib.hid (C6.set (a := ⟨w3.heap.size, 3, none⟩) hp3 (.slice A6 (xs.length + 1) c6))
        have D7 := Lib.hid (D6.new (a := ⟨w3.heap.size, 3, none⟩) hw3 (.slice A6 (xs.length + 1) c6))
        have O7 := Lib.hid (ownsRow_setCell_below hown6 (a := ⟨w3.heap.size, 3, none⟩) (Nat.lt_succ_self _) (.slice A6 (xs.length + 1) c6))
        clear hown6 hgrow hown R6 G6 C6 D6 g3 HR HG HC HD
        go_wp2_with fail
        refine (l1Below (n := 2) _ C7.out (by omega) (by omega)).mono ?_
        rintro e w8 ⟨d, rfl, d0, d1, hC8, hD8⟩
        have R8 := R7.out.dr hD8 hpn
        have G8 := G7.out.dr hD8 hn3
        have D8 := D7.out.trans hD8
        have O8 : Hid (w8.ownsRow (w3.heap.size + 1) 3 1 (.slice A6 (xs ++ [xv]).length c6) (xs ++ [xv]).length ((xs ++ [xv]).map (Value.int .i64))) := by
          have := own_dr_past O7.out hD8 (by omega)
          show World.ownsRow _ _ _ _ _ _ _
          simpa using this
        have HF2 : Hid (∀ y ∈ xs ++ [xv], Fit y) := fun y hy => by
          rcases List.mem_append.1 hy with hy | hy
          · exact HF.out y hy
          · simp at hy; subst hy; exact fit_small (by omega) (by omega)
        clear R7 G7 C7 D7 O7 hD8
        go_wp2
        go_roundw
        case rel => exact ⟨j - 1, xs ++ [xv], A6, c6, _, by first | go_num | exact vint (by omega), rfl, by omega, by simp; omega, by simp; omega, HF2, O8.out, R8, by simpa using G8, hC8, D8⟩
        case measure => simp [intOf]; omega
      · have q1 : ¬ (0 : Int) < (j : Int) := by omega
        have FX : Hid (FitW ⟨k, f, 0, xs, []⟩) := ⟨hFK, hFF, hF0, HF.out, by simp⟩
        have O9 := own_mono (b' := w.heap.size) hown (by omega)
        have O9h : wr.ownsRow (w.heap.size + 1) 3 1 (.slice A xs.length c) xs.length (xs.map (Value.int .i64)) := own_mono hown (by omega)
        have hlw : w.heap.size < w.heap.size + 1 := Nat.lt_succ_self _
        have a0 : (wr).cell? ⟨w.heap.size, 0, none⟩ = some (.int .i64 0) := hR.cell 0
        have fa0 := hR.free 0
        have a1 : (wr).cell? ⟨w.heap.size, 1, none⟩ = some (.int .i64 0) := hR.cell 1
        have fa1 := hR.free 1
        have a2 : (wr).cell? ⟨w.heap.size, 2, none⟩ = some (.int .i64 0) := hR.cell 2
        have fa2 := hR.free 2
        have a3 : (wr).cell? ⟨w.heap.size, 3, none⟩ = some (.slice none 0 0) := hR.cell 3
        have fa3 := hR.free 3
        have a4 : (wr).cell? ⟨w.heap.size, 4, none⟩ = some (.slice none 0 0) := hR.cell 4
        have fa4 := hR.free 4
        have g0 : (wr).cell? ⟨w3.heap.size, 0, none⟩ = some (.int .i64 k) := hG.cell 0
        have fg0 := hG.free 0
        have g1 : (wr).cell? ⟨w3.heap.size, 1, none⟩ = some (.int .i64 f) := hG.cell 1
        have fg1 := hG.free 1
        have g2 : (wr).cell? ⟨w3.heap.size, 2, none⟩ = some (.int .i64 0) := hG.cell 2
        have fg2 := hG.free 2
        have g3 : (wr).cell? ⟨w3.heap.size, 3, none⟩ = some (.slice A xs.length c) := hG.cell 3
        have fg3 := hG.free 3
        have g4 : (wr).cell? ⟨w3.heap.size, 4, none⟩ = some (.slice none 0 0) := hG.cell 4
        have fg4 := hG.free 4
        clear hR hG hown O9
        go_wp2
        refine bodyPost_ret (v := .agg #[.int .i64 k, .int .i64 f, .int .i64 0, .slice A xs.length c, .slice none 0 0]) (by simp [results, Try.results78, go_sem, *]) rfl ?_
        refine ⟨⟨k, f, 0, xs, []⟩, A, c, none, 0, rfl, ⟨own_mono (b' := w.heap.size) (by repeat (first | with_reducible exact O9h | with_reducible refine World.ownsRow.alloc ?_ _ | with_reducible refine ownsRow_setCell_below ?_ (by first | assumption | (simp; omega)) _)) (Nat.le_succ _), World.ownsRow_nil _ _ _ _, far_nil86 _⟩, FX, ⟨by simp; omega, by simp⟩, ?_, ?_⟩
        · repeat (first | with_reducible exact hC | with_reducible refine Cur.alloc ?_ _ | with_reducible refine Cur.set ?_ (by first | assumption | (simp; omega)) _)
        · repeat (first | with_reducible exact hD | with_reducible refine Dr.alloc ?_ _ | with_reducible refine Dr.new ?_ (by first | exact Nat.le_refl _ | assumption | (simp; omega)) _)
  have t3 : (k == 3) = false := by simp [e3]
  by_cases e4 : k = 4
  · have t4 : (k == 4) = true := by simp [e4]
    clear e2 e3 e4
    go_wp2_with fail
    refine (l3Pairs _ (hC3.alloc _)).mono ?_
    rintro e w4 ⟨v, l, rfl, hown, HF, hll, hC4, hD4⟩
    obtain ⟨E, d, rfl, _, _⟩ := own_form hown
    rw [World.size_alloc] at hown
    have R4 := (R3.alloc _).dr hD4 hpn
    have G4 := (Row.new w3 39 [.int .i64 k, .int .i64 f, .int .i64 0, .slice none 0 0, .slice none 0 0]).dr hD4 hn3
    have D4 := (D3.alloc _).trans hD4
    have G5 : Row (w4.setCell ⟨w3.heap.size, 4, none⟩ (.slice E l.length d)) w3.heap.size 39 [.int .i64 k, .int .i64 f, .int .i64 0, .slice none 0 0, .slice E l.length d] := G4.set 4 (.slice E l.length d)
    have R5 := R4.far (p := ⟨w3.heap.size, 4, none⟩) hn4 (.slice E l.length d)
    have hl4 := R4.lt
    have hg4 := G4.lt
    have FX : Hid (FitW ⟨k, f, 0, [], l⟩) := ⟨hFK, hFF, hF0, by simp, HF.out⟩
    have hlw : w.heap.size < w3.heap.size + 1 := by omega
    have hlw3 : w3.heap.size < w3.heap.size + 1 := by omega
    have a0 : (w4).cell? ⟨w.heap.size, 0, none⟩ = some (.int .i64 0) := R4.cell 0
    have fa0 := R4.free 0
    have a1 : (w4).cell? ⟨w.heap.size, 1, none⟩ = some (.int .i64 0) := R4.cell 1
    have fa1 := R4.free 1
    have a2 : (w4).cell? ⟨w.heap.size, 2, none⟩ = some (.int .i64 0) := R4.cell 2
    have fa2 := R4.free 2
    have a3 : (w4).cell? ⟨w.heap.size, 3, none⟩ = some (.slice none 0 0) := R4.cell 3
    have fa3 := R4.free 3
    have a4 : (w4).cell? ⟨w.heap.size, 4, none⟩ = some (.slice none 0 0) := R4.cell 4
    have fa4 := R4.free 4
    have g0 : (w4).cell? ⟨w3.heap.size, 0, none⟩ = some (.int .i64 k) := G4.cell 0
    have fg0 := G4.free 0
    have g1 : (w4).cell? ⟨w3.heap.size, 1, none⟩ = some (.int .i64 f) := G4.cell 1
    have fg1 := G4.free 1
    have g2 : (w4).cell? ⟨w3.heap.size, 2, none⟩ = some (.int .i64 0) := G4.cell 2
    have fg2 := G4.free 2
    have g3 : (w4).cell? ⟨w3.heap.size, 3, none⟩ = some (.slice none 0 0) := G4.cell 3
    have fg3 := G4.free 3
    have g4 : (w4).cell? ⟨w3.heap.size, 4, none⟩ = some (.slice none 0 0) := G4.cell 4
    have fg4 := G4.free 4
    have b0 : (w4.setCell ⟨w3.heap.size, 4, none⟩ (.slice E l.length d)).cell? ⟨w.heap.size, 0, none⟩ = some (.int .i64 0) := R5.cell 0
    have fb0 := R5.free 0
    have b1 : (w4.setCell ⟨w3.heap.size, 4, none⟩ (.slice E l.length d)).cell? ⟨w.heap.size, 1, none⟩ = some (.int .i64 0) := R5.cell 1
    have fb1 := R5.free 1
    have b2 : (w4.setCell ⟨w3.heap.size, 4, none⟩ (.slice E l.length d)).cell? ⟨w.heap.size, 2, none⟩ = some (.int .i64 0) := R5.cell 2
    have fb2 := R5.free 2
    have b3 : (w4.setCell ⟨w3.heap.size, 4, none⟩ (.slice E l.length d)).cell? ⟨w.heap.size, 3, none⟩ = some (.slice none 0 0) := R5.cell 3
    have fb3 := R5.free 3
    have b4 : (w4.setCell ⟨w3.heap.size, 4, none⟩ (.slice E l.length d)).cell? ⟨w.heap.size, 4, none⟩ = some (.slice none 0 0) := R5.cell 4
    have fb4 := R5.free 4
    have j0 : (w4.setCell ⟨w3.heap.size, 4, none⟩ (.slice E l.length d)).cell? ⟨w3.heap.size, 0, none⟩ = some (.int .i64 k) := G5.cell 0
    have fj0 := G5.free 0
    have j1 : (w4.setCell ⟨w3.heap.size, 4, none⟩ (.slice E l.length d)).cell? ⟨w3.heap.size, 1, none⟩ = some (.int .i64 f) := G5.cell 1
    have fj1 := G5.free 1
    have j2 : (w4.setCell ⟨w3.heap.size, 4, none⟩ (.slice E l.length d)).cell? ⟨w3.heap.size, 2, none⟩ = some (.int .i64 0) := G5.cell 2
    have fj2 := G5.free 2
    have j3 : (w4.setCell ⟨w3.heap.size, 4, none⟩ (.slice E l.length d)).cell? ⟨w3.heap.size, 3, none⟩ = some (.slice none 0 0) := G5.cell 3
    have fj3 := G5.free 3
    have j4 : (w4.setCell ⟨w3.heap.size, 4, none⟩ (.slice E l.length d)).cell? ⟨w3.heap.size, 4, none⟩ = some (.slice E l.length d) := G5.cell 4
    have fj4 := G5.free 4
    clear R3 R4 G4 G5 R5 D3 hD4 hC3
    go_wp2
    refine bodyPost_ret (v := .agg #[.int .i64 k, .int .i64 f, .int .i64 0, .slice none 0 0, .slice E l.length d]) (by simp [results, Try.results78, go_sem, *]) rfl ?_
    refine ⟨⟨k, f, 0, [], l⟩, none, 0, E, d, rfl, ⟨World.ownsRow_nil _ _ _ _, own_mono (b' := w.heap.size) (by repeat (first | with_reducible exact hown | with_reducible refine World.ownsRow.alloc ?_ _ | with_reducible refine ownsRow_setCell_below ?_ (by first | assumption | (simp; omega)) _)) (by omega), .inl rfl⟩, FX, ⟨by simp, by simp; omega⟩, ?_, ?_⟩
    · repeat (first | with_reducible exact hC4 | with_reducible refine Cur.alloc ?_ _ | with_reducible refine Cur.set ?_ (by first | assumption | (simp; omega)) _)
    · repeat (first | with_reducible exact D4 | with_reducible refine Dr.alloc ?_ _ | with_reducible refine Dr.new ?_ (by first | exact Nat.le_refl _ | assumption | (simp; omega)) _)
  have t4 : (k == 4) = false := by simp [e4]
  have FX : Hid (FitW ⟨k, f, 0, [], []⟩) := ⟨hFK, hFF, hF0, by simp, by simp⟩
  clear e2 e3 e4
  have a0 : (w3).cell? ⟨w.heap.size, 0, none⟩ = some (.int .i64 0) := R3.cell 0
  have fa0 := R3.free 0
  have a1 : (w3).cell? ⟨w.heap.size, 1, none⟩ = some (.int .i64 0) := R3.cell 1
  have fa1 := R3.free 1
  have a2 : (w3).cell? ⟨w.heap.size, 2, none⟩ = some (.int .i64 0) := R3.cell 2
  have fa2 := R3.free 2
  have a3 : (w3).cell? ⟨w.heap.size, 3, none⟩ = some (.slice none 0 0) := R3.cell 3
  have fa3 := R3.free 3
  have a4 : (w3).cell? ⟨w.heap.size, 4, none⟩ = some (.slice none 0 0) := R3.cell 4
  have fa4 := R3.free 4
  clear R3
  go_wp2
  refine bodyPost_ret (v := .agg #[.int .i64 k, .int .i64 f, .int .i64 0, .slice none 0 0, .slice none 0 0]) (by simp [results, Try.results78, go_sem, *]) rfl ?_
  refine ⟨⟨k, f, 0, [], []⟩, none, 0, none, 0, rfl, ⟨World.ownsRow_nil _ _ _ _, World.ownsRow_nil _ _ _ _, .inl rfl⟩, FX, ⟨by simp, by simp⟩, ?_, ?_⟩
  · repeat (first | with_reducible exact hC3 | with_reducible refine Cur.alloc ?_ _ | with_reducible refine Cur.set ?_ (by first | assumption | (simp; omega)) _)
  · repeat (first | with_reducible exact D3 | with_reducible refine Dr.alloc ?_ _ | with_reducible refine Dr.new ?_ (by first | exact Nat.le_refl _ | assumption | (simp; omega)) _)
set_option maxHeartbeats 3000000 in
set_option maxRecDepth 100000 in
theorem l4Any {p : Nat} (w : World) (h : Cur w p) : Calls Try.prog 54 #[.pointer (some ⟨p, 0, none⟩)] w (DrW w p 5) := by
  obtain ⟨i0, hi, hz0, hz1, hz2⟩ := info_parts info_i86
  have hp := h.lt
  have hpn : w.heap.size ≠ p := by omega
  have R0 := Row.new w 39 [.int .i64 0, .int .i64 0, .int .i64 0, .slice none 0 0, .slice none 0 0]
  have D0 := (Dr.refl p w).alloc (.cells #[.int .i64 0, .int .i64 0, .int .i64 0, .slice none 0 0, .slice none 0 0] 39)
  go_enter Try.func54, Try.ntmps54
  go_wp2_with fail
  refine (l4Wish _ (h.alloc _)).mono ?_
  rintro e w2 ⟨x, A, c, E, d, rfl, ⟨hU, hV, hfar⟩, HFX, hln, hC2, hD2⟩
  rw [World.size_alloc] at hU hV
  have R2 := R0.dr hD2 hpn
  have D2 := D0.trans hD2
  have hl2 := R2.lt
  have hU2 : ∀ q, (Value.slice A x.list.length c).ownBlock = some q → w.heap.size + 1 ≤ q ∧ q < w2.heap.size := fun q hq => hU.lt q hq
  have hV2 : ∀ q, (Value.slice E x.pairs.length d).ownBlock = some q → w.heap.size + 1 ≤ q ∧ q < w2.heap.size := fun q hq => hV.lt q hq
  have hp2 : p < w2.heap.size := by omega
  have hw2 : w.heap.size ≤ w2.heap.size := by omega
  have hn2 : w2.heap.size ≠ p := by omega
  have hn4 : w.heap.size ≠ w2.heap.size := by omega
  have hn5 : w2.heap.size ≠ w.heap.size := by omega
  have hlw : w.heap.size < w.heap.size + 1 := Nat.lt_succ_self _
  clear R0 D0 hD2
  go_wp2_with fail
  refine (l1Below (n := 10) _ (hC2.alloc _) (by omega) (by omega)).mono ?_
  rintro e w3 ⟨k, rfl, k0, k1, hC3, hD3⟩
  have R3 := (R2.alloc _).dr hD3 hpn
  have G3 := (Row.new w2 39 [.int .i64 x.kind, .int .i64 x.field, .int .i64 x.value, .slice A x.list.length c, .slice E x.pairs.length d]).dr hD3 hn2
  have U3 := own_dr_past (hU.alloc (.cells #[.int .i64 x.kind, .int .i64 x.field, .int .i64 x.value, .slice A x.list.length c, .slice E x.pairs.length d] 39)) hD3 (by omega)
  have V3 := own_dr_past (hV.alloc (.cells #[.int .i64 x.kind, .int .i64 x.field, .int .i64 x.value, .slice A x.list.length c, .slice E x.pairs.length d] 39)) hD3 (by omega)
  have D3 := (D2.alloc _).trans hD3
  have hp3 := hC3.lt
  have hl3 := R3.lt
  have hg3 := G3.lt
  clear R2 D2 hD3 hU hV hC2
  by_cases e0 : k = 0
  · have t0 : (k == 0) = true := by simp [e0]
    clear e0
    have D4' := D3
    go_wp2_with fail
    refine (l1Below (n := 7) _ hC3 (by omega) (by omega)).mono ?_
    rintro e w4 ⟨v, rfl, v0, v1, hC4, hD4⟩
    have hfv : Fit (v - 1) := fit_small (by omega) (by omega)
    have R4 := R3.dr hD4 hpn
    have G4 := G3.dr hD4 hn2
    have U4 := own_dr_past U3 hD4 (by omega)
    have V4 := own_dr_past V3 hD4 (by omega)
    have D4 := D4'.trans hD4
    have G5 : Row (w4.setCell ⟨w2.heap.size, 0, none⟩ (.int .i64 (v - 1))) w2.heap.size 39 [.int .i64 (v - 1), .int .i64 x.field, .int .i64 x.value, .slice A x.list.length c, .slice E x.pairs.length d] := G4.set 0 (.int .i64 (v - 1))
    have R5 := R4.far (p := ⟨w2.heap.size, 0, none⟩) hn4 (.int .i64 (v - 1))
    have hl4 := R4.lt
    have hg4 := G4.lt
    have FX : Hid (FitW ⟨v - 1, x.field, x.value, x.list, x.pairs⟩) := by obtain ⟨e1, e2, e3, e4, e5⟩ := HFX.out; exact ⟨hfv, e2, e3, e4, e5⟩
    have NU : (Value.slice A x.list.length c).ownBlock ≠ some w2.heap.size := fun e => by have := hU2 _ e; omega
    have NV : (Value.slice E x.pairs.length d).ownBlock ≠ some w2.heap.size := fun e => by have := hV2 _ e; omega
    have a0 : (w4).cell? ⟨w.heap.size, 0, none⟩ = some (.int .i64 0) := R4.cell 0
    have fa0 := R4.free 0
    have a1 : (w4).cell? ⟨w.heap.size, 1, none⟩ = some (.int .i64 0) := R4.cell 1
    have fa1 := R4.free 1
    have a2 : (w4).cell? ⟨w.heap.size, 2, none⟩ = some (.int .i64 0) := R4.cell 2
    have fa2 := R4.free 2
    have a3 : (w4).cell? ⟨w.heap.size, 3, none⟩ = some (.slice none 0 0) := R4.cell 3
    have fa3 := R4.free 3
    have a4 : (w4).cell? ⟨w.heap.size, 4, none⟩ = some (.slice none 0 0) := R4.cell 4
    have fa4 := R4.free 4
    have g0 : (w4).cell? ⟨w2.heap.size, 0, none⟩ = some (.int .i64 x.kind) := G4.cell 0
    have fg0 := G4.free 0
    have g1 : (w4).cell? ⟨w2.heap.size, 1, none⟩ = some (.int .i64 x.field) := G4.cell 1
    have fg1 := G4.free 1
    have g2 : (w4).cell? ⟨w2.heap.size, 2, none⟩ = some (.int .i64 x.value) := G4.cell 2
    have fg2 := G4.free 2
    have g3 : (w4).cell? ⟨w2.heap.size, 3, none⟩ = some (.slice A x.list.length c) := G4.cell 3
    have fg3 := G4.free 3
    have g4 : (w4).cell? ⟨w2.heap.size, 4, none⟩ = some (.slice E x.pairs.length d) := G4.cell 4
    have fg4 := G4.free 4
    have b0 : ((w4.setCell ⟨w2.heap.size, 0, none⟩ (.int .i64 (v - 1)))).cell? ⟨w.heap.size, 0, none⟩ = some (.int .i64 0) := R5.cell 0
    have fb0 := R5.free 0
    have b1 : ((w4.setCell ⟨w2.heap.size, 0, none⟩ (.int .i64 (v - 1)))).cell? ⟨w.heap.size, 1, none⟩ = some (.int .i64 0) := R5.cell 1
    have fb1 := R5.free 1
    have b2 : ((w4.setCell ⟨w2.heap.size, 0, none⟩ (.int .i64 (v - 1)))).cell? ⟨w.heap.size, 2, none⟩ = some (.int .i64 0) := R5.cell 2
    have fb2 := R5.free 2
    have b3 : ((w4.setCell ⟨w2.heap.size, 0, none⟩ (.int .i64 (v - 1)))).cell? ⟨w.heap.size, 3, none⟩ = some (.slice none 0 0) := R5.cell 3
    have fb3 := R5.free 3
    have b4 : ((w4.setCell ⟨w2.heap.size, 0, none⟩ (.int .i64 (v - 1)))).cell? ⟨w.heap.size, 4, none⟩ = some (.slice none 0 0) := R5.cell 4
    have fb4 := R5.free 4
    have j0 : ((w4.setCell ⟨w2.heap.size, 0, none⟩ (.int .i64 (v - 1)))).cell? ⟨w2.heap.size, 0, none⟩ = some (.int .i64 (v - 1)) := G5.cell 0
    have fj0 := G5.free 0
    have j1 : ((w4.setCell ⟨w2.heap.size, 0, none⟩ (.int .i64 (v - 1)))).cell? ⟨w2.heap.size, 1, none⟩ = some (.int .i64 x.field) := G5.cell 1
    have fj1 := G5.free 1
    have j2 : ((w4.setCell ⟨w2.heap.size, 0, none⟩ (.int .i64 (v - 1)))).cell? ⟨w2.heap.size, 2, none⟩ = some (.int .i64 x.value) := G5.cell 2
    have fj2 := G5.free 2
    have j3 : ((w4.setCell ⟨w2.heap.size, 0, none⟩ (.int .i64 (v - 1)))).cell? ⟨w2.heap.size, 3, none⟩ = some (.slice A x.list.length c) := G5.cell 3
    have fj3 := G5.free 3
    have j4 : ((w4.setCell ⟨w2.heap.size, 0, none⟩ (.int .i64 (v - 1)))).cell? ⟨w2.heap.size, 4, none⟩ = some (.slice E x.pairs.length d) := G5.cell 4
    have fj4 := G5.free 4
    clear R3 G3 R4 G4 G5 R5 D3 D4' hD4 hC3 U3 V3
    go_wp2
    refine bodyPost_ret (v := .agg #[.int .i64 (v - 1), .int .i64 x.field, .int .i64 x.value, .slice A x.list.length c, .slice E x.pairs.length d]) (by simp [results, Try.results54, go_sem, *]) rfl ?_
    refine ⟨⟨v - 1, x.field, x.value, x.list, x.pairs⟩, A, c, E, d, rfl, ⟨own_mono (b' := w.heap.size) (by repeat (first | with_reducible exact U4 | with_reducible refine World.ownsRow.alloc ?_ _ | with_reducible refine ownsRow_setCell_below ?_ (by first | assumption | (simp; omega)) _ | with_reducible refine ownsRow_setCell_other ?_ (by first | assumption | (simp; omega)) _)) (Nat.le_succ _), own_mono (b' := w.heap.size) (by repeat (first | with_reducible exact V4 | with_reducible refine World.ownsRow.alloc ?_ _ | with_reducible refine ownsRow_setCell_below ?_ (by first | assumption | (simp; omega)) _ | with_reducible refine ownsRow_setCell_other ?_ (by first | assumption | (simp; omega)) _)) (Nat.le_succ _), hfar⟩, FX, ⟨Nat.le_succ_of_le hln.1, Nat.le_succ_of_le hln.2⟩, ?_, ?_⟩
    · repeat (first | with_reducible exact hC4 | with_reducible refine Cur.alloc ?_ _ | with_reducible refine Cur.set ?_ (by first | assumption | (simp; omega)) _)
    · repeat (first | with_reducible exact D4 | with_reducible refine Dr.alloc ?_ _ | with_reducible refine Dr.new ?_ (by first | exact Nat.le_refl _ | assumption | (simp; omega)) _)
  have t0 : (k == 0) = false := by simp [e0]
  by_cases e1 : k = 1
  · have t1 : (k == 1) = true := by simp [e1]
    clear e0 e1
    have D4' := D3.alloc (.cells #[.int .i64 (-1), .int .i64 3] 3)
    go_wp2_with fail
    refine (l1PickInt (n := 2) (c := 2) (xs := [-1, 3]) _ (hC3.alloc _) (Row.new w3 _ _) rfl (by omega) (by omega) (by omega) (by omega)).mono ?_
    rintro e w4 ⟨v, rfl, hv, hC4, hD4⟩
    have hfv : Fit v := by
      simp at hv
      unfold Fit
      omega
    have R4 := (R3.alloc _).dr hD4 hpn
    have G4 := (G3.alloc _).dr hD4 hn2
    have U4 := own_dr_past (U3.alloc _) hD4 (by omega)
    have V4 := own_dr_past (V3.alloc _) hD4 (by omega)
    have D4 := D4'.trans hD4
    have G5 : Row (w4.setCell ⟨w2.heap.size, 1, none⟩ (.int .i64 v)) w2.heap.size 39 [.int .i64 x.kind, .int .i64 v, .int .i64 x.value, .slice A x.list.length c, .slice E x.pairs.length d] := G4.set 1 (.int .i64 v)
    have R5 := R4.far (p := ⟨w2.heap.size, 1, none⟩) hn4 (.int .i64 v)
    have hl4 := R4.lt
    have hg4 := G4.lt
    have FX : Hid (FitW ⟨x.kind, v, x.value, x.list, x.pairs⟩) := by obtain ⟨e1, e2, e3, e4, e5⟩ := HFX.out; exact ⟨e1, hfv, e3, e4, e5⟩
    have NU : (Value.slice A x.list.length c).ownBlock ≠ some w2.heap.size := fun e => by have := hU2 _ e; omega
    have NV : (Value.slice E x.pairs.length d).ownBlock ≠ some w2.heap.size := fun e => by have := hV2 _ e; omega
    have a0 : (w4).cell? ⟨w.heap.size, 0, none⟩ = some (.int .i64 0) := R4.cell 0
    have fa0 := R4.free 0
    have a1 : (w4).cell? ⟨w.heap.size, 1, none⟩ = some (.int .i64 0) := R4.cell 1
    have fa1 := R4.free 1
    have a2 : (w4).cell? ⟨w.heap.size, 2, none⟩ = some (.int .i64 0) := R4.cell 2
    have fa2 := R4.free 2
    have a3 : (w4).cell? ⟨w.heap.size, 3, none⟩ = some (.slice none 0 0) := R4.cell 3
    have fa3 := R4.free 3
    have a4 : (w4).cell? ⟨w.heap.size, 4, none⟩ = some (.slice none 0 0) := R4.cell 4
    have fa4 := R4.free 4
    have g0 : (w4).cell? ⟨w2.heap.size, 0, none⟩ = some (.int .i64 x.kind) := G4.cell 0
    have fg0 := G4.free 0
    have g1 : (w4).cell? ⟨w2.heap.size, 1, none⟩ = some (.int .i64 x.field) := G4.cell 1
    have fg1 := G4.free 1
    have g2 : (w4).cell? ⟨w2.heap.size, 2, none⟩ = some (.int .i64 x.value) := G4.cell 2
    have fg2 := G4.free 2
    have g3 : (w4).cell? ⟨w2.heap.size, 3, none⟩ = some (.slice A x.list.length c) := G4.cell 3
    have fg3 := G4.free 3
    have g4 : (w4).cell? ⟨w2.heap.size, 4, none⟩ = some (.slice E x.pairs.length d) := G4.cell 4
    have fg4 := G4.free 4
    have b0 : ((w4.setCell ⟨w2.heap.size, 1, none⟩ (.int .i64 v))).cell? ⟨w.heap.size, 0, none⟩ = some (.int .i64 0) := R5.cell 0
    have fb0 := R5.free 0
    have b1 : ((w4.setCell ⟨w2.heap.size, 1, none⟩ (.int .i64 v))).cell? ⟨w.heap.size, 1, none⟩ = some (.int .i64 0) := R5.cell 1
    have fb1 := R5.free 1
    have b2 : ((w4.setCell ⟨w2.heap.size, 1, none⟩ (.int .i64 v))).cell? ⟨w.heap.size, 2, none⟩ = some (.int .i64 0) := R5.cell 2
    have fb2 := R5.free 2
    have b3 : ((w4.setCell ⟨w2.heap.size, 1, none⟩ (.int .i64 v))).cell? ⟨w.heap.size, 3, none⟩ = some (.slice none 0 0) := R5.cell 3
    have fb3 := R5.free 3
    have b4 : ((w4.setCell ⟨w2.heap.size, 1, none⟩ (.int .i64 v))).cell? ⟨w.heap.size, 4, none⟩ = some (.slice none 0 0) := R5.cell 4
    have fb4 := R5.free 4
    have j0 : ((w4.setCell ⟨w2.heap.size, 1, none⟩ (.int .i64 v))).cell? ⟨w2.heap.size, 0, none⟩ = some (.int .i64 x.kind) := G5.cell 0
    have fj0 := G5.free 0
    have j1 : ((w4.setCell ⟨w2.heap.size, 1, none⟩ (.int .i64 v))).cell? ⟨w2.heap.size, 1, none⟩ = some (.int .i64 v) := G5.cell 1
    have fj1 := G5.free 1
    have j2 : ((w4.setCell ⟨w2.heap.size, 1, none⟩ (.int .i64 v))).cell? ⟨w2.heap.size, 2, none⟩ = some (.int .i64 x.value) := G5.cell 2
    have fj2 := G5.free 2
    have j3 : ((w4.setCell ⟨w2.heap.size, 1, none⟩ (.int .i64 v))).cell? ⟨w2.heap.size, 3, none⟩ = some (.slice A x.list.length c) := G5.cell 3
    have fj3 := G5.free 3
    have j4 : ((w4.setCell ⟨w2.heap.size, 1, none⟩ (.int .i64 v))).cell? ⟨w2.heap.size, 4, none⟩ = some (.slice E x.pairs.length d) := G5.cell 4
    have fj4 := G5.free 4
    clear R3 G3 R4 G4 G5 R5 D3 D4' hD4 hC3 U3 V3
    go_wp2
    refine bodyPost_ret (v := .agg #[.int .i64 x.kind, .int .i64 v, .int .i64 x.value, .slice A x.list.length c, .slice E x.pairs.length d]) (by simp [results, Try.results54, go_sem, *]) rfl ?_
    refine ⟨⟨x.kind, v, x.value, x.list, x.pairs⟩, A, c, E, d, rfl, ⟨own_mono (b' := w.heap.size) (by repeat (first | with_reducible exact U4 | with_reducible refine World.ownsRow.alloc ?_ _ | with_reducible refine ownsRow_setCell_below ?_ (by first | assumption | (simp; omega)) _ | with_reducible refine ownsRow_setCell_other ?_ (by first | assumption | (simp; omega)) _)) (Nat.le_succ _), own_mono (b' := w.heap.size) (by repeat (first | with_reducible exact V4 | with_reducible refine World.ownsRow.alloc ?_ _ | with_reducible refine ownsRow_setCell_below ?_ (by first | assumption | (simp; omega)) _ | with_reducible refine ownsRow_setCell_other ?_ (by first | assumption | (simp; omega)) _)) (Nat.le_succ _), hfar⟩, FX, ⟨Nat.le_succ_of_le hln.1, Nat.le_succ_of_le hln.2⟩, ?_, ?_⟩
    · repeat (first | with_reducible exact hC4 | with_reducible refine Cur.alloc ?_ _ | with_reducible refine Cur.set ?_ (by first | assumption | (simp; omega)) _)
    · repeat (first | with_reducible exact D4 | with_reducible refine Dr.alloc ?_ _ | with_reducible refine Dr.new ?_ (by first | exact Nat.le_refl _ | assumption | (simp; omega)) _)
  have t1 : (k == 1) = false := by simp [e1]
  by_cases e2 : k = 2
  · have t2 : (k == 2) = true := by simp [e2]
    clear e0 e1 e2
    have D4' := D3.alloc (.cells #[.int .i64 (-1), .int .i64 9, .int .i64 10] 3)
    go_wp2_with fail
    refine (l1PickInt (n := 3) (c := 3) (xs := [-1, 9, 10]) _ (hC3.alloc _) (Row.new w3 _ _) rfl (by omega) (by omega) (by omega) (by omega)).mono ?_
    rintro e w4 ⟨v, rfl, hv, hC4, hD4⟩
    have hfv : Fit v := by
      simp at hv
      unfold Fit
      omega
    have R4 := (R3.alloc _).dr hD4 hpn
    have G4 := (G3.alloc _).dr hD4 hn2
    have U4 := own_dr_past (U3.alloc _) hD4 (by omega)
    have V4 := own_dr_past (V3.alloc _) hD4 (by omega)
    have D4 := D4'.trans hD4
    have G5 : Row (w4.setCell ⟨w2.heap.size, 2, none⟩ (.int .i64 v)) w2.heap.size 39 [.int .i64 x.kind, .int .i64 x.field, .int .i64 v, .slice A x.list.length c, .slice E x.pairs.length d] := G4.set 2 (.int .i64 v)
    have R5 := R4.far (p := ⟨w2.heap.size, 2, none⟩) hn4 (.int .i64 v)
    have hl4 := R4.lt
    have hg4 := G4.lt
    have FX : Hid (FitW ⟨x.kind, x.field, v, x.list, x.pairs⟩) := by obtain ⟨e1, e2, e3, e4, e5⟩ := HFX.out; exact ⟨e1, e2, hfv, e4, e5⟩
    have NU : (Value.slice A x.list.length c).ownBlock ≠ some w2.heap.size := fun e => by have := hU2 _ e; omega
    have NV : (Value.slice E x.pairs.length d).ownBlock ≠ some w2.heap.size := fun e => by have := hV2 _ e; omega
    have a0 : (w4).cell? ⟨w.heap.size, 0, none⟩ = some (.int .i64 0) := R4.cell 0
    have fa0 := R4.free 0
    have a1 : (w4).cell? ⟨w.heap.size, 1, none⟩ = some (.int .i64 0) := R4.cell 1
    have fa1 := R4.free 1
    have a2 : (w4).cell? ⟨w.heap.size, 2, none⟩ = some (.int .i64 0) := R4.cell 2
    have fa2 := R4.free 2
    have a3 : (w4).cell? ⟨w.heap.size, 3, none⟩ = some (.slice none 0 0) := R4.cell 3
    have fa3 := R4.free 3
    have a4 : (w4).cell? ⟨w.heap.size, 4, none⟩ = some (.slice none 0 0) := R4.cell 4
    have fa4 := R4.free 4
    have g0 : (w4).cell? ⟨w2.heap.size, 0, none⟩ = some (.int .i64 x.kind) := G4.cell 0
    have fg0 := G4.free 0
    have g1 : (w4).cell? ⟨w2.heap.size, 1, none⟩ = some (.int .i64 x.field) := G4.cell 1
    have fg1 := G4.free 1
    have g2 : (w4).cell? ⟨w2.heap.size, 2, none⟩ = some (.int .i64 x.value) := G4.cell 2
    have fg2 := G4.free 2
    have g3 : (w4).cell? ⟨w2.heap.size, 3, none⟩ = some (.slice A x.list.length c) := G4.cell 3
    have fg3 := G4.free 3
    have g4 : (w4).cell? ⟨w2.heap.size, 4, none⟩ = some (.slice E x.pairs.length d) := G4.cell 4
    have fg4 := G4.free 4
    have b0 : ((w4.setCell ⟨w2.heap.size, 2, none⟩ (.int .i64 v))).cell? ⟨w.heap.size, 0, none⟩ = some (.int .i64 0) := R5.cell 0
    have fb0 := R5.free 0
    have b1 : ((w4.setCell ⟨w2.heap.size, 2, none⟩ (.int .i64 v))).cell? ⟨w.heap.size, 1, none⟩ = some (.int .i64 0) := R5.cell 1
    have fb1 := R5.free 1
    have b2 : ((w4.setCell ⟨w2.heap.size, 2, none⟩ (.int .i64 v))).cell? ⟨w.heap.size, 2, none⟩ = some (.int .i64 0) := R5.cell 2
    have fb2 := R5.free 2
    have b3 : ((w4.setCell ⟨w2.heap.size, 2, none⟩ (.int .i64 v))).cell? ⟨w.heap.size, 3, none⟩ = some (.slice none 0 0) := R5.cell 3
    have fb3 := R5.free 3
    have b4 : ((w4.setCell ⟨w2.heap.size, 2, none⟩ (.int .i64 v))).cell? ⟨w.heap.size, 4, none⟩ = some (.slice none 0 0) := R5.cell 4
    have fb4 := R5.free 4
    have j0 : ((w4.setCell ⟨w2.heap.size, 2, none⟩ (.int .i64 v))).cell? ⟨w2.heap.size, 0, none⟩ = some (.int .i64 x.kind) := G5.cell 0
    have fj0 := G5.free 0
    have j1 : ((w4.setCell ⟨w2.heap.size, 2, none⟩ (.int .i64 v))).cell? ⟨w2.heap.size, 1, none⟩ = some (.int .i64 x.field) := G5.cell 1
    have fj1 := G5.free 1
    have j2 : ((w4.setCell ⟨w2.heap.size, 2, none⟩ (.int .i64 v))).cell? ⟨w2.heap.size, 2, none⟩ = some (.int .i64 v) := G5.cell 2
    have fj2 := G5.free 2
    have j3 : ((w4.setCell ⟨w2.heap.size, 2, none⟩ (.int .i64 v))).cell? ⟨w2.heap.size, 3, none⟩ = some (.slice A x.list.length c) := G5.cell 3
    have fj3 := G5.free 3
    have j4 : ((w4.setCell ⟨w2.heap.size, 2, none⟩ (.int .i64 v))).cell? ⟨w2.heap.size, 4, none⟩ = some (.slice E x.pairs.length d) := G5.cell 4
    have fj4 := G5.free 4
    clear R3 G3 R4 G4 G5 R5 D3 D4' hD4 hC3 U3 V3
    go_wp2
    refine bodyPost_ret (v := .agg #[.int .i64 x.kind, .int .i64 x.field, .int .i64 v, .slice A x.list.length c, .slice E x.pairs.length d]) (by simp [results, Try.results54, go_sem, *]) rfl ?_
    refine ⟨⟨x.kind, x.field, v, x.list, x.pairs⟩, A, c, E, d, rfl, ⟨own_mono (b' := w.heap.size) (by repeat (first | with_reducible exact U4 | with_reducible refine World.ownsRow.alloc ?_ _ | with_reducible refine ownsRow_setCell_below ?_ (by first | assumption | (simp; omega)) _ | with_reducible refine ownsRow_setCell_other ?_ (by first | assumption | (simp; omega)) _)) (Nat.le_succ _), own_mono (b' := w.heap.size) (by repeat (first | with_reducible exact V4 | with_reducible refine World.ownsRow.alloc ?_ _ | with_reducible refine ownsRow_setCell_below ?_ (by first | assumption | (simp; omega)) _ | with_reducible refine ownsRow_setCell_other ?_ (by first | assumption | (simp; omega)) _)) (Nat.le_succ _), hfar⟩, FX, ⟨Nat.le_succ_of_le hln.1, Nat.le_succ_of_le hln.2⟩, ?_, ?_⟩
    · repeat (first | with_reducible exact hC4 | with_reducible refine Cur.alloc ?_ _ | with_reducible refine Cur.set ?_ (by first | assumption | (simp; omega)) _)
    · repeat (first | with_reducible exact D4 | with_reducible refine Dr.alloc ?_ _ | with_reducible refine Dr.new ?_ (by first | exact Nat.le_refl _ | assumption | (simp; omega)) _)
  have t2 : (k == 2) = false := by simp [e2]
  by_cases e3 : k = 3
  · have t3 : (k == 3) = true := by simp [e3]
    clear e0 e1 e2 e3
    have g3 : w3.drew.cell? ⟨w2.heap.size, 3, none⟩ = some (.slice A x.list.length c) := G3.cell 3
    have bd : Below w3.heap.size w3 w3.drew := (Below.refl _ _).drew
    have hrow : ∀ q, (Value.slice A x.list.length c).ownBlock = some q → w.heap.size + 1 ≤ q := fun q hq => (hU2 q hq).1
    have h63 : x.list.length + 1 ≤ 100 := by omega
    have hC3d := hC3.drew
    have zd : w3.drew.heap.size = w3.heap.size := rfl
    go_wp2_with fail
    refine wp_region_T 6 (fun w' => w'.cell? ⟨w2.heap.size, 3, none⟩ = some (.slice A x.list.length c)) (by kernel_rfl) g3 (fun hC => ?_)
    refine wpAnyT_take (i := 0) (v := ?v9_0) rfl (by kernel_rfl) (fun _ _ _ h => h) (Or.inl ⟨by rfl, ?h9_0⟩) (by assumption) ?r9_0; (case h9_0 => (intro w9 hC9; (try dsimp only at hC9); go_simp; (try with_reducible rfl))); (try simp only [Act.put, List.setIfInBounds_toArray, List.set_cons_zero, List.set_cons_succ])
    refine wpAnyT_take (i := 1) (v := ?v9_1) rfl (by kernel_rfl) (fun _ _ _ h => h) (Or.inl ⟨by rfl, ?h9_1⟩) (by assumption) ?r9_1; (case h9_1 => (intro w9 hC9; (try dsimp only at hC9); go_simp; (try with_reducible rfl))); (try simp only [Act.put, List.setIfInBounds_toArray, List.set_cons_zero, List.set_cons_succ])
    refine wpAnyT_take (i := 2) (v := ?v9_2) rfl (by kernel_rfl) (fun _ _ _ h => h) (Or.inl ⟨by rfl, ?h9_2⟩) (by assumption) ?r9_2; (case h9_2 => (intro w9 hC9; (try dsimp only at hC9); go_simp; (try with_reducible rfl))); (try simp only [Act.put, List.setIfInBounds_toArray, List.set_cons_zero, List.set_cons_succ])
    refine wpAnyT_rest 3 (by kernel_rfl) ?_; simp only [List.drop_succ_cons, List.drop_zero]
    refine wpListT_step rfl ?_
    go_wp2
    refine ⟨fun _ => cel86 g3 _, ?_⟩
    refine wpListT_step rfl ?_
    go_wp2_with fail
    refine (l1PickInt (n := 3) (c := 3) (xs := [0, 9, 10]) _ (hC3d.alloc _) (Row.new w3.drew _ _) rfl (by omega) (by omega) (by omega) (by omega)).mono ?_
    rintro e w4 ⟨v, rfl, hv, hC4, hD4⟩
    have hfv : Fit v := by
      simp at hv
      unfold Fit
      omega
    have R4 := ((R3.below bd hl3).alloc _).dr hD4 hpn
    have G4 := ((G3.below bd hg3).alloc _).dr hD4 hn2
    have U4 := own_dr_past ((own_below U3 bd).alloc _) hD4 (by omega)
    have V4 := own_dr_past ((own_below V3 bd).alloc _) hD4 (by omega)
    have D4 := ((D3.trans (Dr.of_below bd (Nat.le_refl _))).alloc _).trans hD4
    have g4 : w4.cell? ⟨w2.heap.size, 3, none⟩ = some (.slice A x.list.length c) := G4.cell 3
    have hl4 := R4.lt
    have hg4 := G4.lt
    clear R3 G3 U3 V3 D3 hD4 hC3 g3 hC hC3d bd
    go_wp2
    refine ⟨fun _ => g4, ?_⟩
    refine wpListT_step rfl ?_
    go_wp2
    refine ⟨fun _ => cel86 g4 _, ?_⟩
    refine wpListT_end (by decide) rfl ?_
    have HR := Lib.hid R4
    have HG := Lib.hid G4
    have HV := Lib.hid V4
    have HC := Lib.hid hC4
    have HD := Lib.hid D4
    have hz4 := D4.size
    clear R4 G4 V4 hC4 D4
    go_wp2_with (at_builtin; refine wpList_append_own_at _ rfl _ _ 24 rfl (w.heap.size + 1) 3 i0 (.int .i64 0) 1 8 Try.underlying24 hi hz0 hz1 hz2 rfl (by decide) _ _ _ rfl (U4.alloc _) ⟨w4.heap.size, 0, none⟩ 1 1 [_] rfl rfl (one_new _ _ _) (by simp [Value.oneCell']) (by unfold maxLen; omega) (by omega) (by simp; omega) ?_)
    intro v' w9 hown9 hgrow _ hat
    obtain ⟨A9, c9, rfl, _, _⟩ := own_form hown9
    obtain ⟨xs, hxs⟩ : ∃ xs, xs = x.list ++ [v] := ⟨_, rfl⟩
    have hlen : x.list.length + 1 = xs.length := by rw [hxs]; simp
    have emap : xs.map (Value.int .i64) = x.list.map (Value.int .i64) ++ [.int .i64 v] := by rw [hxs]; simp
    rw [hlen] at hown9 hat ⊢
    rw [← emap] at hown9
    have hxl : xs.length ≤ 5 := by have := hln.1; omega
    have HXS := Lib.hid hxs
    clear hlen emap hxs
    have NU : (Value.slice A9 xs.length c9).ownBlock ≠ some w2.heap.size := fun e => by
      rcases hat with hat | hat
      · have := hU2 _ (hat.symm.trans e); omega
      · rw [hat] at e; injection e with e; first | omega | (simp at e; omega)
    have NV : (Value.slice E x.pairs.length d).ownBlock ≠ some w2.heap.size := fun e => by have := hV2 _ e; omega
    have hfar9 : Far (.slice A9 xs.length c9) (.slice E x.pairs.length d) := by
      rcases hat with hat | hat
      · rcases hfar with h1 | h1
        · exact .inl (hat.trans h1)
        · exact .inr (by rw [hat]; exact h1)
      · refine .inr fun hh => ?_
        rw [hat] at hh
        have := hV2 _ hh.symm
        first | omega | (simp at this; omega)
    have R9 := (HR.out.alloc (.cells #[.int .i64 v] 3)).grown hgrow (fun e => by have := hrow _ e.symm; omega)
    have G9 := (HG.out.alloc (.cells #[.int .i64 v] 3)).grown hgrow (fun e => by have := hU2 _ e.symm; omega)
    have C9 := (HC.out.alloc (.cells #[.int .i64 v] 3)).grown hgrow (fun q hq => by have := hrow q hq; omega)
    have D9 := (HD.out.alloc (.cells #[.int .i64 v] 3)).grown hgrow (fun q hq => by have := hrow q hq; omega)
    have V4 := own_grown (HV.out.alloc (.cells #[.int .i64 v] 3)) hgrow (fun g hg hh => by
      rcases hfar with h1 | h1
      · rw [h1] at hh; cases hh
      · exact h1 (hh.symm.trans hg.symm))
    have O9 := hown9
    have G5 : Row (w9.setCell ⟨w2.heap.size, 3, none⟩ (.slice A9 xs.length c9)) w2.heap.size 39 [.int .i64 x.kind, .int .i64 x.field, .int .i64 x.value, .slice A9 xs.length c9, .slice E x.pairs.length d] := G9.set 3 (.slice A9 xs.length c9)
    have R5 := R9.far (p := ⟨w2.heap.size, 3, none⟩) hn4 (.slice A9 xs.length c9)
    have hl9 := R9.lt
    have hg9 := G9.lt
    have FX : Hid (FitW ⟨x.kind, x.field, x.value, xs, x.pairs⟩) := by
      obtain ⟨e1, e2, e3, e4, e5⟩ := HFX.out
      refine ⟨e1, e2, e3, fun y hy => ?_, e5⟩
      have hy : y ∈ xs := hy
      rw [HXS.out] at hy
      rcases List.mem_append.1 hy with hy | hy
      · exact e4 y hy
      · simp at hy; subst hy; exact hfv
    have a0 : (w9).cell? ⟨w.heap.size, 0, none⟩ = some (.int .i64 0) := R9.cell 0
    have fa0 := R9.free 0
    have a1 : (w9).cell? ⟨w.heap.size, 1, none⟩ = some (.int .i64 0) := R9.cell 1
    have fa1 := R9.free 1
    have a2 : (w9).cell? ⟨w.heap.size, 2, none⟩ = some (.int .i64 0) := R9.cell 2
    have fa2 := R9.free 2
    have a3 : (w9).cell? ⟨w.heap.size, 3, none⟩ = some (.slice none 0 0) := R9.cell 3
    have fa3 := R9.free 3
    have a4 : (w9).cell? ⟨w.heap.size, 4, none⟩ = some (.slice none 0 0) := R9.cell 4
    have fa4 := R9.free 4
    have g0 : (w9).cell? ⟨w2.heap.size, 0, none⟩ = some (.int .i64 x.kind) := G9.cell 0
    have fg0 := G9.free 0
    have g1 : (w9).cell? ⟨w2.heap.size, 1, none⟩ = some (.int .i64 x.field) := G9.cell 1
    have fg1 := G9.free 1
    have g2 : (w9).cell? ⟨w2.heap.size, 2, none⟩ = some (.int .i64 x.value) := G9.cell 2
    have fg2 := G9.free 2
    have g3 : (w9).cell? ⟨w2.heap.size, 3, none⟩ = some (.slice A x.list.length c) := G9.cell 3
    have fg3 := G9.free 3
    have g4 : (w9).cell? ⟨w2.heap.size, 4, none⟩ = some (.slice E x.pairs.length d) := G9.cell 4
    have fg4 := G9.free 4
    have b0 : (w9.setCell ⟨w2.heap.size, 3, none⟩ (.slice A9 xs.length c9)).cell? ⟨w.heap.size, 0, none⟩ = some (.int .i64 0) := R5.cell 0
    have fb0 := R5.free 0
    have b1 : (w9.setCell ⟨w2.heap.size, 3, none⟩ (.slice A9 xs.length c9)).cell? ⟨w.heap.size, 1, none⟩ = some (.int .i64 0) := R5.cell 1
    have fb1 := R5.free 1
    have b2 : (w9.setCell ⟨w2.heap.size, 3, none⟩ (.slice A9 xs.length c9)).cell? ⟨w.heap.size, 2, none⟩ = some (.int .i64 0) := R5.cell 2
    have fb2 := R5.free 2
    have b3 : (w9.setCell ⟨w2.heap.size, 3, none⟩ (.slice A9 xs.length c9)).cell? ⟨w.heap.size, 3, none⟩ = some (.slice none 0 0) := R5.cell 3
    have fb3 := R5.free 3
    have b4 : (w9.setCell ⟨w2.heap.size, 3, none⟩ (.slice A9 xs.length c9)).cell? ⟨w.heap.size, 4, none⟩ = some (.slice none 0 0) := R5.cell 4
    have fb4 := R5.free 4
    have j0 : (w9.setCell ⟨w2.heap.size, 3, none⟩ (.slice A9 xs.length c9)).cell? ⟨w2.heap.size, 0, none⟩ = some (.int .i64 x.kind) := G5.cell 0
    have fj0 := G5.free 0
    have j1 : (w9.setCell ⟨w2.heap.size, 3, none⟩ (.slice A9 xs.length c9)).cell? ⟨w2.heap.size, 1, none⟩ = some (.int .i64 x.field) := G5.cell 1
    have fj1 := G5.free 1
    have j2 : (w9.setCell ⟨w2.heap.size, 3, none⟩ (.slice A9 xs.length c9)).cell? ⟨w2.heap.size, 2, none⟩ = some (.int .i64 x.value) := G5.cell 2
    have fj2 := G5.free 2
    have j3 : (w9.setCell ⟨w2.heap.size, 3, none⟩ (.slice A9 xs.length c9)).cell? ⟨w2.heap.size, 3, none⟩ = some (.slice A9 xs.length c9) := G5.cell 3
    have fj3 := G5.free 3
    have j4 : (w9.setCell ⟨w2.heap.size, 3, none⟩ (.slice A9 xs.length c9)).cell? ⟨w2.heap.size, 4, none⟩ = some (.slice E x.pairs.length d) := G5.cell 4
    have fj4 := G5.free 4
    clear HR HG HV HC HD R9 G9 R5 G5 hown9 hgrow U4 hat g4
    go_wp2
    refine bodyPost_ret (v := .agg #[.int .i64 x.kind, .int .i64 x.field, .int .i64 x.value, .slice A9 xs.length c9, .slice E x.pairs.length d]) (by simp [results, Try.results54, go_sem, *]) rfl ?_
    refine ⟨⟨x.kind, x.field, x.value, xs, x.pairs⟩, A9, c9, E, d, rfl, ⟨own_mono (b' := w.heap.size) (by repeat (first | with_reducible exact O9 | with_reducible refine World.ownsRow.alloc ?_ _ | with_reducible refine ownsRow_setCell_below ?_ (by first | assumption | (simp; omega)) _ | with_reducible refine ownsRow_setCell_other ?_ (by first | assumption | (simp; omega)) _)) (Nat.le_succ _), own_mono (b' := w.heap.size) (by repeat (first | with_reducible exact V4 | with_reducible refine World.ownsRow.alloc ?_ _ | with_reducible refine ownsRow_setCell_below ?_ (by first | assumption | (simp; omega)) _ | with_reducible refine ownsRow_setCell_other ?_ (by first | assumption | (simp; omega)) _)) (Nat.le_succ _), hfar9⟩, FX, ⟨hxl, Nat.le_succ_of_le hln.2⟩, ?_, ?_⟩
    · repeat (first | with_reducible exact C9 | with_reducible refine Cur.alloc ?_ _ | with_reducible refine Cur.set ?_ (by first | assumption | (simp; omega)) _)
    · repeat (first | with_reducible exact D9 | with_reducible refine Dr.alloc ?_ _ | with_reducible refine Dr.new ?_ (by first | exact Nat.le_refl _ | assumption | (simp; omega)) _)
  have t3 : (k == 3) = false := by simp [e3]
  clear e0 e1 e2 e3
  have a0 : (w3).cell? ⟨w.heap.size, 0, none⟩ = some (.int .i64 0) := R3.cell 0
  have fa0 := R3.free 0
  have a1 : (w3).cell? ⟨w.heap.size, 1, none⟩ = some (.int .i64 0) := R3.cell 1
  have fa1 := R3.free 1
  have a2 : (w3).cell? ⟨w.heap.size, 2, none⟩ = some (.int .i64 0) := R3.cell 2
  have fa2 := R3.free 2
  have a3 : (w3).cell? ⟨w.heap.size, 3, none⟩ = some (.slice none 0 0) := R3.cell 3
  have fa3 := R3.free 3
  have a4 : (w3).cell? ⟨w.heap.size, 4, none⟩ = some (.slice none 0 0) := R3.cell 4
  have fa4 := R3.free 4
  have g0 : (w3).cell? ⟨w2.heap.size, 0, none⟩ = some (.int .i64 x.kind) := G3.cell 0
  have fg0 := G3.free 0
  have g1 : (w3).cell? ⟨w2.heap.size, 1, none⟩ = some (.int .i64 x.field) := G3.cell 1
  have fg1 := G3.free 1
  have g2 : (w3).cell? ⟨w2.heap.size, 2, none⟩ = some (.int .i64 x.value) := G3.cell 2
  have fg2 := G3.free 2
  have g3 : (w3).cell? ⟨w2.heap.size, 3, none⟩ = some (.slice A x.list.length c) := G3.cell 3
  have fg3 := G3.free 3
  have g4 : (w3).cell? ⟨w2.heap.size, 4, none⟩ = some (.slice E x.pairs.length d) := G3.cell 4
  have fg4 := G3.free 4
  have U4 := U3
  have V4 := V3
  clear R3 G3 U3 V3
  go_wp2
  refine bodyPost_ret (v := .agg #[.int .i64 x.kind, .int .i64 x.field, .int .i64 x.value, .slice A x.list.length c, .slice E x.pairs.length d]) (by simp [results, Try.results54, go_sem, *]) rfl ?_
  refine ⟨x, A, c, E, d, rfl, ⟨own_mono (b' := w.heap.size) (by repeat (first | with_reducible exact U4 | with_reducible refine World.ownsRow.alloc ?_ _ | with_reducible refine ownsRow_setCell_below ?_ (by first | assumption | (simp; omega)) _ | with_reducible refine ownsRow_setCell_other ?_ (by first | assumption | (simp; omega)) _)) (Nat.le_succ _), own_mono (b' := w.heap.size) (by repeat (first | with_reducible exact V4 | with_reducible refine World.ownsRow.alloc ?_ _ | with_reducible refine ownsRow_setCell_below ?_ (by first | assumption | (simp; omega)) _ | with_reducible refine ownsRow_setCell_other ?_ (by first | assumption | (simp; omega)) _)) (Nat.le_succ _), hfar⟩, HFX, ⟨Nat.le_succ_of_le hln.1, Nat.le_succ_of_le hln.2⟩, ?_, ?_⟩
  · repeat (first | with_reducible exact hC3 | with_reducible refine Cur.alloc ?_ _ | with_reducible refine Cur.set ?_ (by first | assumption | (simp; omega)) _)
  · repeat (first | with_reducible exact D3 | with_reducible refine Dr.alloc ?_ _ | with_reducible refine Dr.new ?_ (by first | exact Nat.le_refl _ | assumption | (simp; omega)) _)
end Go.Proofs.Ytphbochfpidgeaa.Wk
