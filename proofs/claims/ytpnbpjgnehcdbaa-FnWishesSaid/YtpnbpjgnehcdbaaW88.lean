/-
  Walks of chapter 4's draws: wishes with values, and with items.
  Conditions: none beyond the bounds that each states.
-/
import Derived.Test.YtpnbpjgnehcdbaaW87
import Derived.Deep.RegionHeld3
namespace Go.Proofs.Ytpnbpjgnehcdbaa.Wk
open Go.RowKit Go.Proofs.Ytpnbpjgnehcdbaa.M
set_option linter.unusedVariables false
set_option linter.unusedSimpArgs false
attribute [local go_sem] cell_grow

theorem own_slI {w : World} {lo E : Nat} {A : Option Addr} {c : Nat} {l : List Int} (h : w.ownsRow lo E 1 (.slice A l.length c) l.length (l.map (Value.int .i64))) (hf : ∀ y ∈ l, Fit y) : Sl RI 1 w w.heap.size A l.length c l := by
  obtain ⟨A', n', c', e, hs⟩ := own_ints h hf
  injection e with e1 e2 e3
  subst e1 e2 e3
  exact hs
theorem own_slP {w : World} {lo E : Nat} {A : Option Addr} {c : Nat} {l : List (Int × Int)} (h : w.ownsRow lo E 2 (.slice A l.length c) l.length (prc l)) (hf : ∀ q ∈ l, Fit q.1 ∧ Fit q.2) : Sl RP 2 w w.heap.size A l.length c l := by
  obtain ⟨A', n', c', e, hs⟩ := own_pairs h hf
  injection e with e1 e2 e3
  subst e1 e2 e3
  exact hs
theorem box88 {w' : World} {g : Nat} {E : TypeId} {a b c d e : Value} (h : Row w' g E [a, b, c, d, e]) :
    Row w' g E [a, b, c, d, e] ∧ w'.cell? ⟨g, 0, none⟩ = some a ∧ w'.cell? ⟨g, 1, none⟩ = some b ∧ w'.cell? ⟨g, 2, none⟩ = some c ∧ w'.cell? ⟨g, 3, none⟩ = some d ∧ w'.cell? ⟨g, 4, none⟩ = some e :=
  ⟨h, h.cell 0, h.cell 1, h.cell 2, h.cell 3, h.cell 4⟩
theorem box88c {w' : World} {g2 : Nat} {E2 : TypeId} {i j : Value} (k : Row w' g2 E2 [i, j]) : True ∧ Row w' g2 E2 [i, j] ∧ w'.cell? ⟨g2, 0, none⟩ = some i ∧ w'.cell? ⟨g2, 1, none⟩ = some j := ⟨trivial, k, k.cell 0, k.cell 1⟩
theorem box88b {w' : World} {g g2 : Nat} {E E2 : TypeId} {a b c d e i j : Value} (h : Row w' g E [a, b, c, d, e]) (k : Row w' g2 E2 [i, j]) :
    (Row w' g E [a, b, c, d, e] ∧ Row w' g2 E2 [i, j]) ∧ (w'.cell? ⟨g, 0, none⟩ = some a ∧ w'.cell? ⟨g, 1, none⟩ = some b ∧ w'.cell? ⟨g, 2, none⟩ = some c ∧ w'.cell? ⟨g, 3, none⟩ = some d ∧ w'.cell? ⟨g, 4, none⟩ = some e) ∧ w'.cell? ⟨g2, 0, none⟩ = some i ∧ w'.cell? ⟨g2, 1, none⟩ = some j :=
  ⟨⟨h, k⟩, ⟨h.cell 0, h.cell 1, h.cell 2, h.cell 3, h.cell 4⟩, k.cell 0, k.cell 1⟩
section
variable {A0 : Option Addr} {n0 c0 : Nat} {bs : List UInt8}
set_option maxHeartbeats 3000000 in
set_option maxRecDepth 100000 in
theorem drawCV (w : World) (h : Sl RB 1 w w.heap.size A0 n0 c0 bs) (hn : n0 ≤ 1048576) : Calls Try.prog 5 #[.slice A0 n0 c0] w fun e w' => ∃ (x : Wi) (A : Option Addr) (c : Nat) (E : Option Addr) (d : Nat) (a b : Int), e = .returned (.tuple #[.agg #[.int .i64 x.kind, .int .i64 x.field, .int .i64 x.value, .slice A x.list.length c, .slice E x.pairs.length d], .int .i64 a, .int .i64 b]) ∧ Sl RI 1 w' w'.heap.size A x.list.length c x.list ∧ Sl RP 2 w' w'.heap.size E x.pairs.length d x.pairs ∧ Hid (FitW x) ∧ Fit a ∧ Fit b ∧ Below w.heap.size w w' := by
  have R0 := Row.new w 27 [.int .i64 0, .int .i64 0, .int .i64 0, .slice none 0 0, .slice none 0 0]
  have B0 := ((Below.refl w.heap.size w).alloc (by simp; try omega) (.cells #[.int .i64 0, .int .i64 0, .int .i64 0, .slice none 0 0, .slice none 0 0] 27))
  have sz : (w.alloc (.cells #[.int .i64 0, .int .i64 0, .int .i64 0, .slice none 0 0, .slice none 0 0] 27)).heap.size = w.heap.size + 1 := by simp
  have h1 := h.on RB.keeps B0
  have lR0 := R0.lt
  go_enter Try.func5, Try.ntmps5
  go_wp2_with fail
  refine (l1New _ h1 hn).mono ?_
  rintro e w2 ⟨rfl, hC, hB, hs⟩
  rw [sz] at hs hB hC ⊢
  have R0 := R0.below hB (Nat.lt_succ_self _)
  have B2 := B0.trans (hB.mono (Nat.le_succ _))
  have hp : w.heap.size < w2.heap.size := by omega
  obtain ⟨p, hpe⟩ : ∃ p, w.heap.size + 1 = p := ⟨_, rfl⟩
  rw [hpe] at hC ⊢
  have hpn : w.heap.size ≠ p := by omega
  have hwp : w.heap.size ≤ p := by omega
  have hp2 : p < w2.heap.size := by omega
  clear hB hs sz h1 hpe B0
  go_wp2_with fail
  refine (l4Any _ hC).mono ?_
  rintro e w3 ⟨x, A, c, E, d, rfl, ⟨hU, hV, hfar⟩, HFX, hln, hC3, hD3⟩
  have R0 := R0.dr hD3 hpn
  have B3 := B2.trans (hD3.below hwp (by omega))
  have z3 := hD3.size
  have hn3 : w3.heap.size ≠ p := by omega
  clear hD3 hC B2
  go_wp2_with fail
  refine (l1Below (n := 11) _ (hC3.alloc _) (by omega) (by omega)).mono ?_
  rintro e w4 ⟨a, rfl, a0, a1, hC4, hD4⟩
  have hfa : Fit a := by unfold Fit; omega
  have R0 := (R0.alloc _).dr hD4 hpn
  have G4 := (Row.new w3 27 [.int .i64 x.kind, .int .i64 x.field, .int .i64 x.value, .slice A x.list.length c, .slice E x.pairs.length d]).dr hD4 hn3
  have hU := own_dr_past (hU.alloc (.cells #[.int .i64 x.kind, .int .i64 x.field, .int .i64 x.value, .slice A x.list.length c, .slice E x.pairs.length d] 27)) hD4 hp2
  have hV := own_dr_past (hV.alloc (.cells #[.int .i64 x.kind, .int .i64 x.field, .int .i64 x.value, .slice A x.list.length c, .slice E x.pairs.length d] 27)) hD4 hp2
  have z4 := hD4.size
  have B4 := (B3.alloc (by omega) (.cells #[.int .i64 x.kind, .int .i64 x.field, .int .i64 x.value, .slice A x.list.length c, .slice E x.pairs.length d] 27)).trans (hD4.below hwp (by simp; omega))
  clear hD4 hC3 B3
  have bd : Below w4.heap.size w4 w4.drew := (Below.refl _ _).drew
  have lR0 := R0.lt
  have lG4 := G4.lt
  have R5 := R0.below bd lR0
  have G5 := G4.below bd lG4
  have U5 := own_below hU bd
  have V5 := own_below hV bd
  have B5 := B4.trans (bd.mono (by have := B4.size; omega))
  have hC5 := hC4.drew
  have z5 : w4.heap.size ≤ w4.drew.heap.size := Nat.le_refl _
  have g0 : w4.drew.cell? ⟨w3.heap.size, 0, none⟩ = some (.int .i64 x.kind) ∧ w4.drew.cell? ⟨w3.heap.size, 1, none⟩ = some (.int .i64 x.field) ∧ w4.drew.cell? ⟨w3.heap.size, 2, none⟩ = some (.int .i64 x.value) ∧ w4.drew.cell? ⟨w3.heap.size, 3, none⟩ = some (.slice A x.list.length c) ∧ w4.drew.cell? ⟨w3.heap.size, 4, none⟩ = some (.slice E x.pairs.length d) := ⟨G5.cell 0, G5.cell 1, G5.cell 2, G5.cell 3, G5.cell 4⟩
  clear R0 G4 hU hV B4 hC4 bd
  go_wp2_with fail
  have hn35 : w3.heap.size ≠ w.heap.size := by omega
  have hww : w.heap.size < w2.heap.size := hp
  have CT : Hid (∀ w : World, Cur w p → Calls Try.prog 19 #[.pointer (some ⟨p, 0, none⟩), .int .i64 12] w fun e w' => ∃ b : Int, e = .returned (.int .i64 b) ∧ 0 ≤ b ∧ b < 12 ∧ Cur w' p ∧ Dr p w w') := fun w h => l1Below w h (by omega) (by omega)
  go_region_held3 (fun w' => Row w' w3.heap.size 27 [.int .i64 x.kind, .int .i64 x.field, .int .i64 x.value, .slice A x.list.length c, .slice E x.pairs.length d] ∧ w'.cell? ⟨w3.heap.size, 0, none⟩ = some (.int .i64 x.kind) ∧ w'.cell? ⟨w3.heap.size, 1, none⟩ = some (.int .i64 x.field) ∧ w'.cell? ⟨w3.heap.size, 2, none⟩ = some (.int .i64 x.value) ∧ w'.cell? ⟨w3.heap.size, 3, none⟩ = some (.slice A x.list.length c) ∧ w'.cell? ⟨w3.heap.size, 4, none⟩ = some (.slice E x.pairs.length d)) (first | with_reducible exact box88 G5 | with_reducible exact box88 G6 | exact box88 (((((G6.far (p := ⟨w.heap.size, 0, none⟩) hn35 _).far (p := ⟨w.heap.size, 1, none⟩) hn35 _).far (p := ⟨w.heap.size, 2, none⟩) hn35 _).far (p := ⟨w.heap.size, 3, none⟩) hn35 _).far (p := ⟨w.heap.size, 4, none⟩) hn35 _) | fail) ((go_simp; go_at_call 19; with_reducible (refine (CT.out _ hC5).mono ?_); rintro e w6 ⟨b, rfl, b0, b1, hC6, hD6⟩; have R6 := R5.dr hD6 hpn; have G6 := G5.dr hD6 hn3; have l6 := R6.lt; have ⟨_, r0, r1, r2, r3, r4⟩ := box88 R6; have fr0 := R6.free 0; have fr1 := R6.free 1; have fr2 := R6.free 2; have fr3 := R6.free 3; have fr4 := R6.free 4))
  have hfb : Fit (b - 1) := by unfold Fit; omega
  have hwr : IntKind.i64.wrap (b - 1) = b - 1 := by rw [IntKind.wrap_i64]; omega
  have U6 := own_dr_past U5 hD6 hp2
  have V6 := own_dr_past V5 hD6 hp2
  have B6 := B5.trans (hD6.below hwp (by have := B5.size; omega))
  obtain ⟨e1, e2, e3, e4, e5⟩ := HFX.out
  clear R6 G6
  go_wp2
  refine bodyPost_ret (v := .tuple #[.agg #[.int .i64 x.kind, .int .i64 x.field, .int .i64 x.value, .slice A x.list.length c, .slice E x.pairs.length d], .int .i64 a, .int .i64 (b - 1)]) (by simp [results, Try.results5, go_sem, *]) rfl ?_
  exact ⟨x, A, c, E, d, a, b - 1, rfl, own_slI (lo := w2.heap.size) (E := 3) (by repeat (first | with_reducible exact U6 | with_reducible refine ownsRow_setCell_below ?_ (by first | assumption | (simp; omega)) _)) e4, own_slP (lo := w2.heap.size) (E := 62) (by repeat (first | with_reducible exact V6 | with_reducible refine ownsRow_setCell_below ?_ (by first | assumption | (simp; omega)) _)) e5, HFX, hfa, hfb, (by repeat (first | with_reducible exact B6 | with_reducible refine Below.setCell ?_ (by first | exact Nat.le_refl _ | assumption | (show _ ≤ _ + _; omega) | (simp; omega)) _))⟩
set_option maxHeartbeats 3000000 in
set_option maxRecDepth 100000 in
theorem drawRV (w : World) (h : Sl RB 1 w w.heap.size A0 n0 c0 bs) (hn : n0 ≤ 1048576) : Calls Try.prog 13 #[.slice A0 n0 c0] w fun e w' => ∃ (x : Wi) (A : Option Addr) (c : Nat) (E : Option Addr) (d : Nat) (a : Int), e = .returned (.tuple #[.agg #[.int .i64 x.kind, .int .i64 x.field, .int .i64 x.value, .slice A x.list.length c, .slice E x.pairs.length d], .int .i64 a]) ∧ Sl RI 1 w' w'.heap.size A x.list.length c x.list ∧ Sl RP 2 w' w'.heap.size E x.pairs.length d x.pairs ∧ Hid (FitW x) ∧ Fit a ∧ Below w.heap.size w w' := by
  have R0 := Row.new w 27 [.int .i64 0, .int .i64 0, .int .i64 0, .slice none 0 0, .slice none 0 0]
  have B0 := ((Below.refl w.heap.size w).alloc (by simp; try omega) (.cells #[.int .i64 0, .int .i64 0, .int .i64 0, .slice none 0 0, .slice none 0 0] 27))
  have sz : (w.alloc (.cells #[.int .i64 0, .int .i64 0, .int .i64 0, .slice none 0 0, .slice none 0 0] 27)).heap.size = w.heap.size + 1 := by simp
  have h1 := h.on RB.keeps B0
  have lR0 := R0.lt
  go_enter Try.func13, Try.ntmps13
  go_wp2_with fail
  refine (l1New _ h1 hn).mono ?_
  rintro e w2 ⟨rfl, hC, hB, hs⟩
  rw [sz] at hs hB hC ⊢
  have R0 := R0.below hB (Nat.lt_succ_self _)
  have B2 := B0.trans (hB.mono (Nat.le_succ _))
  have hp : w.heap.size < w2.heap.size := by omega
  obtain ⟨p, hpe⟩ : ∃ p, w.heap.size + 1 = p := ⟨_, rfl⟩
  rw [hpe] at hC ⊢
  have hpn : w.heap.size ≠ p := by omega
  have hwp : w.heap.size ≤ p := by omega
  have hp2 : p < w2.heap.size := by omega
  clear hB hs sz h1 hpe B0
  go_wp2_with fail
  refine (l4Any _ hC).mono ?_
  rintro e w3 ⟨x, A, c, E, d, rfl, ⟨hU, hV, hfar⟩, HFX, hln, hC3, hD3⟩
  have R0 := R0.dr hD3 hpn
  have B3 := B2.trans (hD3.below hwp (by omega))
  have z3 := hD3.size
  have hn3 : w3.heap.size ≠ p := by omega
  clear hD3 hC B2
  obtain ⟨w4, hw4⟩ : ∃ w4, w3.alloc (.cells #[.int .i64 x.kind, .int .i64 x.field, .int .i64 x.value, .slice A x.list.length c, .slice E x.pairs.length d] 27) = w4 := ⟨_, rfl⟩
  have R0 := R0.alloc (.cells #[.int .i64 x.kind, .int .i64 x.field, .int .i64 x.value, .slice A x.list.length c, .slice E x.pairs.length d] 27)
  have G4 := Row.new w3 27 [.int .i64 x.kind, .int .i64 x.field, .int .i64 x.value, .slice A x.list.length c, .slice E x.pairs.length d]
  have hU := hU.alloc (.cells #[.int .i64 x.kind, .int .i64 x.field, .int .i64 x.value, .slice A x.list.length c, .slice E x.pairs.length d] 27)
  have hV := hV.alloc (.cells #[.int .i64 x.kind, .int .i64 x.field, .int .i64 x.value, .slice A x.list.length c, .slice E x.pairs.length d] 27)
  have B4 := B3.alloc (by omega) (.cells #[.int .i64 x.kind, .int .i64 x.field, .int .i64 x.value, .slice A x.list.length c, .slice E x.pairs.length d] 27)
  have hC4 := hC3.alloc (.cells #[.int .i64 x.kind, .int .i64 x.field, .int .i64 x.value, .slice A x.list.length c, .slice E x.pairs.length d] 27)
  rw [hw4] at R0 G4 hU hV B4 hC4
  have z4 : w3.heap.size ≤ w4.heap.size := by rw [← hw4]; simp
  have HW4 := Lib.hid hw4
  clear hw4 hC3 B3
  have bd : Below w4.heap.size w4 w4.drew := (Below.refl _ _).drew
  have lR0 := R0.lt
  have lG4 := G4.lt
  have R5 := R0.below bd lR0
  have G5 := G4.below bd lG4
  have U5 := own_below hU bd
  have V5 := own_below hV bd
  have B5 := B4.trans (bd.mono (by have := B4.size; omega))
  have hC5 := hC4.drew
  have z5 : w4.heap.size ≤ w4.drew.heap.size := Nat.le_refl _
  have g0 : w4.drew.cell? ⟨w3.heap.size, 0, none⟩ = some (.int .i64 x.kind) ∧ w4.drew.cell? ⟨w3.heap.size, 1, none⟩ = some (.int .i64 x.field) ∧ w4.drew.cell? ⟨w3.heap.size, 2, none⟩ = some (.int .i64 x.value) ∧ w4.drew.cell? ⟨w3.heap.size, 3, none⟩ = some (.slice A x.list.length c) ∧ w4.drew.cell? ⟨w3.heap.size, 4, none⟩ = some (.slice E x.pairs.length d) := ⟨G5.cell 0, G5.cell 1, G5.cell 2, G5.cell 3, G5.cell 4⟩
  clear R0 G4 hU hV B4 hC4 bd
  go_wp2_with fail
  rw [HW4.out]
  have hn35 : w3.heap.size ≠ w.heap.size := by omega
  have hww : w.heap.size < w2.heap.size := hp
  have CT : Hid (∀ w : World, Cur w p → Calls Try.prog 19 #[.pointer (some ⟨p, 0, none⟩), .int .i64 12] w fun e w' => ∃ b : Int, e = .returned (.int .i64 b) ∧ 0 ≤ b ∧ b < 12 ∧ Cur w' p ∧ Dr p w w') := fun w h => l1Below w h (by omega) (by omega)
  go_region_held3 (fun w' => Row w' w3.heap.size 27 [.int .i64 x.kind, .int .i64 x.field, .int .i64 x.value, .slice A x.list.length c, .slice E x.pairs.length d] ∧ w'.cell? ⟨w3.heap.size, 0, none⟩ = some (.int .i64 x.kind) ∧ w'.cell? ⟨w3.heap.size, 1, none⟩ = some (.int .i64 x.field) ∧ w'.cell? ⟨w3.heap.size, 2, none⟩ = some (.int .i64 x.value) ∧ w'.cell? ⟨w3.heap.size, 3, none⟩ = some (.slice A x.list.length c) ∧ w'.cell? ⟨w3.heap.size, 4, none⟩ = some (.slice E x.pairs.length d)) (first | with_reducible exact box88 G5 | with_reducible exact box88 G6 | exact box88 (((((G6.far (p := ⟨w.heap.size, 0, none⟩) hn35 _).far (p := ⟨w.heap.size, 1, none⟩) hn35 _).far (p := ⟨w.heap.size, 2, none⟩) hn35 _).far (p := ⟨w.heap.size, 3, none⟩) hn35 _).far (p := ⟨w.heap.size, 4, none⟩) hn35 _) | fail) ((go_simp; go_at_call 19; with_reducible (refine (CT.out _ hC5).mono ?_); rintro e w6 ⟨b, rfl, b0, b1, hC6, hD6⟩; have R6 := R5.dr hD6 hpn; have G6 := G5.dr hD6 hn3; have l6 := R6.lt; have ⟨_, r0, r1, r2, r3, r4⟩ := box88 R6; have fr0 := R6.free 0; have fr1 := R6.free 1; have fr2 := R6.free 2; have fr3 := R6.free 3; have fr4 := R6.free 4))
  have hfb : Fit (b - 1) := by unfold Fit; omega
  have hwr : IntKind.i64.wrap (b - 1) = b - 1 := by rw [IntKind.wrap_i64]; omega
  have U6 := own_dr_past U5 hD6 hp2
  have V6 := own_dr_past V5 hD6 hp2
  have B6 := B5.trans (hD6.below hwp (by have := B5.size; omega))
  obtain ⟨e1, e2, e3, e4, e5⟩ := HFX.out
  clear R6 G6
  go_wp2
  refine bodyPost_ret (v := .tuple #[.agg #[.int .i64 x.kind, .int .i64 x.field, .int .i64 x.value, .slice A x.list.length c, .slice E x.pairs.length d], .int .i64 (b - 1)]) (by simp [results, Try.results13, go_sem, *]) rfl ?_
  exact ⟨x, A, c, E, d, b - 1, rfl, own_slI (lo := w2.heap.size) (E := 3) (by repeat (first | with_reducible exact U6 | with_reducible refine ownsRow_setCell_below ?_ (by first | assumption | (simp; omega)) _)) e4, own_slP (lo := w2.heap.size) (E := 62) (by repeat (first | with_reducible exact V6 | with_reducible refine ownsRow_setCell_below ?_ (by first | assumption | (simp; omega)) _)) e5, HFX, hfb, (by repeat (first | with_reducible exact B6 | with_reducible refine Below.setCell ?_ (by first | exact Nat.le_refl _ | assumption | (show _ ≤ _ + _; omega) | (simp; omega)) _))⟩
set_option maxHeartbeats 4000000 in
set_option maxRecDepth 100000 in
theorem drawCI (w : World) (h : Sl RB 1 w w.heap.size A0 n0 c0 bs) (hn : n0 ≤ 1048576) : Calls Try.prog 12 #[.slice A0 n0 c0] w fun e w' => ∃ (x : Wi) (A : Option Addr) (c : Nat) (E : Option Addr) (d : Nat) (y : It) (A1 : Option Addr) (c1 : Nat) (z : It) (A2 : Option Addr) (c2 : Nat), e = .returned (.tuple #[.agg #[.int .i64 x.kind, .int .i64 x.field, .int .i64 x.value, .slice A x.list.length c, .slice E x.pairs.length d], .agg #[.int .i64 y.id, .slice A1 y.vals.length c1], .agg #[.int .i64 z.id, .slice A2 z.vals.length c2]]) ∧ Sl RI 1 w' w'.heap.size A x.list.length c x.list ∧ Sl RP 2 w' w'.heap.size E x.pairs.length d x.pairs ∧ Hid (FitW x) ∧ (Sl RI 1 w' w'.heap.size A1 y.vals.length c1 y.vals ∧ Fit y.id) ∧ (Sl RI 1 w' w'.heap.size A2 z.vals.length c2 z.vals ∧ Fit z.id) ∧ Below w.heap.size w w' := by
  have R0 := Row.new w 27 [.int .i64 0, .int .i64 0, .int .i64 0, .slice none 0 0, .slice none 0 0]
  have R1 := Row.new (w.alloc (.cells #[.int .i64 0, .int .i64 0, .int .i64 0, .slice none 0 0, .slice none 0 0] 27)) 36 [.int .i64 0, .slice none 0 0]
  have R0 := R0.alloc (.cells #[.int .i64 0, .slice none 0 0] 36)
  have R2 := Row.new ((w.alloc (.cells #[.int .i64 0, .int .i64 0, .int .i64 0, .slice none 0 0, .slice none 0 0] 27)).alloc (.cells #[.int .i64 0, .slice none 0 0] 36)) 36 [.int .i64 0, .slice none 0 0]
  have R0 := R0.alloc (.cells #[.int .i64 0, .slice none 0 0] 36)
  have R1 := R1.alloc (.cells #[.int .i64 0, .slice none 0 0] 36)
  have B0 := ((((Below.refl w.heap.size w).alloc (by simp; try omega) (.cells #[.int .i64 0, .int .i64 0, .int .i64 0, .slice none 0 0, .slice none 0 0] 27)).alloc (by simp; try omega) (.cells #[.int .i64 0, .slice none 0 0] 36)).alloc (by simp; try omega) (.cells #[.int .i64 0, .slice none 0 0] 36))
  have sz : (((w.alloc (.cells #[.int .i64 0, .int .i64 0, .int .i64 0, .slice none 0 0, .slice none 0 0] 27)).alloc (.cells #[.int .i64 0, .slice none 0 0] 36)).alloc (.cells #[.int .i64 0, .slice none 0 0] 36)).heap.size = w.heap.size + 3 := by simp
  have s1 : (w.alloc (.cells #[.int .i64 0, .int .i64 0, .int .i64 0, .slice none 0 0, .slice none 0 0] 27)).heap.size = w.heap.size + 1 := by simp
  rw [s1] at R1
  have s2 : ((w.alloc (.cells #[.int .i64 0, .int .i64 0, .int .i64 0, .slice none 0 0, .slice none 0 0] 27)).alloc (.cells #[.int .i64 0, .slice none 0 0] 36)).heap.size = w.heap.size + 2 := by simp
  rw [s2] at R2
  have h1 := h.on RB.keeps B0
  go_enter Try.func12, Try.ntmps12
  go_wp2_with fail
  refine (l1New _ h1 hn).mono ?_
  rintro e w2 ⟨rfl, hC, hB, hs⟩
  rw [sz] at hs hB hC ⊢
  have R0 := R0.below hB (by omega)
  have R1 := R1.below hB (by omega)
  have R2 := R2.below hB (by omega)
  have B2 := B0.trans (hB.mono (by omega))
  have hp : w.heap.size + 3 < w2.heap.size := by omega
  obtain ⟨p, hpe⟩ : ∃ p, w.heap.size + 3 = p := ⟨_, rfl⟩
  rw [hpe] at hC ⊢
  have hpn : w.heap.size ≠ p := by omega
  have hpn1 : w.heap.size + 1 ≠ p := by omega
  have hpn2 : w.heap.size + 2 ≠ p := by omega
  have hwp : w.heap.size ≤ p := by omega
  have hp2 : p < w2.heap.size := by omega
  clear hB hs sz s1 s2 h1 hpe B0
  go_wp2_with fail
  refine (l4Any _ hC).mono ?_
  rintro e w3 ⟨x, A, c, E, d, rfl, ⟨hU, hV, hfar⟩, HFX, hln, hC3, hD3⟩
  have R0 := R0.dr hD3 hpn
  have R1 := R1.dr hD3 hpn1
  have R2 := R2.dr hD3 hpn2
  have B3 := B2.trans (hD3.below hwp (by omega))
  have z3 := hD3.size
  have hn3 : w3.heap.size ≠ p := by omega
  clear hD3 hC B2
  go_wp2_with fail
  refine (l2AnyItem _ (hC3.alloc _)).mono ?_
  rintro e w4 ⟨y, A1, c1, rfl, hY, HFY, hyn, hC4, hD4⟩
  have R0 := (R0.alloc _).dr hD4 hpn
  have R1 := (R1.alloc _).dr hD4 hpn1
  have R2 := (R2.alloc _).dr hD4 hpn2
  have G4 := (Row.new w3 27 [.int .i64 x.kind, .int .i64 x.field, .int .i64 x.value, .slice A x.list.length c, .slice E x.pairs.length d]).dr hD4 hn3
  have hU := own_dr_past (hU.alloc (.cells #[.int .i64 x.kind, .int .i64 x.field, .int .i64 x.value, .slice A x.list.length c, .slice E x.pairs.length d] 27)) hD4 hp2
  have hV := own_dr_past (hV.alloc (.cells #[.int .i64 x.kind, .int .i64 x.field, .int .i64 x.value, .slice A x.list.length c, .slice E x.pairs.length d] 27)) hD4 hp2
  have z4 := hD4.size
  have z4' : w3.heap.size < w4.heap.size := by simp at z4; omega
  have B4 := (B3.alloc (by omega) (.cells #[.int .i64 x.kind, .int .i64 x.field, .int .i64 x.value, .slice A x.list.length c, .slice E x.pairs.length d] 27)).trans (hD4.below hwp (by simp; omega))
  have hY : w4.ownsRow w2.heap.size 3 1 (.slice A1 y.vals.length c1) y.vals.length (y.vals.map (Value.int .i64)) := own_mono hY (by simp; omega)
  have hn4 : w4.heap.size ≠ p := by omega
  clear hD4 hC3 B3 z4
  have lR0 := R0.lt
  have lR1 := R1.lt
  have lR2 := R2.lt
  have lG4 := G4.lt
  obtain ⟨w5, hw5⟩ : ∃ w5, w4.alloc (.cells #[.int .i64 y.id, .slice A1 y.vals.length c1] 36) = w5 := ⟨_, rfl⟩
  have R0 := R0.alloc (.cells #[.int .i64 y.id, .slice A1 y.vals.length c1] 36)
  have R1 := R1.alloc (.cells #[.int .i64 y.id, .slice A1 y.vals.length c1] 36)
  have R2 := R2.alloc (.cells #[.int .i64 y.id, .slice A1 y.vals.length c1] 36)
  have G4 := G4.alloc (.cells #[.int .i64 y.id, .slice A1 y.vals.length c1] 36)
  have H4 := Row.new w4 36 [.int .i64 y.id, .slice A1 y.vals.length c1]
  have hU := hU.alloc (.cells #[.int .i64 y.id, .slice A1 y.vals.length c1] 36)
  have hV := hV.alloc (.cells #[.int .i64 y.id, .slice A1 y.vals.length c1] 36)
  have hY := hY.alloc (.cells #[.int .i64 y.id, .slice A1 y.vals.length c1] 36)
  have B5 := B4.alloc (by omega) (.cells #[.int .i64 y.id, .slice A1 y.vals.length c1] 36)
  have hC5 := hC4.alloc (.cells #[.int .i64 y.id, .slice A1 y.vals.length c1] 36)
  rw [hw5] at R0 R1 R2 G4 H4 hU hV hY B5 hC5
  have HW5 := Lib.hid hw5
  clear hw5 B4 hC4
  have bd : Below w5.heap.size w5 w5.drew := (Below.refl _ _).drew
  have R0 := R0.below bd R0.lt
  have R1 := R1.below bd R1.lt
  have R2 := R2.below bd R2.lt
  have G4 := G4.below bd G4.lt
  have H4 := H4.below bd H4.lt
  have hU := own_below hU bd
  have hV := own_below hV bd
  have hY := own_below hY bd
  have B5 := B5.trans (bd.mono (by have := B5.size; omega))
  have hC5 := hC5.drew
  have g0 : (w5.drew.cell? ⟨w3.heap.size, 0, none⟩ = some (.int .i64 x.kind) ∧ w5.drew.cell? ⟨w3.heap.size, 1, none⟩ = some (.int .i64 x.field) ∧ w5.drew.cell? ⟨w3.heap.size, 2, none⟩ = some (.int .i64 x.value) ∧ w5.drew.cell? ⟨w3.heap.size, 3, none⟩ = some (.slice A x.list.length c) ∧ w5.drew.cell? ⟨w3.heap.size, 4, none⟩ = some (.slice E x.pairs.length d)) ∧ w5.drew.cell? ⟨w4.heap.size, 0, none⟩ = some (.int .i64 y.id) ∧ w5.drew.cell? ⟨w4.heap.size, 1, none⟩ = some (.slice A1 y.vals.length c1) := ⟨⟨G4.cell 0, G4.cell 1, G4.cell 2, G4.cell 3, G4.cell 4⟩, H4.cell 0, H4.cell 1⟩
  clear bd
  go_wp2_with fail
  rw [HW5.out]
  have n30 : w3.heap.size ≠ w.heap.size := by omega
  have n31 : w3.heap.size ≠ w.heap.size + 1 := by omega
  have n32 : w3.heap.size ≠ w.heap.size + 2 := by omega
  have n40 : w4.heap.size ≠ w.heap.size := by omega
  have n41 : w4.heap.size ≠ w.heap.size + 1 := by omega
  have n42 : w4.heap.size ≠ w.heap.size + 2 := by omega
  have CT : Hid (∀ w : World, Cur w p → Calls Try.prog 28 #[.pointer (some ⟨p, 0, none⟩)] w fun e w' => ∃ (z : It) (A2 : Option Addr) (c2 : Nat), e = .returned (.agg #[.int .i64 z.id, .slice A2 z.vals.length c2]) ∧ w'.ownsRow w.heap.size 3 1 (.slice A2 z.vals.length c2) z.vals.length (z.vals.map (Value.int .i64)) ∧ Hid (Fit z.id ∧ ∀ y ∈ z.vals, Fit y) ∧ (3 ≤ z.vals.length ∧ z.vals.length ≤ 5) ∧ Cur w' p ∧ Dr p w w') := fun w h => l2AnyItem w h
  go_region_held3 (fun w' => (Row w' w3.heap.size 27 [.int .i64 x.kind, .int .i64 x.field, .int .i64 x.value, .slice A x.list.length c, .slice E x.pairs.length d] ∧ Row w' w4.heap.size 36 [.int .i64 y.id, .slice A1 y.vals.length c1]) ∧ (w'.cell? ⟨w3.heap.size, 0, none⟩ = some (.int .i64 x.kind) ∧ w'.cell? ⟨w3.heap.size, 1, none⟩ = some (.int .i64 x.field) ∧ w'.cell? ⟨w3.heap.size, 2, none⟩ = some (.int .i64 x.value) ∧ w'.cell? ⟨w3.heap.size, 3, none⟩ = some (.slice A x.list.length c) ∧ w'.cell? ⟨w3.heap.size, 4, none⟩ = some (.slice E x.pairs.length d)) ∧ w'.cell? ⟨w4.heap.size, 0, none⟩ = some (.int .i64 y.id) ∧ w'.cell? ⟨w4.heap.size, 1, none⟩ = some (.slice A1 y.vals.length c1)) (first | with_reducible exact box88b G4 H4 | with_reducible exact box88b G6 H6 | with_reducible exact box88b FG5 FH5 | with_reducible exact box88b FG7 FH7 | with_reducible exact box88b FG9 FH9 | fail) ((go_simp; go_at_call 28; with_reducible (refine (CT.out _ hC5).mono ?_); rintro e w6 ⟨z, A2, c2, rfl, hZ, HFZ, hzn, hC6, hD6⟩; have R0 := R0.dr hD6 hpn; have R1 := R1.dr hD6 hpn1; have R2 := R2.dr hD6 hpn2; have G6 := G4.dr hD6 hn3; have H6 := H4.dr hD6 hn4; have FG5 := (((((G6.far (p := ⟨w.heap.size, 0, none⟩) n30 (.int .i64 x.kind)).far (p := ⟨w.heap.size, 1, none⟩) n30 (.int .i64 x.field)).far (p := ⟨w.heap.size, 2, none⟩) n30 (.int .i64 x.value)).far (p := ⟨w.heap.size, 3, none⟩) n30 (.slice A x.list.length c)).far (p := ⟨w.heap.size, 4, none⟩) n30 (.slice E x.pairs.length d)); have FH5 := (((((H6.far (p := ⟨w.heap.size, 0, none⟩) n40 (.int .i64 x.kind)).far (p := ⟨w.heap.size, 1, none⟩) n40 (.int .i64 x.field)).far (p := ⟨w.heap.size, 2, none⟩) n40 (.int .i64 x.value)).far (p := ⟨w.heap.size, 3, none⟩) n40 (.slice A x.list.length c)).far (p := ⟨w.heap.size, 4, none⟩) n40 (.slice E x.pairs.length d)); have FG7 := (((((((G6.far (p := ⟨w.heap.size, 0, none⟩) n30 (.int .i64 x.kind)).far (p := ⟨w.heap.size, 1, none⟩) n30 (.int .i64 x.field)).far (p := ⟨w.heap.size, 2, none⟩) n30 (.int .i64 x.value)).far (p := ⟨w.heap.size, 3, none⟩) n30 (.slice A x.list.length c)).far (p := ⟨w.heap.size, 4, none⟩) n30 (.slice E x.pairs.length d)).far (p := ⟨w.heap.size + 1, 0, none⟩) n31 (.int .i64 y.id)).far (p := ⟨w.heap.size + 1, 1, none⟩) n31 (.slice A1 y.vals.length c1)); have FH7 := (((((((H6.far (p := ⟨w.heap.size, 0, none⟩) n40 (.int .i64 x.kind)).far (p := ⟨w.heap.size, 1, none⟩) n40 (.int .i64 x.field)).far (p := ⟨w.heap.size, 2, none⟩) n40 (.int .i64 x.value)).far (p := ⟨w.heap.size, 3, none⟩) n40 (.slice A x.list.length c)).far (p := ⟨w.heap.size, 4, none⟩) n40 (.slice E x.pairs.length d)).far (p := ⟨w.heap.size + 1, 0, none⟩) n41 (.int .i64 y.id)).far (p := ⟨w.heap.size + 1, 1, none⟩) n41 (.slice A1 y.vals.length c1)); have FG9 := (((((((((G6.far (p := ⟨w.heap.size, 0, none⟩) n30 (.int .i64 x.kind)).far (p := ⟨w.heap.size, 1, none⟩) n30 (.int .i64 x.field)).far (p := ⟨w.heap.size, 2, none⟩) n30 (.int .i64 x.value)).far (p := ⟨w.heap.size, 3, none⟩) n30 (.slice A x.list.length c)).far (p := ⟨w.heap.size, 4, none⟩) n30 (.slice E x.pairs.length d)).far (p := ⟨w.heap.size + 1, 0, none⟩) n31 (.int .i64 y.id)).far (p := ⟨w.heap.size + 1, 1, none⟩) n31 (.slice A1 y.vals.length c1)).far (p := ⟨w.heap.size + 2, 0, none⟩) n32 (.int .i64 z.id)).far (p := ⟨w.heap.size + 2, 1, none⟩) n32 (.slice A2 z.vals.length c2)); have FH9 := (((((((((H6.far (p := ⟨w.heap.size, 0, none⟩) n40 (.int .i64 x.kind)).far (p := ⟨w.heap.size, 1, none⟩) n40 (.int .i64 x.field)).far (p := ⟨w.heap.size, 2, none⟩) n40 (.int .i64 x.value)).far (p := ⟨w.heap.size, 3, none⟩) n40 (.slice A x.list.length c)).far (p := ⟨w.heap.size, 4, none⟩) n40 (.slice E x.pairs.length d)).far (p := ⟨w.heap.size + 1, 0, none⟩) n41 (.int .i64 y.id)).far (p := ⟨w.heap.size + 1, 1, none⟩) n41 (.slice A1 y.vals.length c1)).far (p := ⟨w.heap.size + 2, 0, none⟩) n42 (.int .i64 z.id)).far (p := ⟨w.heap.size + 2, 1, none⟩) n42 (.slice A2 z.vals.length c2)); have ⟨_, r0, r1, r2, r3, r4⟩ := box88 R0; have fr0 := R0.free 0; have fr1 := R0.free 1; have fr2 := R0.free 2; have fr3 := R0.free 3; have fr4 := R0.free 4; have ⟨_, _, s0, s1⟩ := box88c R1; have fs0 := R1.free 0; have fs1 := R1.free 1; have ⟨_, _, t0, t1⟩ := box88c R2; have ft0 := R2.free 0; have ft1 := R2.free 1; have l0 := R0.lt; have l1 := R1.lt; have l2 := R2.lt))
  have U6 := own_dr_past hU hD6 hp2
  have V6 := own_dr_past hV hD6 hp2
  have Y6 := own_dr_past hY hD6 hp2
  have Z6 : w6.ownsRow w2.heap.size 3 1 (.slice A2 z.vals.length c2) z.vals.length (z.vals.map (Value.int .i64)) := own_mono hZ (by have := H4.lt; omega)
  have B6 := B5.trans (hD6.below hwp (by have := B5.size; omega))
  obtain ⟨e1, e2, e3, e4, e5⟩ := HFX.out
  have hww : w.heap.size < w2.heap.size := by omega
  have hww1 : w.heap.size + 1 < w2.heap.size := by omega
  have hww2 : w.heap.size + 2 < w2.heap.size := by omega
  clear R0 R1 R2 G6 H6
  go_wp2
  refine bodyPost_ret (v := .tuple #[.agg #[.int .i64 x.kind, .int .i64 x.field, .int .i64 x.value, .slice A x.list.length c, .slice E x.pairs.length d], .agg #[.int .i64 y.id, .slice A1 y.vals.length c1], .agg #[.int .i64 z.id, .slice A2 z.vals.length c2]]) (by simp [results, Try.results12, go_sem, *]) rfl ?_
  exact ⟨x, A, c, E, d, y, A1, c1, z, A2, c2, rfl, own_slI (lo := w2.heap.size) (E := 3) (by repeat (first | with_reducible exact U6 | with_reducible refine ownsRow_setCell_below ?_ (by first | assumption | (simp; omega)) _)) e4, own_slP (lo := w2.heap.size) (E := 62) (by repeat (first | with_reducible exact V6 | with_reducible refine ownsRow_setCell_below ?_ (by first | assumption | (simp; omega)) _)) e5, HFX, ⟨own_slI (lo := w2.heap.size) (E := 3) (by repeat (first | with_reducible exact Y6 | with_reducible refine ownsRow_setCell_below ?_ (by first | assumption | (simp; omega)) _)) HFY.out.2, HFY.out.1⟩, ⟨own_slI (lo := w2.heap.size) (E := 3) (by repeat (first | with_reducible exact Z6 | with_reducible refine ownsRow_setCell_below ?_ (by first | assumption | (simp; omega)) _)) HFZ.out.2, HFZ.out.1⟩, (by repeat (first | with_reducible exact B6 | with_reducible refine Below.setCell ?_ (by first | exact Nat.le_refl _ | assumption | (show _ ≤ _ + _; omega) | (simp; omega)) _))⟩
end
end Go.Proofs.Ytpnbpjgnehcdbaa.Wk
