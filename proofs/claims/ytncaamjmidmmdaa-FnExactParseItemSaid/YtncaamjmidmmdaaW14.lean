/-
  Walks of chapter 2: items compared; the law on IsItem.
  Conditions: none beyond the bounds that each states.
-/
import Derived.Test.YtncaamjmidmmdaaW13
import Derived.Deep.RegionHeld3
namespace Go.Proofs.Ytncaamjmidmmdaa.Wk
open Go.RowKit Go.Proofs.Ytncaamjmidmmdaa.M
set_option linter.unusedVariables false

set_option maxHeartbeats 400000 in
theorem eqItem {B B' : Nat} {A A' : Option Addr} {n n' c c' : Nat} {id id' : Int} {xs ys : List Int} (w : World) (h : Sl RI 1 w B A n c xs) (h' : Sl RI 1 w B' A' n' c' ys) (hB : B ≤ w.heap.size) (hB' : B' ≤ w.heap.size) :
    Calls Try.prog 14 #[.agg #[.int .i64 id, .slice A n c], .agg #[.int .i64 id', .slice A' n' c']] w fun e w' => e = .returned (.bool (decide (id = id' ∧ xs = ys))) ∧ Below w.heap.size w w' := by
  have hb2 : ∀ o1 o2, Below w.heap.size w ((w.alloc o1).alloc o2) := fun o1 o2 => ((Below.refl _ _).alloc (Nat.le_refl _) _).alloc (by simp) _
  by_cases hid : id = id'
  · subst hid
    have ht : (id != id) = false := by simp
    go_enter Try.func14, Try.ntmps14
    go_wp2_with fail
    refine (eqIntS _ (h.below RI.keeps ((hb2 _ _).mono hB)) (h'.below RI.keeps ((hb2 _ _).mono hB'))).mono ?_
    rintro e w1 ⟨rfl, m, rfl⟩
    have HB := Lib.hid hb2
    clear hb2 h h'
    by_cases hxy : xs = ys
    · have hd : decide (xs = ys) = true := by simpa using hxy
      have HD : Hid (decide (id = id ∧ xs = ys) = true) := by show _ = _; simpa using hxy
      clear hxy
      rw [hd]
      clear hd
      go_wp2
      go_ret
      exact ⟨ret_bool HD.out.symm, below_drewN (HB.out _ _) m⟩
    · have hd : decide (xs = ys) = false := by simpa using hxy
      have HD : Hid (decide (id = id ∧ xs = ys) = false) := by show _ = _; simpa using hxy
      clear hxy
      rw [hd]
      clear hd
      go_wp2
      go_ret
      exact ⟨ret_bool HD.out.symm, below_drewN (HB.out _ _) m⟩
  · have ht : (id != id') = true := by simpa using hid
    have HD : Hid (decide (id = id' ∧ xs = ys) = false) := by show _ = _; simp [hid]
    have HB := Lib.hid hb2
    clear hb2 h h' hid
    go_enter Try.func14, Try.ntmps14
    go_wp2
    go_ret
    exact ⟨ret_bool HD.out.symm, HB.out _ _⟩
theorem less_pos {n : Nat} (h : n ≤ 1048576) : less 1048576 n = 1048576 - n := by unfold less; rw [if_neg (by omega)]
theorem less_neg {n : Nat} (h : ¬ n ≤ 1048576) : less 1048576 n = -1 := by unfold less; rw [if_pos (by omega)]
set_option maxHeartbeats 1600000 in
set_option maxRecDepth 100000 in
theorem FnExactIsItem (v : Value) (x : It) (w : World) (hx : ItemV w v x) : Calls Try.prog 3 #[v] w fun e w' => e = .returned (.bool true) ∧ Below w.heap.size w w' := by
  obtain ⟨A, n, c, rfl, hfit, hS⟩ := hx
  obtain ⟨id, xs⟩ := x
  have hn : n ≤ maxLen := Nat.le_trans hS.le hS.max
  have hxs : ∀ y ∈ xs, Fit y := V.fit ⟨A, n, c, rfl, hS⟩
  have hlen := hS.len
  simp only at hlen hS
  have R0 := Row.new w 24 [.int .i64 id, .slice A n c]
  have B0 := (Below.refl w.heap.size w).alloc (Nat.le_refl _) (.cells [Value.int .i64 id, .slice A n c].toArray 24)
  by_cases hsz : n ≤ 1048576
  · have HX := Lib.hid hxs
    have HL := Lib.hid hlen
    have HS := Lib.hid hS
    have hlt0 := R0.lt
    clear hxs hlen hS
    go_enter Try.func3, Try.ntmps3
    go_wp2_with fail
    refine (szItem (by omega) (by omega) hn _).mono ?_
    rintro e w1 ⟨rfl, hb1⟩
    rw [less_pos hsz]
    have R1 := R0.below hb1 (by simp)
    have B1 := B0.trans (hb1.mono B0.size)
    have c10 := R1.cell 0
    have c11 := R1.cell 1
    simp at c10 c11
    clear hb1 B0 R0
    go_wp2_with fail
    refine (toItem _ (HS.out.at_world RI.keeps B1 B1.size) hsz).mono ?_
    rintro e w2 h2
    obtain ⟨A2, n2, c2, rfl, hS2, hb2⟩ := h2.read HX.out
    have R2 := R1.below hb2 R1.lt
    have B2 := B1.trans (hb2.mono B1.size)
    have c20 := R2.cell 0
    have c21 := R2.cell 1
    simp at c20 c21
    clear c10 c11 hb2 B1 R1 h2
    go_wp2_with fail
    refine (specIsItem _ hS2 (Nat.le_refl _)).mono ?_
    rintro e w3 ⟨rfl, hb3⟩
    have R3 := R2.below hb3 R2.lt
    have B3 := B2.trans (hb3.mono B2.size)
    have c30 := R3.cell 0
    have c31 := R3.cell 1
    simp at c30 c31
    clear c20 c21 hb3 B2 R2 hS2
    go_wp2_with fail
    refine (toItem _ (HS.out.at_world RI.keeps B3 B3.size) hsz).mono ?_
    rintro e w4 h4
    obtain ⟨A4, n4, c4, rfl, hS4, hb4⟩ := h4.read HX.out
    have hS5 := hS4.below RI.keeps ((Below.refl _ _).alloc (Nat.le_refl _) (.cells #[.int .i64 id, .slice A4 n4 c4] 27))
    have X5 := Row.new w4 27 [.int .i64 id, .slice A4 n4 c4]
    have R5 := (R3.below hb4 R3.lt).alloc (.cells [Value.int .i64 id, .slice A4 n4 c4].toArray 27)
    have B5 := (B3.trans (hb4.mono B3.size)).alloc (by have := hb4.size; have := B3.size; omega) (.cells [Value.int .i64 id, .slice A4 n4 c4].toArray 27)
    have hlt5 := X5.lt
    clear c30 c31 hb4 B3 R3 h4 hS4
    go_wp2_with fail
    refine (implIsItem _ hS5 (by simp)).mono ?_
    rintro e w6 ⟨rfl, hb6⟩
    have R6 := R5.below hb6 R5.lt
    have X6 := X5.below hb6 X5.lt
    have B6 := B5.trans (hb6.mono B5.size)
    have hS6 := hS5.below RI.keeps (hb6.mono (by simp))
    have c60 := R6.cell 0
    have c61 := R6.cell 1
    have d60 := X6.cell 0
    have d61 := X6.cell 1
    have hw6 := hb6.size
    have hww := R6.lt
    simp at c60 c61 d60 d61 hw6
    have HBx := Lib.hid (HS.out.at_world RI.keeps B6 B6.size)
    have HS6 := Lib.hid hS6
    have HB6 := Lib.hid B6
    clear hb6 B5 R5 X5 hS5 R6 X6 B6 hS6
    have HBd : Hid (Sl RI 1 w6.drew w6.drew.heap.size A n c xs) := HBx.out.below RI.keeps ((Below.refl _ _).drew)
    go_wp2_with fail
    go_region_held3 (fun w' => w'.cell? ⟨w4.heap.size, 0, none⟩ = some (.int .i64 id) ∧ w'.cell? ⟨w4.heap.size, 1, none⟩ = some (.slice A4 n4 c4) ∧ w'.cell? ⟨w.heap.size, 0, none⟩ = some (.int .i64 id) ∧ w'.cell? ⟨w.heap.size, 1, none⟩ = some (.slice A n c))
      (first | exact ⟨d60, d61, c60, c61⟩ | exact ⟨(hb7.cell (p := ⟨w4.heap.size, 0, none⟩) (by simp; omega)).trans d60, (hb7.cell (p := ⟨w4.heap.size, 1, none⟩) (by simp; omega)).trans d61, (hb7.cell (p := ⟨w.heap.size, 0, none⟩) (by simp; omega)).trans c60, (hb7.cell (p := ⟨w.heap.size, 1, none⟩) (by simp; omega)).trans c61⟩ | exact ⟨(hb8.cell (p := ⟨w4.heap.size, 0, none⟩) (by have := hb7.size; simp at this ⊢; omega)).trans ((hb7.cell (p := ⟨w4.heap.size, 0, none⟩) (by simp; omega)).trans d60), (hb8.cell (p := ⟨w4.heap.size, 1, none⟩) (by have := hb7.size; simp at this ⊢; omega)).trans ((hb7.cell (p := ⟨w4.heap.size, 1, none⟩) (by simp; omega)).trans d61), (hb8.cell (p := ⟨w.heap.size, 0, none⟩) (by have := hb7.size; simp at this ⊢; omega)).trans ((hb7.cell (p := ⟨w.heap.size, 0, none⟩) (by simp; omega)).trans c60), (hb8.cell (p := ⟨w.heap.size, 1, none⟩) (by have := hb7.size; simp at this ⊢; omega)).trans ((hb7.cell (p := ⟨w.heap.size, 1, none⟩) (by simp; omega)).trans c61)⟩)
      (first | (go_simp; go_at_call 12; with_reducible (refine (toItem _ HBd.out hsz).mono ?_); rintro e w7 h7; obtain ⟨A7, n7, c7, rfl, hS7, hb7⟩ := h7.read HX.out) | (go_simp; go_at_call 14; with_reducible (refine (eqItem _ ((HS6.out.below RI.keeps ((Below.refl _ _).drew)).below RI.keeps (hb7.mono (by simp; omega))) hS7 (by have := hb7.size; simp at this; omega) (Nat.le_refl _)).mono ?_); rintro e w8 ⟨rfl, hb8⟩))
    all_goals
      have hd : decide (id = id ∧ xs = xs) = true := by simp
      have BF : Below w.heap.size w w8 := (HB6.out.drew.trans (hb7.mono (by simp; omega))).trans (hb8.mono (by have := hb7.size; simp at this; omega))
      clear hb7 hb8 hS7 c60 c61 d60 d61
      go_wp2
      go_ret
      exact ⟨rfl, BF⟩
  · clear R0 hS hxs hlen
    go_enter Try.func3, Try.ntmps3
    go_wp2_with fail
    refine (szItem (by omega) (by omega) hn _).mono ?_
    rintro e w1 ⟨rfl, hb1⟩
    rw [less_neg hsz]
    have B1 := B0.trans (hb1.mono B0.size)
    clear hb1 B0
    go_wp2_with fail
    go_ret
    exact ⟨rfl, B1⟩
end Go.Proofs.Ytncaamjmidmmdaa.Wk
