/-
  The walk of the law on ParseItem: the call returns true, and what was there before it is as it was.
  Conditions: none.
-/
import Derived.Test.YtncaamjmidmmdaaW71
import Derived.Test.YtncaamjmidmmdaaU9
namespace Go.Proofs.Ytncaamjmidmmdaa.Wk
open Go.RowKit Go.Proofs.Ytncaamjmidmmdaa.M
set_option linter.unusedVariables false

set_option maxHeartbeats 3200000 in
set_option maxRecDepth 100000 in
theorem FnExactParseItem (s : ByteArray) (hs0 : s.size ≤ maxLen) (w : World) : Calls Try.prog 9 #[.string s] w fun e w' => e = .returned (.bool true) ∧ Below w.heap.size w w' := by
  unfold maxLen at hs0
  by_cases hbig : 1048576 < s.size
  · have q : (1048576 : Int) < (s.size : Int) := by omega
    go_enter Try.func9, Try.ntmps9
    go_wp2
    go_ret
    exact ⟨rfl, Below.refl _ _⟩
  have q : ¬ (1048576 : Int) < (s.size : Int) := by omega
  have hs : s.size ≤ 1048576 := by omega
  obtain ⟨x, hx⟩ : ∃ x, parI s = x := ⟨_, rfl⟩
  obtain ⟨tb, htb⟩ : ∃ tb, parIB s = tb := ⟨_, rfl⟩
  have qb : (tb != tb) = false := by cases tb <;> rfl
  have FR := Lib.hid (parI_fit s).2
  have CS : Hid (∀ w : World, Calls Try.prog 32 #[.string s] w (RetIB w x tb)) := fun w => by rw [← hx, ← htb]; exact specParseItem w hs
  have CI : Hid (∀ w : World, Calls Try.prog 33 #[.string s] w (RetIB w x tb)) := fun w => by rw [← hx, ← htb]; exact implParseItem w hs
  have ln := parI_vals s
  rw [hx] at FR ln
  obtain ⟨n, hn⟩ : ∃ n, x.vals.length = n := ⟨_, rfl⟩
  rw [hn] at ln
  have HN := Lib.hid hn
  clear hx htb hn
  go_enter Try.func9, Try.ntmps9
  go_wp2_with fail
  refine (CS.out _).mono ?_
  rintro e w1 ⟨vw, rfl, Ow, b1⟩
  obtain ⟨Aw, cw, rfl, _, _⟩ := own_form Ow.1
  have Vw : V RI 1 w1 w1.heap.size (.slice Aw x.vals.length cw) x.vals := Ow.read FR.out
  rw [HN.out] at Vw
  rw [HN.out]
  have z1 := b1.size
  have BA := (Below.refl w1.heap.size w1).alloc (Nat.le_refl _) (.cells #[.int .i64 x.id, .slice Aw n cw] 27)
  have Ba := b1.trans (BA.mono z1)
  have R1 := Row.new w1 27 [.int .i64 x.id, .slice Aw n cw]
  have Vw := Vw.below RI.keeps BA
  have za := BA.size
  clear Ow b1 BA
  go_wp2_with fail
  refine (CI.out _).mono ?_
  rintro e w2 ⟨vg, rfl, Og, b2⟩
  obtain ⟨Ag, cg, rfl, _, _⟩ := own_form Og.1
  have Og := Lib.hid Og
  rw [HN.out]
  have z2 := b2.size
  simp at z2
  have BB := (Below.refl w2.heap.size w2).alloc (Nat.le_refl _) (.cells #[.int .i64 x.id, .slice Ag n cg] 27)
  have zb := BB.size
  have B3 := (Ba.trans (b2.mono (by first | omega | (simp; done) | (simp; omega)))).trans (BB.mono (by omega))
  have R1 := (R1.below b2 (by simp)).below BB (by omega)
  have R2 := Row.new w2 27 [.int .i64 x.id, .slice Ag n cg]
  have Vw := (Vw.below RI.keeps (b2.mono (by simp))).below RI.keeps (BB.mono (by omega))
  have Og := Lib.hid (Og.out.below BB)
  clear b2 BB Ba
  have a0 : (w2.alloc (.cells #[.int .i64 x.id, .slice Ag n cg] 27)).cell? ⟨w1.heap.size, 0, none⟩ = some (.int .i64 x.id) := R1.cell 0
  have a1 : (w2.alloc (.cells #[.int .i64 x.id, .slice Ag n cg] 27)).cell? ⟨w1.heap.size, 1, none⟩ = some (.slice Aw n cw) := R1.cell 1
  have g0 : (w2.alloc (.cells #[.int .i64 x.id, .slice Ag n cg] 27)).cell? ⟨w2.heap.size, 0, none⟩ = some (.int .i64 x.id) := R2.cell 0
  have g1 : (w2.alloc (.cells #[.int .i64 x.id, .slice Ag n cg] 27)).cell? ⟨w2.heap.size, 1, none⟩ = some (.slice Ag n cg) := R2.cell 1
  obtain ⟨A', n', c', e', Sw⟩ := id Vw
  injection e' with e1 e2 e3
  subst e1 e2 e3
  have Sw := Sw.more RI.keeps (show w1.heap.size ≤ (w2.alloc (.cells #[.int .i64 x.id, .slice Ag n cg] 27)).heap.size by have := R1.lt; omega)
  have Sg : Sl RI 1 (w2.alloc (.cells #[.int .i64 x.id, .slice Ag n cg] 27)) (w2.alloc (.cells #[.int .i64 x.id, .slice Ag n cg] 27)).heap.size Ag n cg x.vals := by
    obtain ⟨A', n', c', e', S'⟩ := id (Og.out.read FR.out)
    rw [HN.out] at e'
    injection e' with e1 e2 e3
    subst e1 e2 e3
    exact S'
  go_wp2_with fail
  refine (eq_item _ Sg Sw).mono ?_
  clear Sg Sw
  rintro e w3 ⟨rfl, b3⟩
  have z3 := b3.size
  try simp only [World.size_alloc] at z3
  have B3 := B3.trans (b3.mono B3.size)
  have R1 := R1.below b3 R1.lt
  have R2 := R2.below b3 R2.lt
  have Vw := Vw.below RI.keeps (b3.mono (by first | omega | (simp; done) | (simp; omega)))
  have Og := Lib.hid (Og.out.below b3)
  clear b3 a0 a1 g0 g1
  have a0 : w3.cell? ⟨w1.heap.size, 0, none⟩ = some (.int .i64 x.id) := R1.cell 0
  have a1 : w3.cell? ⟨w1.heap.size, 1, none⟩ = some (.slice Aw n cw) := R1.cell 1
  have g0 : w3.cell? ⟨w2.heap.size, 0, none⟩ = some (.int .i64 x.id) := R2.cell 0
  have g1 : w3.cell? ⟨w2.heap.size, 1, none⟩ = some (.slice Ag n cg) := R2.cell 1
  have y1 := R1.lt
  have y2 := R2.lt
  go_wp2_with fail
  refine (mark_item (k := 1) _ (by have := Og.out; rw [HN.out] at this; exact this) HN.out (by omega) (by omega) (by omega)).mono ?_
  clear Og
  rintro e w4 ⟨rfl, Om, b4⟩
  have z4 := b4.size
  try simp only [World.size_alloc] at z4
  have B4 := B3.trans (b4.below (by first | omega | (simp; done) | (simp; omega)) B3.size)
  have R1 := R1.mkd b4 (by first | omega | (simp; done) | (simp; omega))
  have R2 := R2.mkd b4 (by first | omega | (simp; done) | (simp; omega))
  have Vw := Vw.below RI.keeps (b4.below (by first | omega | (simp; done) | (simp; omega)) (by first | omega | (simp; done) | (simp; omega)))
  clear b4 a0 a1 g0 g1
  have Om := Lib.hid Om

  have hq : ¬ (1 + (n : Int) < 0) := by omega
  have hm : ((1 + (n : Int)) != (1 + (n : Int))) = false := by simp
  have a0 : w4.cell? ⟨w1.heap.size, 0, none⟩ = some (.int .i64 x.id) := R1.cell 0
  have a1 : w4.cell? ⟨w1.heap.size, 1, none⟩ = some (.slice Aw n cw) := R1.cell 1
  have g0 : w4.cell? ⟨w2.heap.size, 0, none⟩ = some (.int .i64 x.id) := R2.cell 0
  have g1 : w4.cell? ⟨w2.heap.size, 1, none⟩ = some (.slice Ag n cg) := R2.cell 1
  go_wp2_with fail
  refine (held_item (k := 1) (m := n) _ Om.out (by omega) (by omega)).mono ?_
  rintro e w5 ⟨rfl, b5⟩
  have z5 := b5.size
  have B5 := B4.trans (b5.mono B4.size)
  have R1 := R1.below b5 R1.lt
  have R2 := R2.below b5 R2.lt
  have Vw := Vw.below RI.keeps (b5.mono (by omega))
  have Om := Lib.hid (Om.out.below b5)
  clear b5 a0 a1 g0 g1
  have a0 : w5.cell? ⟨w1.heap.size, 0, none⟩ = some (.int .i64 x.id) := R1.cell 0
  have a1 : w5.cell? ⟨w1.heap.size, 1, none⟩ = some (.slice Aw n cw) := R1.cell 1
  have g0 : w5.cell? ⟨w2.heap.size, 0, none⟩ = some (.int .i64 x.id) := R2.cell 0
  have g1 : w5.cell? ⟨w2.heap.size, 1, none⟩ = some (.slice Ag n cg) := R2.cell 1
  go_wp2_with fail
  refine (CI.out _).mono ?_
  rintro e w6 ⟨vh, rfl, Oh, b6⟩
  obtain ⟨Ah, ch, rfl, _, _⟩ := own_form Oh.1
  have Oh := Lib.hid Oh
  rw [HN.out]
  have z6 := b6.size
  have BB := (Below.refl w6.heap.size w6).alloc (Nat.le_refl _) (.cells #[.int .i64 x.id, .slice Ah n ch] 27)
  have B6 := (B5.trans (b6.mono B5.size)).trans (BB.mono (by have := B5.size; omega))
  have R1 := (R1.below b6 R1.lt).below BB (by have := R1.lt; omega)
  have R2 := (R2.below b6 R2.lt).below BB (by have := R2.lt; omega)
  have R3 := Row.new w6 27 [.int .i64 x.id, .slice Ah n ch]
  have Vw := (Vw.below RI.keeps (b6.mono (by omega))).below RI.keeps (BB.mono (by omega))
  have Om := Lib.hid ((Om.out.below b6).below BB)
  have Oh := Lib.hid (Oh.out.below BB)
  have zb := BB.size
  clear b6 BB a0 a1 g0 g1
  have a0 : (w6.alloc (.cells #[.int .i64 x.id, .slice Ah n ch] 27)).cell? ⟨w1.heap.size, 0, none⟩ = some (.int .i64 x.id) := R1.cell 0
  have a1 : (w6.alloc (.cells #[.int .i64 x.id, .slice Ah n ch] 27)).cell? ⟨w1.heap.size, 1, none⟩ = some (.slice Aw n cw) := R1.cell 1
  have g0 : (w6.alloc (.cells #[.int .i64 x.id, .slice Ah n ch] 27)).cell? ⟨w2.heap.size, 0, none⟩ = some (.int .i64 x.id) := R2.cell 0
  have g1 : (w6.alloc (.cells #[.int .i64 x.id, .slice Ah n ch] 27)).cell? ⟨w2.heap.size, 1, none⟩ = some (.slice Ag n cg) := R2.cell 1
  have h0 : (w6.alloc (.cells #[.int .i64 x.id, .slice Ah n ch] 27)).cell? ⟨w6.heap.size, 0, none⟩ = some (.int .i64 x.id) := R3.cell 0
  have h1 : (w6.alloc (.cells #[.int .i64 x.id, .slice Ah n ch] 27)).cell? ⟨w6.heap.size, 1, none⟩ = some (.slice Ah n ch) := R3.cell 1
  obtain ⟨A', n', c', e', Sw⟩ := id Vw
  injection e' with e1 e2 e3
  subst e1 e2 e3
  have Sw := Sw.more RI.keeps (show w1.heap.size ≤ (w6.alloc (.cells #[.int .i64 x.id, .slice Ah n ch] 27)).heap.size by have := R1.lt; omega)
  have Sg : Sl RI 1 (w6.alloc (.cells #[.int .i64 x.id, .slice Ah n ch] 27)) (w6.alloc (.cells #[.int .i64 x.id, .slice Ah n ch] 27)).heap.size Ah n ch x.vals := by
    obtain ⟨A', n', c', e', S'⟩ := Oh.out.read FR.out
    rw [HN.out] at e'
    injection e' with e1 e2 e3
    subst e1 e2 e3
    exact S'
  go_wp2_with fail
  refine (eq_item _ Sg Sw).mono ?_
  clear Sg Sw Oh h0 h1
  rintro e w7 ⟨rfl, b7⟩
  have B7 := B6.trans (b7.mono B6.size)
  have R1 := R1.below b7 R1.lt
  have R2 := R2.below b7 R2.lt
  have Om := Lib.hid (Om.out.below b7)
  clear b7 a0 a1 g0 g1 R3 Vw
  have a0 : w7.cell? ⟨w1.heap.size, 0, none⟩ = some (.int .i64 x.id) := R1.cell 0
  have a1 : w7.cell? ⟨w1.heap.size, 1, none⟩ = some (.slice Aw n cw) := R1.cell 1
  have g0 : w7.cell? ⟨w2.heap.size, 0, none⟩ = some (.int .i64 x.id) := R2.cell 0
  have g1 : w7.cell? ⟨w2.heap.size, 1, none⟩ = some (.slice Ag n cg) := R2.cell 1
  go_wp2_with fail
  refine (held_item (k := 1) (m := n) _ Om.out (by omega) (by omega)).mono ?_
  rintro e w8 ⟨rfl, b8⟩
  have BZ := B7.trans (b8.mono B7.size)
  clear b8
  go_wp2_with fail
  go_ret
  exact ⟨rfl, BZ⟩
end Go.Proofs.Ytncaamjmidmmdaa.Wk
