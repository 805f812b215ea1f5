/-
  Walks of chapter 1's draws: a cursor over the code, and numbers drawn from it.
  Conditions: none beyond the bounds that each states.
-/
import Derived.Test.YtphbochfpidgeaaB1
import Derived.Test.YtphbochfpidgeaaM20
import Derived.Test.YtphbochfpidgeaaU0
namespace Go.Proofs.Ytphbochfpidgeaa.Wk
open Go.RowKit Go.Proofs.Ytphbochfpidgeaa.M
set_option linter.unusedVariables false
attribute [local go_sem] cell_grow

theorem and_mask (n : Int) : bits .and .i64 n 1073741823 = n % 1073741824 := by
  have h127 : (BitVec.ofInt 64 1073741823).toNat = 2 ^ 30 - 1 := by decide
  have key : (BitVec.ofInt 64 n &&& BitVec.ofInt 64 1073741823).toNat = (n % ((2 ^ 64 : Nat) : Int)).toNat % 2 ^ 30 := by
    rw [BitVec.toNat_and, BitVec.toNat_ofInt, h127, Nat.and_two_pow_sub_one_eq_mod]
  show IntKind.i64.wrap ((BitVec.ofInt 64 n &&& BitVec.ofInt 64 1073741823).toNat : Nat) = n % 1073741824
  rw [key, IntKind.wrap_i64]
  omega
theorem fit_wrap (n : Int) : Fit (IntKind.i64.wrap n) := by
  rw [IntKind.wrap_i64]
  unfold Fit
  omega
/-- The cursor of the draws, in block p; its code lies below. -/
def Cur (w : World) (p : Nat) : Prop := ∃ (A : Option Addr) (n c i : Nat) (h : Int) (bs : List UInt8), Row w p 96 [.slice A n c, .int .i64 i, .int .i64 h] ∧ Sl RB 1 w p A n c bs ∧ i ≤ n ∧ n ≤ 1048576
section
variable {w w' : World} {p B : Nat}
theorem Cur.lt (h : Cur w p) : p < w.heap.size := by obtain ⟨_, _, _, _, _, _, h1, _⟩ := h; exact h1.lt
theorem Cur.below (h : Cur w p) (hb : Below B w w') (hp : p < B) : Cur w' p := by
  obtain ⟨A, n, c, i, h, bs, h1, h2, h3⟩ := h
  exact ⟨A, n, c, i, h, bs, h1.below hb hp, h2.below RB.keeps (hb.mono (by omega)), h3⟩
theorem Cur.alloc (h : Cur w p) (o : Obj) : Cur (w.alloc o) p := h.below ((Below.refl w.heap.size w).alloc (Nat.le_refl _) o) h.lt
theorem Cur.grown {row : Option Nat} (h : Cur w p) (hg : w.grownBy w' row) (hr : ∀ q, row = some q → p < q) : Cur w' p :=
  h.below ((Below.refl (p + 1) w).grown hg h.lt (fun k hk => hr k hk)) (Nat.lt_succ_self p)
theorem Cur.drew (h : Cur w p) : Cur w.drew p := h.below ((Below.refl w.heap.size w).drew) h.lt
end
/-- A number drawn, from lo on below hi. -/
def DrI (w : World) (p : Nat) (lo hi : Int) (e : Ending) (w' : World) : Prop := ∃ x : Int, e = .returned (.int .i64 x) ∧ lo ≤ x ∧ x < hi ∧ Cur w' p ∧ Dr p w w'
set_option maxHeartbeats 1600000 in
set_option maxRecDepth 100000 in
theorem l1New {A : Option Addr} {n c : Nat} {bs : List UInt8} (w : World) (h : Sl RB 1 w w.heap.size A n c bs) (hn : n ≤ 1048576) :
    Calls Try.prog 39 #[.slice A n c] w fun e w' => e = .returned (.pointer (some ⟨w.heap.size, 0, none⟩)) ∧ Cur w' w.heap.size ∧ Below w.heap.size w w' ∧ w'.heap.size = w.heap.size + 1 := by
  go_enter Try.func39, Try.ntmps39
  go_wp2
  go_loop [3, 4] (fun vh vi => ∃ (i : Nat) (g : Int), i ≤ n ∧ i ≤ 4000 ∧ vi = .int .i64 i ∧ vh = .int .i64 g ∧ 0 ≤ g ∧ g < 1073741824) (fun _ vi => 4000 - (intOf vi).toNat)
  case atStart => exact ⟨0, _, Nat.zero_le _, Nat.zero_le _, rfl, rfl, by omega, by omega⟩
  case round =>
    obtain ⟨i, g, hin, hi4, rfl, rfl, g0, g1⟩ := hrel
    by_cases hlt : i < n
    · have q1 : (i : Int) < (n : Int) := by omega
      by_cases h4 : i < 4000
      · have q2 : (i : Int) < 4000 := by omega
        obtain ⟨b, o, x, cs, rfl, hb, hx, _, rfl, hc⟩ := h.get hlt
        have c0 : w.cell? ⟨b, o + i, none⟩ = some (.int .u8 (x.toNat : Int)) := by have := hc 0 _ rfl; simpa using this
        have hx8 : x.toNat < 256 := x.toNat_lt
        have hnc := h.le
        have q3 : (n : Int) ≤ (c : Int) := by omega
        clear hc h
        go_wp2
        go_round
        case rel => exact ⟨i + 1, _, by omega, by omega, by go_num, rfl, by rw [and_mask]; omega, by rw [and_mask]; omega⟩
        case measure => simp [intOf]; omega
      · have q2 : ¬ (i : Int) < 4000 := by omega
        go_wp2
        go_ret
        refine ⟨rfl, ⟨A, n, c, 0, g, bs, ?_, ?_, Nat.zero_le _, hn⟩, (Below.refl _ _).alloc (Nat.le_refl _) _, by simp⟩
        · exact Row.new w _ _
        · exact h.below RB.keeps ((Below.refl _ _).alloc (Nat.le_refl _) _)
    · have q1 : ¬ (i : Int) < (n : Int) := by omega
      go_wp2
      go_ret
      refine ⟨rfl, ⟨A, n, c, 0, g, bs, ?_, ?_, Nat.zero_le _, hn⟩, (Below.refl _ _).alloc (Nat.le_refl _) _, by simp⟩
      · exact Row.new w _ _
      · exact h.below RB.keeps ((Below.refl _ _).alloc (Nat.le_refl _) _)
set_option maxHeartbeats 1600000 in
set_option maxRecDepth 100000 in
theorem l1Byte {p : Nat} (w : World) (h : Cur w p) : Calls Try.prog 83 #[.pointer (some ⟨p, 0, none⟩)] w (DrI w p 0 256) := by
  obtain ⟨A, n, c, i, h, bs, hR, hS, hi, hn⟩ := h
  have c0 : w.cell? ⟨p, 0, none⟩ = some (.slice A n c) := hR.cell 0
  have c1 : w.cell? ⟨p, 1, none⟩ = some (.int .i64 i) := hR.cell 1
  have c2 : w.cell? ⟨p, 2, none⟩ = some (.int .i64 h) := hR.cell 2
  have f1 := hR.free 1
  have f2 := hR.free 2
  have hlt := hR.lt
  go_enter Try.func83, Try.ntmps83
  go_wp2_with fail
  obtain ⟨h1, hh1⟩ : ∃ h1, wrap64 (wrap64 (h * 6364136223846793005) + 1442695040888963407) = h1 := ⟨_, rfl⟩
  rw [hh1]
  have hR1 : Row (w.setCell ⟨p, 2, none⟩ (.int .i64 h1)) p 96 [.slice A n c, .int .i64 i, .int .i64 h1] := hR.set 2 (.int .i64 h1)
  have hD1 : Dr p w (w.setCell ⟨p, 2, none⟩ (.int .i64 h1)) := (Dr.refl p w).setCell rfl _
  have hS1 := hD1.sl RB.keeps hS (Nat.le_refl _) (Nat.le_of_lt hlt)
  obtain ⟨w1, hw1⟩ : ∃ w1, w.setCell ⟨p, 2, none⟩ (.int .i64 h1) = w1 := ⟨_, rfl⟩
  rw [hw1] at hR1 hD1 hS1 ⊢
  clear c0 c1 c2 f1 f2 hlt hR hS hh1 hw1
  have c0 : w1.cell? ⟨p, 0, none⟩ = some (.slice A n c) := hR1.cell 0
  have c1 : w1.cell? ⟨p, 1, none⟩ = some (.int .i64 i) := hR1.cell 1
  have c2 : w1.cell? ⟨p, 2, none⟩ = some (.int .i64 h1) := hR1.cell 2
  have hlt := hR1.lt
  refine wp_region_qb (by kernel_rfl) (by kernel_rfl) ?_; (repeat (go_big_quiet_step ((fail)))); refine wpQuiet_nil ?_; intro w8 hb8
  have k0 := ((cell_of hb8) p 0 hlt).trans c0
  have k1 := ((cell_of hb8) p 1 hlt).trans c1
  have hR8 := hR1.below hb8 hlt
  have hS8 := hS1.below RB.keeps (hb8.mono (Nat.le_of_lt hlt))
  have hD8 := hD1.trans (Dr.of_below hb8 (Nat.le_refl _))
  have hlt8 := hR8.lt
  clear c0 c1 c2 hb8
  obtain ⟨x1, hx1, b0, b1⟩ : ∃ x1, bits .and .i64 (bits .xor .i64 (h1 / 8589934592) (h1 / 35184372088832)) 255 = x1 ∧ 0 ≤ x1 ∧ x1 < 256 := ⟨_, rfl, by rw [B.and255]; omega, by rw [B.and255]; omega⟩
  rw [hx1]
  clear hx1 hR1 hS1 hD1
  by_cases hlt2 : i < n
  · have q1 : (i : Int) < (n : Int) := by omega
    obtain ⟨b, o, x, cs, rfl, hb, hx, _, rfl, hc⟩ := hS8.get hlt2
    have g0 : w8.cell? ⟨b, o + i, none⟩ = some (.int .u8 (x.toNat : Int)) := by have := hc 0 _ rfl; simpa using this
    have hnc := hS8.le
    have q2 : (n : Int) ≤ (c : Int) := by omega
    have hbl : b < w8.heap.size := by omega
    have hxx := x.toNat_lt
    have HR := Lib.hid hR8
    have HS := Lib.hid hS8
    have HD := Lib.hid hD8
    clear hc hR8 hS8 hD8 hx
    go_wp2_with fail
    refine wp_region_qb (by kernel_rfl) (by kernel_rfl) ?_; (repeat (go_big_quiet_step ((fail)))); refine wpQuiet_nil ?_; intro w9 hb9
    have C9 := cell_of hb9
    have j0 := (C9 p 0 hlt8).trans k0
    have j1 := (C9 p 1 hlt8).trans k1
    have jb := (C9 b (o + i) hbl).trans g0
    have hlt9 : p < w9.heap.size := Nat.lt_of_lt_of_le hlt8 hb9.size
    have hbl9 : b < w9.heap.size := Nat.lt_of_lt_of_le hbl hb9.size
    clear k0 k1 g0 C9
    go_wp2_with fail
    refine wp_region_qb (by kernel_rfl) (by kernel_rfl) ?_; (repeat (go_big_quiet_step ((fail)))); refine wpQuiet_nil ?_; intro wq hbq
    have Cq := cell_of hbq
    have m1 := (Cq p 1 hlt9).trans j1
    have hbt := hb9.trans (hbq.mono hb9.size)
    have RQ := HR.out.below hbt hlt8
    have SQ := HS.out.below RB.keeps (hbt.mono (Nat.le_of_lt hlt8))
    have DQ := HD.out.trans (Dr.of_below hbt (Nat.le_refl _))
    have f1 := RQ.free 1
    have hltq := RQ.lt
    clear j0 j1 jb Cq hb9 hbq hbt
    go_wp2
    go_ret
    refine ⟨_, rfl, by rw [B.and255]; omega, by rw [B.and255]; omega, ?_, DQ.setCell rfl _⟩
    exact ⟨_, n, c, i + 1, h1, bs, RQ.set 1 (.int .i64 ((i + 1 : Nat) : Int)), ((Dr.refl p wq).setCell rfl _).sl RB.keeps SQ (Nat.le_refl _) (Nat.le_of_lt hltq), hlt2, hn⟩
  · have q1 : ¬ (i : Int) < (n : Int) := by omega
    have HR := Lib.hid hR8
    have HS := Lib.hid hS8
    have HD := Lib.hid hD8
    clear hR8 hS8 hD8
    go_wp2_with fail
    refine wp_region_qb (by kernel_rfl) (by kernel_rfl) ?_; (repeat (go_big_quiet_step ((fail)))); refine wpQuiet_nil ?_; intro w9 hb9
    go_wp2
    go_ret
    exact ⟨x1, rfl, b0, b1, ⟨A, n, c, i, h1, bs, HR.out.below hb9 hlt8, HS.out.below RB.keeps (hb9.mono (Nat.le_of_lt hlt8)), hi, hn⟩, HD.out.trans (Dr.of_below hb9 (Nat.le_refl _))⟩
end Go.Proofs.Ytphbochfpidgeaa.Wk
