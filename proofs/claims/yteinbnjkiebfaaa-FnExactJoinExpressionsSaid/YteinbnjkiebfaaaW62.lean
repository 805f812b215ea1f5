/-
  Walks of chapter 6: where the part begins that ends at a node.
  Conditions: none beyond the bounds that each states.
-/
import Derived.Test.YteinbnjkiebfaaaW52
import Derived.Test.YteinbnjkiebfaaaP18
namespace Go.Proofs.Yteinbnjkiebfaaa.Wk
open Go.RowKit Go.Proofs.Yteinbnjkiebfaaa.M
set_option linter.unusedVariables false
attribute [local go_sem] cell_grow

set_option maxHeartbeats 1600000 in
theorem l6Start {B : Nat} {A : Option Addr} {n c : Nat} {l : List Nd} {a : Nat} (w : World) (h : Sl RN 6 w B A n c l) (hE : P.okE l = true) (ha : a < n) :
    Calls Try.prog 48 #[.slice A n c, .int .i64 a] w fun e w' => e = .returned (.int .i64 (P.startE l a)) ∧ w = w' := by
  have HL := Lib.hid h.len
  have HE := Lib.hid hE
  have hn9 : n ≤ 9 := by have := (P.okE_len hE).1; have := HL.out; omega
  have hle := h.le
  have HT : Hid (1 ≤ P.Dp l (a + 1)) := by
    obtain ⟨x, hx⟩ : ∃ x, l[a]? = some x := ⟨_, List.getElem?_eq_getElem (by have := HL.out; omega)⟩
    have := P.dp_succ hE hx
    show _ ≤ _
    omega
  clear hE
  go_enter Try.func48, Try.ntmps48
  go_wp2
  go_loop [5, 6] (fun vn vi => ∃ (i : Nat) (nd : Int), i ≤ a ∧ vi = .int .i64 i ∧ vn = .int .i64 nd ∧ Hid (nd = (P.Dp l (i + 1) : Int) + 1 - (P.Dp l (a + 1) : Int)) ∧ 1 ≤ nd ∧ nd ≤ 100 ∧ nd ≤ i + 2 ∧ Hid (P.startE l a = P.downE l (P.Dp l (a + 1)) i)) (fun _ vi => (intOf vi).toNat)
  case atStart => exact ⟨a, 1, Nat.le_refl _, rfl, rfl, by show _ = _; omega, by omega, by omega, by omega, rfl⟩
  case round =>
    obtain ⟨i, nd, hia, rfl, rfl, HND, hn1, hn100, hni, HST⟩ := hrel
    obtain ⟨b, o, x, A1, n1, c1, E1, m1, d1, rfl, hb, hx, hf, hs, ht1, g0, g1, g2, g3, g4, g5⟩ := nodeAt h (show i < n by omega)
    obtain ⟨s1, s2, s3⟩ := P.dp_succ HE.out hx
    have ht := HT.out
    have hnd := HND.out
    have q1 : (i : Int) < (n : Int) := by omega
    have HX := Lib.hid hx
    clear g1 g2 g3 g4 g5 hs ht1 hf h HND hx
    have hdp0 : i = 0 → P.Dp l i = 0 := fun e => by subst e; exact P.dp_zero l
    have miss : P.Dp l i + 1 ≠ P.Dp l (a + 1) → 0 < i → P.startE l a = P.downE l (P.Dp l (a + 1)) (i - 1) := fun h1 h2 => by
      rw [HST.out]
      obtain ⟨j, rfl⟩ : ∃ j, i = j + 1 := ⟨i - 1, by omega⟩
      exact P.downE_miss h1
    have hpr : 0 < i → (P.Dp l (i - 1 + 1) : Int) = P.Dp l i := fun h2 => by rw [show i - 1 + 1 = i by omega]
    have hi3 : P.Dp l i ≤ i := by
      have : ∃ d, P.Dep l i d := by
        obtain ⟨_, d, hd, _⟩ := P.okE_at HE.out HX.out
        exact ⟨d, hd⟩
      obtain ⟨d, hd⟩ := this
      rw [P.dp_of hd]; exact P.dep_le hd
    by_cases hc : x.op = 0
    · have hq : (x.op == 0) = true := by simpa using hc
      have ho : P.opnds x.op = 0 := by rw [hc]; rfl
      clear hc
      by_cases hz : nd - 1 = 0
      · have qz : (nd - 1 == 0) = true := by simpa using hz
        have HR : Hid (P.startE l a = i) := by show _ = _; rw [HST.out]; exact P.downE_hit (by omega)
        clear miss hpr hdp0
        go_wp2
        go_ret
        exact ⟨ret_int (by rw [HR.out]), rfl⟩
      · have qz : (nd - 1 == 0) = false := by simpa using hz
        have hi0 : 0 < i := by
          rcases Nat.eq_zero_or_pos i with h0 | h0
          · have := hdp0 h0; omega
          · exact h0
        have hpi := hpr hi0
        have HS2 := Lib.hid (miss (by omega) hi0)
        have HN2 : Hid (nd - 1 = (P.Dp l (i - 1 + 1) : Int) + 1 - (P.Dp l (a + 1) : Int)) := by show _ = _; rw [hpi]; omega
        have hp : 1 ≤ nd - 1 := by omega
        have hp2 : nd - 1 ≤ ((i - 1 : Nat) : Int) + 2 := by omega
        clear miss hpr hdp0
        go_wp2
        go_round
        case rel => exact ⟨i - 1, nd - 1, by omega, vint (by omega), (by first | rfl | exact vint (by omega)), HN2, hp, by omega, hp2, HS2⟩
        case measure => simp [intOf]; omega
    · have hq : (x.op == 0) = false := by simpa using hc
      by_cases hc3 : x.op = 3
      · have hq3 : (x.op == 3) = true := by simpa using hc3
        have ho : P.opnds x.op = 1 := by rw [hc3]; rfl
        have ez : nd - 1 + 1 = nd := by omega
        have qz : (nd == 0) = false := by simp; omega
        have qz2 : (nd - 1 + 1 == 0) = false := by simp; omega
        clear hc hc3
        have hi0 : 0 < i := by
          rcases Nat.eq_zero_or_pos i with h0 | h0
          · have := hdp0 h0; omega
          · exact h0
        have hpi := hpr hi0
        have HS2 := Lib.hid (miss (by omega) hi0)
        have HN2 : Hid (nd = (P.Dp l (i - 1 + 1) : Int) + 1 - (P.Dp l (a + 1) : Int)) := by show _ = _; rw [hpi]; omega
        have hp : 1 ≤ nd := by omega
        have hp2 : nd ≤ ((i - 1 : Nat) : Int) + 2 := by omega
        clear miss hpr hdp0
        go_wp2
        go_round
        case rel => exact ⟨i - 1, nd, by omega, vint (by omega), (by first | rfl | exact vint (by omega)), HN2, hp, by omega, hp2, HS2⟩
        case measure => simp [intOf]; omega
      · have hq3 : (x.op == 3) = false := by simpa using hc3
        have ho : P.opnds x.op = 2 := by unfold P.opnds; rw [if_neg hc, if_neg hc3]
        have ez : nd - 1 + 2 = nd + 1 := by omega
        have qz : (nd + 1 == 0) = false := by simp; omega
        have qz2 : (nd - 1 + 2 == 0) = false := by simp; omega
        clear hc hc3
        have hi0 : 0 < i := by
          rcases Nat.eq_zero_or_pos i with h0 | h0
          · have := hdp0 h0; omega
          · exact h0
        have hpi := hpr hi0
        have HS2 := Lib.hid (miss (by omega) hi0)
        have HN2 : Hid (nd + 1 = (P.Dp l (i - 1 + 1) : Int) + 1 - (P.Dp l (a + 1) : Int)) := by show _ = _; rw [hpi]; omega
        have hp : 1 ≤ nd + 1 := by omega
        have hp2 : nd + 1 ≤ ((i - 1 : Nat) : Int) + 2 := by omega
        clear miss hpr hdp0
        go_wp2
        go_round
        case rel => exact ⟨i - 1, nd + 1, by omega, vint (by omega), (by first | rfl | exact vint (by omega)), HN2, hp, by omega, hp2, HS2⟩
        case measure => simp [intOf]; omega
set_option maxHeartbeats 1600000 in
theorem startI {B : Nat} {A : Option Addr} {n c : Nat} {l : List Nd} {a : Nat} (w : World) (h : Sl RN 6 w B A n c l) (hE : P.okE l = true) (ha : a < n) :
    Calls Try.prog 49 #[.slice A n c, .int .i64 a] w fun e w' => e = .returned (.int .i64 (P.startE l a)) ∧ w = w' := by
  have HL := Lib.hid h.len
  have HE := Lib.hid hE
  have hn9 : n ≤ 9 := by have := (P.okE_len hE).1; have := HL.out; omega
  have hle := h.le
  have HT : Hid (1 ≤ P.Dp l (a + 1)) := by
    obtain ⟨x, hx⟩ : ∃ x, l[a]? = some x := ⟨_, List.getElem?_eq_getElem (by have := HL.out; omega)⟩
    have := P.dp_succ hE hx
    show _ ≤ _
    omega
  clear hE
  go_enter Try.func49, Try.ntmps49
  go_wp2
  go_loop [5, 6] (fun vn vi => ∃ (i : Nat) (nd : Int), i ≤ a ∧ vi = .int .i64 i ∧ vn = .int .i64 nd ∧ Hid (nd = (P.Dp l (i + 1) : Int) + 1 - (P.Dp l (a + 1) : Int)) ∧ 1 ≤ nd ∧ nd ≤ 100 ∧ nd ≤ i + 2 ∧ Hid (P.startE l a = P.downE l (P.Dp l (a + 1)) i)) (fun _ vi => (intOf vi).toNat)
  case atStart => exact ⟨a, 1, Nat.le_refl _, rfl, rfl, by show _ = _; omega, by omega, by omega, by omega, rfl⟩
  case round =>
    obtain ⟨i, nd, hia, rfl, rfl, HND, hn1, hn100, hni, HST⟩ := hrel
    obtain ⟨b, o, x, A1, n1, c1, E1, m1, d1, rfl, hb, hx, hf, hs, ht1, g0, g1, g2, g3, g4, g5⟩ := nodeAt h (show i < n by omega)
    obtain ⟨s1, s2, s3⟩ := P.dp_succ HE.out hx
    have ht := HT.out
    have hnd := HND.out
    have q1 : (i : Int) < (n : Int) := by omega
    have HX := Lib.hid hx
    clear g1 g2 g3 g4 g5 hs ht1 hf h HND hx
    have hdp0 : i = 0 → P.Dp l i = 0 := fun e => by subst e; exact P.dp_zero l
    have miss : P.Dp l i + 1 ≠ P.Dp l (a + 1) → 0 < i → P.startE l a = P.downE l (P.Dp l (a + 1)) (i - 1) := fun h1 h2 => by
      rw [HST.out]
      obtain ⟨j, rfl⟩ : ∃ j, i = j + 1 := ⟨i - 1, by omega⟩
      exact P.downE_miss h1
    have hpr : 0 < i → (P.Dp l (i - 1 + 1) : Int) = P.Dp l i := fun h2 => by rw [show i - 1 + 1 = i by omega]
    have hi3 : P.Dp l i ≤ i := by
      have : ∃ d, P.Dep l i d := by
        obtain ⟨_, d, hd, _⟩ := P.okE_at HE.out HX.out
        exact ⟨d, hd⟩
      obtain ⟨d, hd⟩ := this
      rw [P.dp_of hd]; exact P.dep_le hd
    obtain ⟨k, hk⟩ : ∃ k, P.opnds x.op = k := ⟨_, rfl⟩
    by_cases hz : nd - 1 + (k : Int) = 0
    · have qz : (nd - 1 + (k : Int) == 0) = true := by simpa using hz
      have HR : Hid (P.startE l a = i) := by show _ = _; rw [HST.out]; exact P.downE_hit (by omega)
      clear miss hpr hdp0
      (go_wp2_with (go_at_call 36; refine (operands _ _).mono ?_; rintro e w9 ⟨rfl, rfl⟩; rw [hk]))
      go_ret
      exact ⟨ret_int (by rw [HR.out]), rfl⟩
    · have qz : (nd - 1 + (k : Int) == 0) = false := by simpa using hz
      have hi0 : 0 < i := by
        rcases Nat.eq_zero_or_pos i with h0 | h0
        · have := hdp0 h0; omega
        · exact h0
      have hpi := hpr hi0
      have HS2 := Lib.hid (miss (by omega) hi0)
      have HN2 : Hid (nd - 1 + (k : Int) = (P.Dp l (i - 1 + 1) : Int) + 1 - (P.Dp l (a + 1) : Int)) := by show _ = _; rw [hpi]; omega
      have hp : 1 ≤ nd - 1 + (k : Int) := by omega
      have hp2 : nd - 1 + (k : Int) ≤ ((i - 1 : Nat) : Int) + 2 := by omega
      clear miss hpr hdp0
      (go_wp2_with (go_at_call 36; refine (operands _ _).mono ?_; rintro e w9 ⟨rfl, rfl⟩; rw [hk]))
      go_round
      case rel => exact ⟨i - 1, nd - 1 + (k : Int), by omega, vint (by omega), (by first | rfl | exact vint (by omega)), HN2, hp, by omega, hp2, HS2⟩
      case measure => simp [intOf]; omega
end Go.Proofs.Yteinbnjkiebfaaa.Wk
