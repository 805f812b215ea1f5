/-
  The given statement on laws.FnExactWishesOf: for every input that the row speaks of, the call returns true and the arguments read as before.
  Conditions: none beyond the row's own.
-/
import Derived.Test.YteinbnjkiebfaaaW52
import Derived.Test.YteinbnjkiebfaaaP18
import Derived.Test.YteinbnjkiebfaaaW61
import Derived.Test.YteinbnjkiebfaaaM15
import Derived.Test.YteinbnjkiebfaaaU7
import Derived.Maps.AppendAt
import Derived.Test.YteinbnjkiebfaaaO2
import Derived.Test.YteinbnjkiebfaaaRows
import Derived.ProofKit
import Derived.OpenShut
import Derived.ShutString
import Derived.ChangeOld
import Derived.Below
namespace Go.Proofs.Yteinbnjkiebfaaa.Wk
open Go.RowKit Go.Proofs.Yteinbnjkiebfaaa.M
set_option linter.unusedVariables false
attribute [local go_sem] cell_grow

set_option maxHeartbeats 1600000 in
theorem l6Start {B : Nat} {A : Option Addr} {n c : Nat} {l : List Nd} {a : Nat} (w : World) (h : Sl RN 6 w B A n c l) (hE : P.okE l = true) (ha : a < n) :
    Calls Try.prog 48 #[.slice A n c, .int .i64 a] w fun e w' => e = .returned (.int .i64 (P.startE l a)) ∧ w = w' := by
  have HL := Lib.hid h.len
  have HE := Lib.hid hE
  have hn9 : n ≤ 9 := by have := (P.okE_len hE).1; have := HL.out; omega
  have hle := h.le
  have HT : Hid (1 ≤ P.Dp l (a + 1)) := by
    obtain ⟨x, hx⟩ : ∃ x, l[a]? = some x := ⟨_, List.getElem?_eq_getElem (by have := HL.out; omega)⟩
    have := P.dp_succ hE hx
    show _ ≤ _
    omega
  clear hE
  go_enter Try.func48, Try.ntmps48
  go_wp2
  go_loop [5, 6] (fun vn vi => ∃ (i : Nat) (nd : Int), i ≤ a ∧ vi = .int .i64 i ∧ vn = .int .i64 nd ∧ Hid (nd = (P.Dp l (i + 1) : Int) + 1 - (P.Dp l (a + 1) : Int)) ∧ 1 ≤ nd ∧ nd ≤ 100 ∧ nd ≤ i + 2 ∧ Hid (P.startE l a = P.downE l (P.Dp l (a + 1)) i)) (fun _ vi => (intOf vi).toNat)
  case atStart => exact ⟨a, 1, Nat.le_refl _, rfl, rfl, by show _ = _; omega, by omega, by omega, by omega, rfl⟩
  case round =>
    obtain ⟨i, nd, hia, rfl, rfl, HND, hn1, hn100, hni, HST⟩ := hrel
    obtain ⟨b, o, x, A1, n1, c1, E1, m1, d1, rfl, hb, hx, hf, hs, ht1, g0, g1, g2, g3, g4, g5⟩ := nodeAt h (show i < n by omega)
    obtain ⟨s1, s2, s3⟩ := P.dp_succ HE.out hx
    have ht := HT.out
    have hnd := HND.out
    have q1 : (i : Int) < (n : Int) := by omega
    have HX := Lib.hid hx
    clear g1 g2 g3 g4 g5 hs ht1 hf h HND hx
    have hdp0 : i = 0 → P.Dp l i = 0 := fun e => by subst e; exact P.dp_zero l
    have miss : P.Dp l i + 1 ≠ P.Dp l (a + 1) → 0 < i → P.startE l a = P.downE l (P.Dp l (a + 1)) (i - 1) := fun h1 h2 => by
      rw [HST.out]
      obtain ⟨j, rfl⟩ : ∃ j, i = j + 1 := ⟨i - 1, by omega⟩
      exact P.downE_miss h1
    have hpr : 0 < i → (P.Dp l (i - 1 + 1) : Int) = P.Dp l i := fun h2 => by rw [show i - 1 + 1 = i by omega]
    have hi3 : P.Dp l i ≤ i := by
      have : ∃ d, P.Dep l i d := by
        obtain ⟨_, d, hd, _⟩ := P.okE_at HE.out HX.out
        exact ⟨d, hd⟩
      obtain ⟨d, hd⟩ := this
      rw [P.dp_of hd]; exact P.dep_le hd
    by_cases hc : x.op = 0
    · have hq : (x.op == 0) = true := by simpa using hc
      have ho : P.opnds x.op = 0 := by rw [hc]; rfl
      clear hc
      by_cases hz : nd - 1 = 0
      · have qz : (nd - 1 == 0) = true := by simpa using hz
        have HR : Hid (P.startE l a = i) := by show _ = _; rw [HST.out]; exact P.downE_hit (by omega)
        clear miss hpr hdp0
        go_wp2
        go_ret
        exact ⟨ret_int (by rw [HR.out]), rfl⟩
      · have qz : (nd - 1 == 0) = false := by simpa using hz
        have hi0 : 0 < i := by
          rcases Nat.eq_zero_or_pos i with h0 | h0
          · have := hdp0 h0; omega
          · exact h0
        have hpi := hpr hi0
        have HS2 := Lib.hid (miss (by omega) hi0)
        have HN2 : Hid (nd - 1 = (P.Dp l (i - 1 + 1) : Int) + 1 - (P.Dp l (a + 1) : Int)) := by show _ = _; rw [hpi]; omega
        have hp : 1 ≤ nd - 1 := by omega
        have hp2 : nd - 1 ≤ ((i - 1 : Nat) : Int) + 2 := by omega
        clear miss hpr hdp0
        go_wp2
        go_round
        case rel => exact ⟨i - 1, nd - 1, by omega, vint (by omega), (by first | rfl | exact vint (by omega)), HN2, hp, by omega, hp2, HS2⟩
        case measure => simp [intOf]; omega
    · have hq : (x.op == 0) = false := by simpa using hc
      by_cases hc3 : x.op = 3
      · have hq3 : (x.op == 3) = true := by simpa using hc3
        have ho : P.opnds x.op = 1 := by rw [hc3]; rfl
        have ez : nd - 1 + 1 = nd := by omega
        have qz : (nd == 0) = false := by simp; omega
        have qz2 : (nd - 1 + 1 == 0) = false := by simp; omega
        clear hc hc3
        have hi0 : 0 < i := by
          rcases Nat.eq_zero_or_pos i with h0 | h0
          · have := hdp0 h0; omega
          · exact h0
        have hpi := hpr hi0
        have HS2 := Lib.hid (miss (by omega) hi0)
        have HN2 : Hid (nd = (P.Dp l (i - 1 + 1) : Int) + 1 - (P.Dp l (a + 1) : Int)) := by show _ = _; rw [hpi]; omega
        have hp : 1 ≤ nd := by omega
        have hp2 : nd ≤ ((i - 1 : Nat) : Int) + 2 := by omega
        clear miss hpr hdp0
        go_wp2
        go_round
        case rel => exact ⟨i - 1, nd, by omega, vint (by omega), (by first | rfl | exact vint (by omega)), HN2, hp, by omega, hp2, HS2⟩
        case measure => simp [intOf]; omega
      · have hq3 : (x.op == 3) = false := by simpa using hc3
        have ho : P.opnds x.op = 2 := by unfold P.opnds; rw [if_neg hc, if_neg hc3]
        have ez : nd - 1 + 2 = nd + 1 := by omega
        have qz : (nd + 1 == 0) = false := by simp; omega
        have qz2 : (nd - 1 + 2 == 0) = false := by simp; omega
        clear hc hc3
        have hi0 : 0 < i := by
          rcases Nat.eq_zero_or_pos i with h0 | h0
          · have := hdp0 h0; omega
          · exact h0
        have hpi := hpr hi0
        have HS2 := Lib.hid (miss (by omega) hi0)
        have HN2 : Hid (nd + 1 = (P.Dp l (i - 1 + 1) : Int) + 1 - (P.Dp l (a + 1) : Int)) := by show _ = _; rw [hpi]; omega
        have hp : 1 ≤ nd + 1 := by omega
        have hp2 : nd + 1 ≤ ((i - 1 : Nat) : Int) + 2 := by omega
        clear miss hpr hdp0
        go_wp2
        go_round
        case rel => exact ⟨i - 1, nd + 1, by omega, vint (by omega), (by first | rfl | exact vint (by omega)), HN2, hp, by omega, hp2, HS2⟩
        case measure => simp [intOf]; omega
set_option maxHeartbeats 1600000 in
theorem startI {B : Nat} {A : Option Addr} {n c : Nat} {l : List Nd} {a : Nat} (w : World) (h : Sl RN 6 w B A n c l) (hE : P.okE l = true) (ha : a < n) :
    Calls Try.prog 49 #[.slice A n c, .int .i64 a] w fun e w' => e = .returned (.int .i64 (P.startE l a)) ∧ w = w' := by
  have HL := Lib.hid h.len
  have HE := Lib.hid hE
  have hn9 : n ≤ 9 := by have := (P.okE_len hE).1; have := HL.out; omega
  have hle := h.le
  have HT : Hid (1 ≤ P.Dp l (a + 1)) := by
    obtain ⟨x, hx⟩ : ∃ x, l[a]? = some x := ⟨_, List.getElem?_eq_getElem (by have := HL.out; omega)⟩
    have := P.dp_succ hE hx
    show _ ≤ _
    omega
  clear hE
  go_enter Try.func49, Try.ntmps49
  go_wp2
  go_loop [5, 6] (fun vn vi => ∃ (i : Nat) (nd : Int), i ≤ a ∧ vi = .int .i64 i ∧ vn = .int .i64 nd ∧ Hid (nd = (P.Dp l (i + 1) : Int) + 1 - (P.Dp l (a + 1) : Int)) ∧ 1 ≤ nd ∧ nd ≤ 100 ∧ nd ≤ i + 2 ∧ Hid (P.startE l a = P.downE l (P.Dp l (a + 1)) i)) (fun _ vi => (intOf vi).toNat)
  case atStart => exact ⟨a, 1, Nat.le_refl _, rfl, rfl, by show _ = _; omega, by omega, by omega, by omega, rfl⟩
  case round =>
    obtain ⟨i, nd, hia, rfl, rfl, HND, hn1, hn100, hni, HST⟩ := hrel
    obtain ⟨b, o, x, A1, n1, c1, E1, m1, d1, rfl, hb, hx, hf, hs, ht1, g0, g1, g2, g3, g4, g5⟩ := nodeAt h (show i < n by omega)
    obtain ⟨s1, s2, s3⟩ := P.dp_succ HE.out hx
    have ht := HT.out
    have hnd := HND.out
    have q1 : (i : Int) < (n : Int) := by omega
    have HX := Lib.hid hx
    clear g1 g2 g3 g4 g5 hs ht1 hf h HND hx
    have hdp0 : i = 0 → P.Dp l i = 0 := fun e => by subst e; exact P.dp_zero l
    have miss : P.Dp l i + 1 ≠ P.Dp l (a + 1) → 0 < i → P.startE l a = P.downE l (P.Dp l (a + 1)) (i - 1) := fun h1 h2 => by
      rw [HST.out]
      obtain ⟨j, rfl⟩ : ∃ j, i = j + 1 := ⟨i - 1, by omega⟩
      exact P.downE_miss h1
    have hpr : 0 < i → (P.Dp l (i - 1 + 1) : Int) = P.Dp l i := fun h2 => by rw [show i - 1 + 1 = i by omega]
    have hi3 : P.Dp l i ≤ i := by
      have : ∃ d, P.Dep l i d := by
        obtain ⟨_, d, hd, _⟩ := P.okE_at HE.out HX.out
        exact ⟨d, hd⟩
      obtain ⟨d, hd⟩ := this
      rw [P.dp_of hd]; exact P.dep_le hd
    obtain ⟨k, hk⟩ : ∃ k, P.opnds x.op = k := ⟨_, rfl⟩
    by_cases hz : nd - 1 + (k : Int) = 0
    · have qz : (nd - 1 + (k : Int) == 0) = true := by simpa using hz
      have HR : Hid (P.startE l a = i) := by show _ = _; rw [HST.out]; exact P.downE_hit (by omega)
      clear miss hpr hdp0
      (go_wp2_with (go_at_call 36; refine (operands _ _).mono ?_; rintro e w9 ⟨rfl, rfl⟩; rw [hk]))
      go_ret
      exact ⟨ret_int (by rw [HR.out]), rfl⟩
    · have qz : (nd - 1 + (k : Int) == 0) = false := by simpa using hz
      have hi0 : 0 < i := by
        rcases Nat.eq_zero_or_pos i with h0 | h0
        · have := hdp0 h0; omega
        · exact h0
      have hpi := hpr hi0
      have HS2 := Lib.hid (miss (by omega) hi0)
      have HN2 : Hid (nd - 1 + (k : Int) = (P.Dp l (i - 1 + 1) : Int) + 1 - (P.Dp l (a + 1) : Int)) := by show _ = _; rw [hpi]; omega
      have hp : 1 ≤ nd - 1 + (k : Int) := by omega
      have hp2 : nd - 1 + (k : Int) ≤ ((i - 1 : Nat) : Int) + 2 := by omega
      clear miss hpr hdp0
      (go_wp2_with (go_at_call 36; refine (operands _ _).mono ?_; rintro e w9 ⟨rfl, rfl⟩; rw [hk]))
      go_round
      case rel => exact ⟨i - 1, nd - 1 + (k : Int), by omega, vint (by omega), (by first | rfl | exact vint (by omega)), HN2, hp, by omega, hp2, HS2⟩
      case measure => simp [intOf]; omega
end Go.Proofs.Yteinbnjkiebfaaa.Wk

namespace Go.Proofs.Yteinbnjkiebfaaa.Wk
open Go.RowKit Go.Proofs.Yteinbnjkiebfaaa.M
set_option linter.unusedVariables false
attribute [local go_sem] cell_grow

theorem l5WishE {A E : Option Addr} {n c m d : Nat} {x : Wi} (w : World) (h : Sl RI 1 w w.heap.size A n c x.list) (g : Sl RP 2 w w.heap.size E m d x.pairs) (hn : n ≤ 1048576) (hm : m ≤ 1048576) :
    Calls Try.prog 44 #[.agg #[.int .i64 x.kind, .int .i64 x.field, .int .i64 x.value, .slice A n c, .slice E m d]] w fun e w' => ∃ A2 c2 E2 d2, e = .returned (.agg #[.int .i64 x.kind, .int .i64 x.field, .int .i64 x.value, .slice A2 x.list.length c2, .slice E2 x.pairs.length d2]) ∧ OwnW w' w.heap.size 3 68 x (.slice A2 x.list.length c2) (.slice E2 x.pairs.length d2) ∧ Below w.heap.size w w' :=
  (l5Wish w h g hn hm).mono fun e w' ⟨u, v, he, ho, hb⟩ => by
    obtain ⟨A2, c2, rfl, _, _⟩ := own_form ho.1
    obtain ⟨E2, d2, rfl, _, _⟩ := own_form ho.2.1
    exact ⟨A2, c2, E2, d2, he, ho, hb⟩
theorem below_drew {W w8 : World} (h : Below W.drew.heap.size W.drew w8) : Below W.heap.size W w8 := (Below.refl W.heap.size W).drew.trans h
theorem six {b o : Nat} {a1 a2 a3 a4 a5 a6 : Value} {w w' : World} {B : Nat} (hb : Below B w w') (hlt : b < B) (h : w.cell? ⟨b, o, none⟩ = some a1 ∧ w.cell? ⟨b, o + 1, none⟩ = some a2 ∧ w.cell? ⟨b, o + 2, none⟩ = some a3 ∧ w.cell? ⟨b, o + 3, none⟩ = some a4 ∧ w.cell? ⟨b, o + 4, none⟩ = some a5 ∧ w.cell? ⟨b, o + 5, none⟩ = some a6) :
    w'.cell? ⟨b, o, none⟩ = some a1 ∧ w'.cell? ⟨b, o + 1, none⟩ = some a2 ∧ w'.cell? ⟨b, o + 2, none⟩ = some a3 ∧ w'.cell? ⟨b, o + 3, none⟩ = some a4 ∧ w'.cell? ⟨b, o + 4, none⟩ = some a5 ∧ w'.cell? ⟨b, o + 5, none⟩ = some a6 := by
  obtain ⟨h1, h2, h3, h4, h5, h6⟩ := h
  exact ⟨(cell_of hb _ _ hlt).trans h1, (cell_of hb _ _ hlt).trans h2, (cell_of hb _ _ hlt).trans h3, (cell_of hb _ _ hlt).trans h4, (cell_of hb _ _ hlt).trans h5, (cell_of hb _ _ hlt).trans h6⟩
theorem grown_base {X w1 : World} {B : Nat} {row : Option Nat} (hg : X.grownBy w1 row) (hB : B ≤ X.heap.size) (hr : ∀ q, row = some q → B ≤ q) : Below B X w1 := (Below.refl B X).grown hg hB hr
set_option maxHeartbeats 3200000 in
set_option maxRecDepth 100000 in
theorem l5Copy {A : Option Addr} {n c : Nat} {l : List Nd} (w : World) (h : Sl RN 6 w w.heap.size A n c l) (hn : n ≤ 1048576) (hfit : ∀ x ∈ l, x.wish.list.length ≤ 1048576 ∧ x.wish.pairs.length ≤ 1048576) : Calls Try.prog 38 #[.slice A n c] w (RetNd w l) := by
  obtain ⟨i0, hi, hz0, hz1, hz2⟩ := info_parts info_node
  have HL := Lib.hid h.len
  have HFI := Lib.hid hfit
  have hle := h.le
  go_enter Try.func38, Try.ntmps38
  go_wp2
  go_loopw [3, 4] (fun vo vk wr => ∃ (k : Nat) (ps : List NdC), k ≤ n ∧ vk = .int .i64 k ∧ Hid (ps.map (·.1) = l.take k) ∧ Hid (ps.length = k) ∧ PartN wr w.heap.size 51 3 68 vo ps ∧ Below w.heap.size w wr) (fun _ vk _ => n - (intOf vk).toNat)
  case atStart => exact ⟨0, [], Nat.zero_le _, rfl, rfl, rfl, PartN.nil w _ _ _, (Below.refl _ _).alloc (Nat.le_refl _) _⟩
  case round =>
    clear hfit
    obtain ⟨k, ps, hk, rfl, HM, HPL, hpart, hbw⟩ := hrel
    by_cases hlt : k < n
    · obtain ⟨b, o, x, A1, n1, c1, E1, m1, d1, rfl, hb, hx, hf, hs, ht1, g0, g1, g2, g3, g4, g5⟩ := nodeAt h hlt
      have e0 := ((cell_of hbw) b (o + k * 6) hb).trans g0
      have e1 := ((cell_of hbw) b (o + k * 6 + 1) hb).trans g1
      have e2 := ((cell_of hbw) b (o + k * 6 + 2) hb).trans g2
      have e3 := ((cell_of hbw) b (o + k * 6 + 3) hb).trans g3
      have e4 := ((cell_of hbw) b (o + k * 6 + 4) hb).trans g4
      have e5 := ((cell_of hbw) b (o + k * 6 + 5) hb).trans g5
      have hsz := hbw.size
      have i1 : b < wr.heap.size := by omega
      have HS := Lib.hid (hs.on RI.keeps hbw)
      have HT := Lib.hid (ht1.on RP.keeps hbw)
      have HPT := Lib.hid hpart
      have HB := Lib.hid hbw
      obtain ⟨fl, fp⟩ := HFI.out x (List.mem_of_getElem? hx)
      have n1e : n1 ≤ 1048576 := by have := hs.len; omega
      have m1e : m1 ≤ 1048576 := by have := ht1.len; omega
      have HX := Lib.hid hx
      obtain ⟨A', c', hv, _, _⟩ := own_form hpart.out
      subst hv
      have hpl := HPL.out
      subst hpl
      have h63 : ps.length + 1 ≤ maxLen := by unfold maxLen; omega
      have hby : (ps.length + 1) * 80 ≤ 140737488355328 := by omega
      have q1 : (ps.length : Int) < (n : Int) := by omega
      have q2 : (n : Int) ≤ (c : Int) := by omega
      have bw : b < w.heap.size := hb
      have hrow : ∀ q, (Value.slice A' ps.length c').ownBlock = some q → w.heap.size ≤ q := fun q hq => (hpart.out.lt q hq).1
      have C0 := six (Below.refl wr.heap.size wr).drew i1 ⟨e0, e1, e2, e3, e4, e5⟩
      clear h hx g0 g1 g2 g3 g4 g5 hs ht1 hpart hbw hf e0 e1 e2 e3 e4 e5
      go_wp2_with fail
      go_region_held3 (fun w' => w'.cell? ⟨b, o + ps.length * 6, none⟩ = some (.int .i64 x.op) ∧ w'.cell? ⟨b, o + ps.length * 6 + 1, none⟩ = some (.int .i64 x.wish.kind) ∧ w'.cell? ⟨b, o + ps.length * 6 + 2, none⟩ = some (.int .i64 x.wish.field) ∧ w'.cell? ⟨b, o + ps.length * 6 + 3, none⟩ = some (.int .i64 x.wish.value) ∧ w'.cell? ⟨b, o + ps.length * 6 + 4, none⟩ = some (.slice A1 n1 c1) ∧ w'.cell? ⟨b, o + ps.length * 6 + 5, none⟩ = some (.slice E1 m1 d1)) (first | exact C0 | exact C8 | exact six ((Below.refl _ _).alloc (Nat.le_refl _) _) (Nat.lt_of_lt_of_le bw hs8) C8 | exact six (grown_base hgrow (Nat.le_trans hs8 (size_le_alloc _ _)) hrow) bw (six ((Below.refl _ _).alloc (Nat.le_refl _) _) (Nat.lt_of_lt_of_le bw hs8) C8) | fail) (first | (go_simp; go_at_call 44; with_reducible (refine (l5WishE (x := x.wish) _ (sl_drew HS.out RI.keeps) (sl_drew HT.out RP.keeps) n1e m1e).mono ?_); rintro e w8 ⟨A2, c2, E2, d2, rfl, how, hb8⟩; have hS8 := below_drew hb8; have hs8 : w.heap.size ≤ w8.heap.size := Nat.le_trans HB.out.size hS8.size; have C8 := six hb8 i1 C0) | (refine step_append_lies _ (by rfl) _ _ _ (by rfl) w.heap.size 51 i0 _ 6 80 Try.underlying25 hi hz0 hz1 hz2 rfl (Nat.zero_lt_succ 5) _ _ _ (by rfl) ((HPT.out.below hS8).out.alloc _) ⟨w8.heap.size, 0, none⟩ 1 1 [.int .i64 x.op, .int .i64 x.wish.kind, .int .i64 x.wish.field, .int .i64 x.wish.value, .slice A2 x.wish.list.length c2, .slice E2 x.wish.pairs.length d2] (by rfl) (by rfl) (six_new _ _ _ _ _ _ _ _) (ones6 rfl rfl rfl rfl rfl rfl) Nat.one_pos h63 hby (Nat.le_trans hs8 (size_le_alloc _ _)) _ rfl ?_; intro gg cap w1 hown1 hgrow hat hgl) | fail)
      have hP1 : Hid (PartN w1 w.heap.size 51 3 68 (.slice (some ⟨gg, 0, none⟩) (ps.length + 1) cap) (ps ++ [(x, .slice A2 x.wish.list.length c2, .slice E2 x.wish.pairs.length d2)])) :=
        HPT.out.append (x := x) hS8 how (by first | exact Nat.le_refl _ | (simp; done)) HB.out.size ((Below.refl w8.heap.size w8).alloc (Nat.le_refl _) _) hgrow hown1 hat
      have hB1 := Lib.hid (((HB.out.trans (hS8.mono HB.out.size)).alloc hs8 (.cells #[.int .i64 x.op, .int .i64 x.wish.kind, .int .i64 x.wish.field, .int .i64 x.wish.value, .slice A2 x.wish.list.length c2, .slice E2 x.wish.pairs.length d2] 51)).grown hgrow (by simp; omega) hrow)
      have HM2 : Hid ((ps ++ [(x, Value.slice A2 x.wish.list.length c2, Value.slice E2 x.wish.pairs.length d2)]).map (·.1) = l.take (ps.length + 1)) := by
        show _ = _
        obtain ⟨hl, e⟩ := List.getElem?_eq_some_iff.1 HX.out
        rw [List.map_append, HM.out, List.take_succ_eq_append_getElem hl, e]
        rfl
      have HPL2 : Hid ((ps ++ [(x, Value.slice A2 x.wish.list.length c2, Value.slice E2 x.wish.pairs.length d2)]).length = ps.length + 1) := by show _ = _; rw [List.length_append]; rfl
      clear how hb8 hS8 hown1 hgrow hat
      go_wp2
      go_roundw
      case rel => exact ⟨ps.length + 1, _, by omega, by go_num, HM2, HPL2, hP1.out, hB1.out⟩
      case measure => simp [intOf]; omega
    · have hkn : k = n := by omega
      obtain ⟨A', c', hv, _, _⟩ := own_form hpart.out
      subst hv
      have HM3 : Hid (ps.map (·.1) = l) := by
        show _ = _
        rw [HM.out, List.take_of_length_le (by have := HL.out; omega)]
      have HO : Hid (OwnNd wr w.heap.size wr.heap.size (.slice A' ps.length c') l) := by
        refine ⟨ps, HM3.out, fun p hp => ⟨hpart.rows.each p hp, own_und (hpart.rows.each p hp).1, own_und (hpart.rows.each p hp).2.1⟩, hpart.rows.apart, ?_, own_und hpart.out, hpart.far⟩
        rw [← HM3.out, List.length_map]
        exact hpart.out
      clear h hpart
      go_wp2
      go_ret
      exact ⟨_, rfl, by first | exact HO.out | (rw [← HPL.out]; exact HO.out), hbw⟩
end Go.Proofs.Yteinbnjkiebfaaa.Wk

namespace Go.Proofs.Yteinbnjkiebfaaa.Wk
open Go.RowKit Go.Proofs.Yteinbnjkiebfaaa.M
set_option linter.unusedVariables false
attribute [local go_sem] cell_grow

/-- What Subtree answers. -/
noncomputable def subR (l : List Nd) (a : Int) : List Nd := if P.okE l && P.inR a 0 ((l.length : Int) - 1) then (l.drop (P.startE l a.toNat)).take (a.toNat + 1 - P.startE l a.toNat) else []
theorem subR_mem {l : List Nd} {a : Int} {x : Nd} (h : x ∈ subR l a) : x ∈ l := by
  unfold subR at h
  split at h
  · exact List.mem_of_mem_drop (List.mem_of_mem_take h)
  · simp at h
theorem okE_fit {l : List Nd} (h : P.okE l = true) : ∀ x ∈ l, x.wish.list.length ≤ 1048576 ∧ x.wish.pairs.length ≤ 1048576 := by
  intro x hx
  obtain ⟨i, hi⟩ := List.getElem?_of_mem hx
  have hok := (P.okE_at h hi).1
  unfold P.okN at hok
  rw [Bool.and_eq_true] at hok
  obtain ⟨_, h2⟩ := hok
  split at h2
  · have h3 := P.okW_listlen h2
    have h4 := P.okW_pairslen h2
    omega
  · unfold P.noW at h2
    simp only [decide_eq_true_eq] at h2
    obtain ⟨_, _, _, h3, h4⟩ := h2
    rw [h3, h4]; simp
theorem ownNd_nil (w w' : World) (hb : Below (w.alloc (.cells #[] 51)).heap.size (w.alloc (.cells #[] 51)) w') : OwnNd w' w.heap.size w'.heap.size (.slice (some ⟨w.heap.size, 0, none⟩) 0 0) [] := by
  have h := own_below (own_emptyS w 51 6) hb
  exact ⟨[], rfl, fun p hp => absurd hp (by simp), by simp [ndv], h, own_und h, fun u hu => absurd hu (by simp [ndv])⟩
theorem ownNd_mono {w : World} {lo lo' hi : Nat} {v : Value} {l : List Nd} (h : OwnNd w lo hi v l) (hl : lo' ≤ lo) : OwnNd w lo' hi v l := by
  obtain ⟨ps, h1, h2, h3, h4, h5, h6⟩ := h
  exact ⟨ps, h1, fun p hp => ⟨(h2 p hp).1.mono hl, (h2 p hp).2⟩, h3, own_mono h4 hl, h5, h6⟩
set_option maxHeartbeats 1600000 in
set_option maxRecDepth 100000 in
theorem specSubtree {A : Option Addr} {n c : Nat} {l : List Nd} {a : Int} (w : World) (h : Sl RN 6 w w.heap.size A n c l) (ha : Fit a) : Calls Try.prog 24 #[.slice A n c, .int .i64 a] w (RetNd w (subR l a)) := by
  have HL := Lib.hid h.len
  have hle := h.le
  have hmx := h.max
  unfold maxLen at hmx
  cases hok : P.okE l with
  | false =>
    have HE : Hid (subR l a = []) := by show _ = _; unfold subR; rw [hok]; rfl
    go_enter Try.func24, Try.ntmps24
    go_wp2_with (go_at_call 13; refine (specIsExpression _ h).mono ?_; rintro e w2 ⟨rfl, b2⟩; rw [hok])
    go_ret
    refine ⟨_, rfl, ?_, b2.trans ((Below.refl w2.heap.size w2).alloc (Nat.le_refl _) _ |>.mono b2.size)⟩
    rw [HE.out]
    exact ownNd_mono (ownNd_nil w2 _ (Below.refl _ _)) b2.size
  | true =>
    have hn9 : n ≤ 9 := by have := (P.okE_len hok).1; have := HL.out; omega
    have HK := Lib.hid hok
    cases hin : P.inR a 0 ((n : Int) - 1) with
    | false =>
      have HE : Hid (subR l a = []) := by show _ = _; unfold subR; rw [HL.out, hin]; simp
      go_enter Try.func24, Try.ntmps24
      go_wp2_with (first | (go_at_call 13; refine (specIsExpression _ h).mono ?_; rintro e w2 ⟨rfl, b2⟩; rw [hok]) | (go_at_call 47; refine (l1In _ _ _ _).mono ?_; rintro e w9 ⟨rfl, rfl⟩; rw [hin]))
      go_ret
      refine ⟨_, rfl, ?_, b2.trans ((Below.refl w2.heap.size w2).alloc (Nat.le_refl _) _ |>.mono b2.size)⟩
      rw [HE.out]
      exact ownNd_mono (ownNd_nil w2 _ (Below.refl _ _)) b2.size
    | true =>
      obtain ⟨a0, a1⟩ := P.inR_t hin
      obtain ⟨k, rfl⟩ := Int.eq_ofNat_of_zero_le a0
      have hkn : k < n := by omega
      have HE : Hid (subR l k = (l.drop (P.startE l k)).take (k + 1 - P.startE l k)) := by
        show _ = _
        unfold subR
        rw [HL.out, hin, hok]
        rfl
      obtain ⟨lo, hlo⟩ : ∃ lo, P.startE l k = lo := ⟨_, rfl⟩
      have hlk : lo ≤ k := by rw [← hlo]; exact P.startE_le l k
      rw [hlo] at HE
      have q1 : (lo : Int) ≤ (k : Int) + 1 := by omega
      have q2 : (k : Int) + 1 ≤ (n : Int) := by omega
      have q3 : (n : Int) ≤ (c : Int) := by omega
      have HFI := Lib.hid (okE_fit HK.out)
      have HLO := Lib.hid hlo
      go_enter Try.func24, Try.ntmps24
      go_wp2_with fail
      refine (specIsExpression _ h).mono ?_
      rintro e w2 ⟨rfl, b2⟩
      rw [hok]
      have h2 := h.on RN.keeps b2
      have hcl : c ≠ lo := by omega
      have HP := Lib.hid (h2.part (lo := lo) (hi := k + 1) (by omega) (by omega))
      go_wp2_with (first | (go_at_call 47; refine (l1In _ _ _ _).mono ?_; rintro e w9 ⟨rfl, rfl⟩; rw [hin]) | (go_at_call 48; refine (l6Start _ h2 HK.out hkn).mono ?_; rintro e w9 ⟨rfl, rfl⟩; rw [HLO.out]))
      have HP := Lib.hid (by have := HP.out; rwa [if_neg hcl] at this)
      refine (l5Copy _ HP.out (by omega) (fun x hx => HFI.out x (List.mem_of_mem_drop (List.mem_of_mem_take hx)))).mono ?_
      rintro e w3 ⟨v, rfl, ho, hb3⟩
      go_wp2
      go_ret
      refine ⟨_, rfl, ?_, b2.trans (hb3.mono b2.size)⟩
      rw [HE.out]
      exact ownNd_mono ho b2.size
set_option maxHeartbeats 1600000 in
set_option maxRecDepth 100000 in
theorem implSubtree {A : Option Addr} {n c : Nat} {l : List Nd} {a : Int} (w : World) (h : Sl RN 6 w w.heap.size A n c l) (ha : Fit a) : Calls Try.prog 25 #[.slice A n c, .int .i64 a] w (RetNd w (subR l a)) := by
  have HL := Lib.hid h.len
  have hle := h.le
  have hmx := h.max
  unfold maxLen at hmx
  cases hok : P.okE l with
  | false =>
    have HE : Hid (subR l a = []) := by show _ = _; unfold subR; rw [hok]; rfl
    go_enter Try.func25, Try.ntmps25
    go_wp2_with (go_at_call 14; refine (implIsExpression _ h).mono ?_; rintro e w2 ⟨rfl, b2⟩; rw [hok])
    go_ret
    refine ⟨_, rfl, ?_, b2.trans ((Below.refl w2.heap.size w2).alloc (Nat.le_refl _) _ |>.mono b2.size)⟩
    rw [HE.out]
    exact ownNd_mono (ownNd_nil w2 _ (Below.refl _ _)) b2.size
  | true =>
    have hn9 : n ≤ 9 := by have := (P.okE_len hok).1; have := HL.out; omega
    have HK := Lib.hid hok
    cases hin : P.inR a 0 ((n : Int) - 1) with
    | false =>
      have HE : Hid (subR l a = []) := by show _ = _; unfold subR; rw [HL.out, hin]; simp
      go_enter Try.func25, Try.ntmps25
      go_wp2_with (first | (go_at_call 14; refine (implIsExpression _ h).mono ?_; rintro e w2 ⟨rfl, b2⟩; rw [hok]) | (go_at_call 35; refine (within _ _ _ _).mono ?_; rintro e w9 ⟨rfl, rfl⟩; rw [hin]))
      go_ret
      refine ⟨_, rfl, ?_, b2.trans ((Below.refl w2.heap.size w2).alloc (Nat.le_refl _) _ |>.mono b2.size)⟩
      rw [HE.out]
      exact ownNd_mono (ownNd_nil w2 _ (Below.refl _ _)) b2.size
    | true =>
      obtain ⟨a0, a1⟩ := P.inR_t hin
      obtain ⟨k, rfl⟩ := Int.eq_ofNat_of_zero_le a0
      have hkn : k < n := by omega
      have HE : Hid (subR l k = (l.drop (P.startE l k)).take (k + 1 - P.startE l k)) := by
        show _ = _
        unfold subR
        rw [HL.out, hin, hok]
        rfl
      obtain ⟨lo, hlo⟩ : ∃ lo, P.startE l k = lo := ⟨_, rfl⟩
      have hlk : lo ≤ k := by rw [← hlo]; exact P.startE_le l k
      rw [hlo] at HE
      have q1 : (lo : Int) ≤ (k : Int) + 1 := by omega
      have q2 : (k : Int) + 1 ≤ (n : Int) := by omega
      have q3 : (n : Int) ≤ (c : Int) := by omega
      have HFI := Lib.hid (okE_fit HK.out)
      have HLO := Lib.hid hlo
      go_enter Try.func25, Try.ntmps25
      go_wp2_with fail
      refine (implIsExpression _ h).mono ?_
      rintro e w2 ⟨rfl, b2⟩
      rw [hok]
      have h2 := h.on RN.keeps b2
      have hcl : c ≠ lo := by omega
      have HP := Lib.hid (h2.part (lo := lo) (hi := k + 1) (by omega) (by omega))
      go_wp2_with (first | (go_at_call 35; refine (within _ _ _ _).mono ?_; rintro e w9 ⟨rfl, rfl⟩; rw [hin]) | (go_at_call 49; refine (startI _ h2 HK.out hkn).mono ?_; rintro e w9 ⟨rfl, rfl⟩; rw [HLO.out]))
      have HP := Lib.hid (by have := HP.out; rwa [if_neg hcl] at this)
      refine (copyNodes _ HP.out (by omega) (fun x hx => HFI.out x (List.mem_of_mem_drop (List.mem_of_mem_take hx)))).mono ?_
      rintro e w3 ⟨v, rfl, ho, hb3⟩
      go_wp2
      go_ret
      refine ⟨_, rfl, ?_, b2.trans (hb3.mono b2.size)⟩
      rw [HE.out]
      exact ownNd_mono ho b2.size
end Go.Proofs.Yteinbnjkiebfaaa.Wk

namespace Go.Proofs.Yteinbnjkiebfaaa.M
open Go Go.RowKit

/-- Wish k of a list in memory. -/
theorem wishAt {w : World} {B n c k : Nat} {A : Option Addr} {l : List Wi} (h : Sl RW 5 w B A n c l) (hk : k < n) :
    ∃ b o x A1 n1 c1 E1 m1 d1, A = some ⟨b, o, none⟩ ∧ b < B ∧ l[k]? = some x ∧ (Fit x.kind ∧ Fit x.field ∧ Fit x.value) ∧ Sl RI 1 w B A1 n1 c1 x.list ∧ Sl RP 2 w B E1 m1 d1 x.pairs ∧
      w.cell? ⟨b, o + k * 5, none⟩ = some (.int .i64 x.kind) ∧ w.cell? ⟨b, o + k * 5 + 1, none⟩ = some (.int .i64 x.field) ∧ w.cell? ⟨b, o + k * 5 + 2, none⟩ = some (.int .i64 x.value) ∧
      w.cell? ⟨b, o + k * 5 + 3, none⟩ = some (.slice A1 n1 c1) ∧ w.cell? ⟨b, o + k * 5 + 4, none⟩ = some (.slice E1 m1 d1) := by
  obtain ⟨b, o, x, cs, e, hlt, hx, _, ⟨v, u, rfl, f1, f2, f3, ⟨A1, n1, c1, rfl, hs⟩, ⟨E1, m1, d1, rfl, ht⟩⟩, hc⟩ := h.get hk
  refine ⟨b, o, x, A1, n1, c1, E1, m1, d1, e, hlt, hx, ⟨f1, f2, f3⟩, hs, ht, ?_, ?_, ?_, ?_, ?_⟩
  · simpa using hc 0 _ rfl
  · have := hc 1 _ rfl; rwa [← Nat.add_assoc] at this
  · have := hc 2 _ rfl; rwa [← Nat.add_assoc] at this
  · have := hc 3 _ rfl; rwa [← Nat.add_assoc] at this
  · have := hc 4 _ rfl; rwa [← Nat.add_assoc] at this
/-! ### cells in fives -/
def wd5 (p : NdC) : List Value := [.int .i64 p.1.wish.kind, .int .i64 p.1.wish.field, .int .i64 p.1.wish.value, p.2.1, p.2.2]
def wdc (ps : List NdC) : List Value := ps.flatMap wd5
theorem wdc_len (ps : List NdC) : (wdc ps).length = ps.length * 5 := by
  induction ps with
  | nil => rfl
  | cons a t ih => simp only [wdc, wd5, List.flatMap_cons, List.length_append, List.length_cons, List.length_nil] at ih ⊢; omega
theorem wdc_cons (a : NdC) (t : List NdC) : wdc (a :: t) = .int .i64 a.1.wish.kind :: .int .i64 a.1.wish.field :: .int .i64 a.1.wish.value :: a.2.1 :: a.2.2 :: wdc t := rfl
theorem wdc_at (ps : List NdC) : ∀ (k : Nat) (p : NdC), ps[k]? = some p → (wdc ps)[k * 5]? = some (.int .i64 p.1.wish.kind) ∧ (wdc ps)[k * 5 + 1]? = some (.int .i64 p.1.wish.field) ∧ (wdc ps)[k * 5 + 2]? = some (.int .i64 p.1.wish.value) ∧ (wdc ps)[k * 5 + 3]? = some p.2.1 ∧ (wdc ps)[k * 5 + 4]? = some p.2.2 := by
  induction ps with
  | nil => intro k p h; simp at h
  | cons a t ih =>
    intro k p h
    cases k with
    | zero => simp at h; subst h; simp [wdc_cons]
    | succ k =>
      have := ih k p (by simpa using h)
      rw [wdc_cons]
      rw [show (k + 1) * 5 = k * 5 + 1 + 1 + 1 + 1 + 1 by omega]
      rw [show k * 5 + 1 + 1 + 1 + 1 + 1 + 1 = (k * 5 + 1) + 1 + 1 + 1 + 1 + 1 by omega, show k * 5 + 1 + 1 + 1 + 1 + 1 + 2 = (k * 5 + 2) + 1 + 1 + 1 + 1 + 1 by omega, show k * 5 + 1 + 1 + 1 + 1 + 1 + 3 = (k * 5 + 3) + 1 + 1 + 1 + 1 + 1 by omega, show k * 5 + 1 + 1 + 1 + 1 + 1 + 4 = (k * 5 + 4) + 1 + 1 + 1 + 1 + 1 by omega]
      simp only [List.getElem?_cons_succ]
      exact this
theorem wdc_set (ps : List NdC) : ∀ (k : Nat) (p : NdC), (∀ q, ps[k]? = some q → q.2 = p.2) → ((((wdc ps).set (k * 5) (.int .i64 p.1.wish.kind)).set (k * 5 + 1) (.int .i64 p.1.wish.field)).set (k * 5 + 2) (.int .i64 p.1.wish.value)) = wdc (ps.set k p) := by
  induction ps with
  | nil => intro k p _; simp [wdc]
  | cons a t ih =>
    intro k p h
    cases k with
    | zero =>
      have := h a rfl
      rw [List.set_cons_zero, wdc_cons, wdc_cons, ← this]; rfl
    | succ k =>
      have := ih k p (fun q hq => h q (by simpa using hq))
      rw [List.set_cons_succ, wdc_cons, wdc_cons, ← this]
      rw [show (k + 1) * 5 = k * 5 + 1 + 1 + 1 + 1 + 1 by omega]
      rw [show k * 5 + 1 + 1 + 1 + 1 + 1 + 1 = (k * 5 + 1) + 1 + 1 + 1 + 1 + 1 by omega, show k * 5 + 1 + 1 + 1 + 1 + 1 + 2 = (k * 5 + 2) + 1 + 1 + 1 + 1 + 1 by omega]
      simp only [List.set_cons_succ]
theorem wdc_set_app (ps : List NdC) (cs : List Value) {k : Nat} (p : NdC) (h : k < ps.length) (hq : ∀ q, ps[k]? = some q → q.2 = p.2) :
    ((((wdc ps ++ cs).set (k * 5) (.int .i64 p.1.wish.kind)).set (k * 5 + 1) (.int .i64 p.1.wish.field)).set (k * 5 + 2) (.int .i64 p.1.wish.value)) = wdc (ps.set k p) ++ cs := by
  have hl := wdc_len ps
  rw [set_app (by omega), set_app (by simp only [List.length_set]; omega), set_app (by simp only [List.length_set]; omega), wdc_set ps k p hq]
theorem wdc_flat (ps : List NdC) : (ps.map wd5).flatten = wdc ps := by unfold wdc; rw [List.flatMap_def]
theorem wdc_snoc (ps : List NdC) (p : NdC) : wdc (ps ++ [p]) = wdc ps ++ wd5 p := by unfold wdc; rw [List.flatMap_append]; simp
/-- The rows of a list of wishes that the call is laying. -/
structure PartW (w : World) (lo EW E EP : Nat) (v : Value) (ps : List NdC) : Prop where
  rows : OwnNs w lo E EP ps
  out : w.ownsRow lo EW 5 v ps.length (wdc ps)
  far : ∀ u ∈ ndv ps, Far u v
section
variable {w w' w8 wA w1 : World} {lo lo2 EW E EP gg cap : Nat} {v u1 u2 : Value} {ps : List NdC} {x : Nd}
theorem PartW.below (h : PartW w lo EW E EP v ps) (hb : Below w.heap.size w w') : PartW w' lo EW E EP v ps := ⟨h.rows.below hb, own_below h.out hb, h.far⟩
theorem PartW.nil (w : World) (EW E EP : Nat) : PartW (w.alloc (.cells #[] EW)) w.heap.size EW E EP (.slice (some ⟨w.heap.size, 0, none⟩) 0 0) [] :=
  ⟨OwnNs.nil _ _ _ _, own_emptyS w EW 5, fun u hu => absurd hu (by simp [ndv])⟩
theorem PartW.append (h : PartW w lo EW E EP v ps) (hb : Below w.heap.size w w8) (hn : OwnW w8 lo2 E EP x.wish u1 u2) (hlo2 : w.heap.size ≤ lo2) (hlo : lo ≤ w.heap.size) (hA : Below w8.heap.size w8 wA) (hg : wA.grownBy w1 v.ownBlock)
    (hown1 : w1.ownsRow lo EW 5 (.slice (some ⟨gg, 0, none⟩) (ps.length + 1) cap) (ps.length + 1) (wdc ps ++ wd5 (x, u1, u2))) (hat : v.ownBlock = some gg ∨ gg = wA.heap.size) :
    PartW w1 lo EW E EP (.slice (some ⟨gg, 0, none⟩) (ps.length + 1) cap) (ps ++ [(x, u1, u2)]) := by
  have S := h.rows.snoc (p := (x, u1, u2)) hb hn hlo2 (by omega)
  have key : ∀ u ∈ ndv (ps ++ [(x, u1, u2)]), ∀ q, u.ownBlock = some q → v.ownBlock ≠ some q := by
    intro u hu q hq hv
    rw [ndv_snoc] at hu
    have hvl := (h.out.lt q hv).2
    rcases List.mem_append.1 hu with hu | hu
    · rcases h.far u hu with h1 | h1
      · rw [hq] at h1; cases h1
      · exact h1 (hq.trans hv.symm)
    · simp at hu
      rcases hu with rfl | rfl
      · have := (hn.1.lt q hq).1; omega
      · have := (hn.2.1.lt q hq).1; omega
  have SA := S.below hA
  refine ⟨⟨fun p hp => ?_, S.apart⟩, ?_, fun u hu => ?_⟩
  · obtain ⟨a1, a2, a3⟩ := SA.each p hp
    have m1 : p.2.1 ∈ ndv (ps ++ [(x, u1, u2)]) := List.mem_flatMap.2 ⟨p, hp, by simp⟩
    have m2 : p.2.2 ∈ ndv (ps ++ [(x, u1, u2)]) := List.mem_flatMap.2 ⟨p, hp, by simp⟩
    exact ⟨own_grown a1 hg (fun q hq e => key _ m1 q hq e.symm), own_grown a2 hg (fun q hq e => key _ m2 q hq e.symm), a3⟩
  · rw [wdc_snoc, List.length_append]
    exact hown1
  · cases hq : u.ownBlock with
    | none => exact .inl hq
    | some q =>
      refine .inr fun hh => ?_
      rw [hq] at hh
      have hgq : gg = q := by
        simp [Value.ownBlock] at hh
        exact hh.symm
      rcases hat with h1 | h1
      · exact key u hu q hq (by rw [h1, hgq])
      · have h2 := (S.lt hu hq).2
        have h3 := hA.size
        omega
end
end Go.Proofs.Yteinbnjkiebfaaa.M

namespace Go.Proofs.Yteinbnjkiebfaaa.Wk
open Go.RowKit Go.Proofs.Yteinbnjkiebfaaa.M
set_option linter.unusedVariables false

/-! ### marks of wishes -/
def cnw1 (x : Wi) : Nat := 3 + x.list.length + 2 * x.pairs.length
def cntW : List Wi → Nat
  | [] => 0
  | x :: t => cnw1 x + cntW t
def mkWi (k : Int) (x : Wi) : Wi := ⟨k, k + 1, k + 2, allI x.list.length (k + 3), allP x.pairs.length (k + 3 + x.list.length)⟩
def allW : List Wi → Int → List Wi
  | [], _ => []
  | x :: t, k => mkWi k x :: allW t (k + cnw1 x)
theorem allW_len : ∀ (l : List Wi) (k : Int), (allW l k).length = l.length
  | [], _ => rfl
  | x :: t, k => by rw [allW, List.length_cons, allW_len t, List.length_cons]
theorem cntW_app : ∀ (l m : List Wi), cntW (l ++ m) = cntW l + cntW m
  | [], m => by simp [cntW]
  | x :: t, m => by simp only [List.cons_append, cntW, cntW_app t m]; omega
theorem cntW_succ {l : List Wi} {i : Nat} {x : Wi} (h : l[i]? = some x) : cntW (l.take (i + 1)) = cntW (l.take i) + cnw1 x := by
  obtain ⟨hl, e⟩ := List.getElem?_eq_some_iff.1 h
  rw [List.take_succ_eq_append_getElem hl, e, cntW_app]; rfl
theorem cntW_le (l : List Wi) (i : Nat) : cntW (l.take i) ≤ cntW l := by
  have := cntW_app (l.take i) (l.drop i)
  rw [List.take_append_drop] at this; omega
theorem allW_at : ∀ {l : List Wi} {k : Int} {i : Nat} {x : Wi}, l[i]? = some x → (allW l k)[i]? = some (mkWi (k + cntW (l.take i)) x)
  | [], _, _, _, h => by simp at h
  | y :: t, k, 0, x, h => by
    simp at h; subst h
    simp [allW, cntW]
  | y :: t, k, i + 1, x, h => by
    rw [allW, List.getElem?_cons_succ, allW_at (by simpa using h), List.take_succ_cons, cntW]
    have : k + (cnw1 y : Int) + (cntW (List.take i t) : Int) = k + ((cnw1 y + cntW (List.take i t) : Nat) : Int) := by omega
    rw [this]
theorem fit_allW : ∀ {l : List Wi} {k : Int}, 0 ≤ k → k + cntW l ≤ 4611686018427387904 → ∀ x ∈ allW l k, FitW x
  | [], _, _, _, x, hx => by simp [allW] at hx
  | y :: t, k, h0, h1, x, hx => by
    have hc : cntW (y :: t) = cnw1 y + cntW t := rfl
    rw [hc] at h1
    have hcy : cnw1 y = 3 + y.list.length + 2 * y.pairs.length := rfl
    rw [allW] at hx
    rcases List.mem_cons.1 hx with rfl | hx
    · refine ⟨by unfold Fit mkWi; simp only; omega, by unfold Fit mkWi; simp only; omega, by unfold Fit mkWi; simp only; omega, ?_, ?_⟩
      · exact fit_allI (n := y.list.length) (k := k + 3) (by omega) (by omega)
      · exact fit_allP (n := y.pairs.length) (k := k + 3 + y.list.length) (by omega) (by omega)
    · exact fit_allW (by omega) (by omega) x hx
def OwnWs (w : World) (lo hi : Nat) (v : Value) (l : List Wi) : Prop :=
  ∃ ps : List NdC, ps.map (·.1.wish) = l ∧ (∀ p ∈ ps, OwnW w lo 3 68 p.1.wish p.2.1 p.2.2 ∧ Und p.2.1 hi ∧ Und p.2.2 hi) ∧ (ndv ps).Pairwise Far ∧ w.ownsRow lo 49 5 v l.length (wdc ps) ∧ Und v hi ∧ ∀ u ∈ ndv ps, Far u v
def RetWs (w : World) (l : List Wi) (e : Ending) (w' : World) : Prop := ∃ v, e = .returned v ∧ OwnWs w' w.heap.size w'.heap.size v l ∧ Below w.heap.size w w'
section
variable {w w' : World} {lo hi lo' hi' : Nat} {v : Value} {l : List Wi}
theorem OwnWs.of {ps : List NdC} (h : PartW w lo 49 3 68 v ps) (hl : ps.map (·.1.wish) = l) : OwnWs w lo w.heap.size v l := by
  refine ⟨ps, hl, fun p hp => ⟨h.rows.each p hp, own_und (h.rows.each p hp).1, own_und (h.rows.each p hp).2.1⟩, h.rows.apart, ?_, own_und h.out, h.far⟩
  rw [← hl, List.length_map]; exact h.out
theorem OwnWs.below (h : OwnWs w lo hi v l) (hb : Below w.heap.size w w') : OwnWs w' lo hi v l := by
  obtain ⟨ps, h1, h2, h3, h4, h5, h6⟩ := h
  exact ⟨ps, h1, fun p hp => ⟨(h2 p hp).1.below hb, (h2 p hp).2⟩, h3, own_below h4 hb, h5, h6⟩
theorem OwnWs.rng (h : OwnWs w lo hi v l) (hc : Chg (Rng lo' hi') w w') (hd : hi' ≤ lo ∨ hi ≤ lo') : OwnWs w' lo hi v l := by
  obtain ⟨ps, h1, h2, h3, h4, h5, h6⟩ := h
  exact ⟨ps, h1, fun p hp => ⟨⟨own_rng (h2 p hp).1.1 (h2 p hp).2.1 hc hd, own_rng (h2 p hp).1.2.1 (h2 p hp).2.2 hc hd, (h2 p hp).1.2.2⟩, (h2 p hp).2⟩, h3, own_rng h4 h5 hc hd, h5, h6⟩
theorem OwnWs.read (h : OwnWs w lo hi v l) (hf : ∀ x ∈ l, FitW x) : V RW 5 w w.heap.size v l := by
  obtain ⟨ps, rfl, h2, h3, h4, h5, h6⟩ := h
  refine own_V (css := ps.map wd5) (by rw [wdc_flat]; exact h4) (by simp) (fun i x cs hx hc => ?_)
  rw [List.getElem?_map] at hx hc
  cases hp : ps[i]? with
  | none => rw [hp] at hx; cases hx
  | some p =>
    rw [hp] at hx hc
    simp at hx hc
    subst hx hc
    obtain ⟨f1, f2, f3, f4, f5⟩ := hf p.1.wish (List.mem_map.2 ⟨p, List.mem_of_getElem? hp, rfl⟩)
    obtain ⟨r1, r2⟩ := (h2 p (List.mem_of_getElem? hp)).1.read ⟨f4, f5⟩
    exact ⟨rfl, _, _, rfl, f1, f2, f3, r1, r2⟩
end
attribute [local go_sem] cell_grow in
set_option maxHeartbeats 1600000 in
set_option maxRecDepth 100000 in
theorem eq_wishes {A A' : Option Addr} {n n' c c' : Nat} {l : List Wi} (w : World) (h : Sl RW 5 w w.heap.size A n c l) (h' : Sl RW 5 w w.heap.size A' n' c' l) :
    Calls Try.prog 21 #[.slice A n c, .slice A' n' c'] w fun e w' => e = .returned (.bool true) ∧ Below w.heap.size w w' := by
  obtain rfl : n = n' := h.len.symm.trans h'.len
  have mx1 := Nat.le_trans h.le h.max
  unfold maxLen at mx1
  have ht : ((n : Int) != (n : Int)) = false := by simp
  go_enter Try.func21, Try.ntmps21
  go_wp2
  go_loopw [5] (fun vi wr => ∃ k : Nat, k ≤ n ∧ vi = .int .i64 k ∧ Below w.heap.size w wr) (fun vi _ => n - (intOf vi).toNat)
  case atStart => exact ⟨0, Nat.zero_le _, rfl, Below.refl _ _⟩
  case round =>
    obtain ⟨k, hk, rfl, hbw⟩ := hrel
    by_cases hlt : k < n
    · obtain ⟨b, o, x, A1, n1, c1, E1, m1, d1, rfl, hb, hx, hf, hs, ht1, g0, g1, g2, g3, g4⟩ := wishAt h hlt
      obtain ⟨b', o', y, A2, n2, c2, E2, m2, d2, rfl, hb', hy, hf', hs', ht1', g0', g1', g2', g3', g4'⟩ := wishAt h' hlt
      obtain rfl : x = y := by rw [hx] at hy; injection hy
      have hsz := hbw.size
      have i1 : b < wr.heap.size := by omega
      have i2 : b' < wr.heap.size := by omega
      have e0 := ((cell_of hbw) b (o + k * 5) hb).trans g0
      have e1 := ((cell_of hbw) b (o + k * 5 + 1) hb).trans g1
      have e2 := ((cell_of hbw) b (o + k * 5 + 2) hb).trans g2
      have e3 := ((cell_of hbw) b (o + k * 5 + 3) hb).trans g3
      have e4 := ((cell_of hbw) b (o + k * 5 + 4) hb).trans g4
      have e0' := ((cell_of hbw) b' (o' + k * 5) hb').trans g0'
      have e1' := ((cell_of hbw) b' (o' + k * 5 + 1) hb').trans g1'
      have e2' := ((cell_of hbw) b' (o' + k * 5 + 2) hb').trans g2'
      have e3' := ((cell_of hbw) b' (o' + k * 5 + 3) hb').trans g3'
      have e4' := ((cell_of hbw) b' (o' + k * 5 + 4) hb').trans g4'
      have HS := Lib.hid (hs.on RI.keeps hbw)
      have HS' := Lib.hid (hs'.on RI.keeps hbw)
      have HT := Lib.hid (ht1.on RP.keeps hbw)
      have HT' := Lib.hid (ht1'.on RP.keeps hbw)
      have HB := Lib.hid hbw
      have q1 : (k : Int) < (n : Int) := by omega
      clear hx hy h h' hbw hs hs' ht1 ht1' g0 g1 g2 g3 g4 g0' g1' g2' g3' g4'
      go_wp2_with fail
      refine wp_region_qb (by kernel_rfl) (by kernel_rfl) ?_; (repeat (go_big_quiet_step ((go_at_call 46; exact quietB (eq_wish _ (HS.out.gr RI.keeps _ _) (HT.out.gr RP.keeps _ _) (HS'.out.gr RI.keeps _ _) (HT'.out.gr RP.keeps _ _)))))); refine wpQuiet_nil ?_; intro w8 hb8
      go_wp2
      go_roundw
      case rel => exact ⟨k + 1, by omega, by go_num, HB.out.trans (hb8.mono hsz)⟩
      case measure => simp [intOf]; omega
    · clear h h'
      go_wp2
      go_ret
      exact ⟨rfl, hbw⟩
set_option maxHeartbeats 1600000 in
set_option maxRecDepth 100000 in
theorem eqO_wishes {lo hi B : Nat} {v u : Value} {l : List Wi} (w : World) (h : OwnWs w lo hi v l) (hf : ∀ x ∈ l, FitW x) (h' : V RW 5 w B u l) (hB : B ≤ w.heap.size) :
    Calls Try.prog 21 #[v, u] w fun e w' => e = .returned (.bool true) ∧ Below w.heap.size w w' := by
  obtain ⟨A, n, c, rfl, hs⟩ := h.read hf
  obtain ⟨A', n', c', rfl, hs'⟩ := h'
  exact eq_wishes w hs (hs'.more RW.keeps hB)
set_option maxHeartbeats 1600000 in
set_option maxRecDepth 100000 in
theorem heldWishS {B : Nat} {A : Option Addr} {n c : Nat} {l : List Wi} {k : Int} (w : World) (h : Sl RW 5 w B A n c (allW l k)) (h0 : 0 ≤ k) (h1 : k + cntW l ≤ 4611686018427387904) :
    Calls Try.prog 23 #[.slice A n c, .int .i64 k] w fun e w' => e = .returned (.int .i64 (k + cntW l)) ∧ w = w' := by
  have mx := Nat.le_trans h.le h.max
  unfold maxLen at mx
  have HLN : Hid (l.length = n) := by have := h.len; rw [allW_len] at this; exact this
  have HC := Lib.hid (cntW_le l)
  go_enter Try.func23, Try.ntmps23
  go_wp2
  go_loop [1, 5] (fun vk vi => ∃ i : Nat, i ≤ n ∧ vi = .int .i64 i ∧ vk = .int .i64 (k + cntW (l.take i))) (fun _ vi => n - (intOf vi).toNat)
  case atStart => exact ⟨0, Nat.zero_le _, rfl, vint (by simp [cntW])⟩
  case round =>
    obtain ⟨i, hi, rfl, rfl⟩ := hrel
    by_cases hlt : i < n
    · obtain ⟨y, hy⟩ : ∃ y, l[i]? = some y := ⟨_, List.getElem?_eq_getElem (by have := HLN.out; omega)⟩
      have HS := Lib.hid (cntW_succ hy)
      have hle := HC.out (i + 1)
      have hcy : cnw1 y = 3 + y.list.length + 2 * y.pairs.length := rfl
      obtain ⟨b, o, x, A1, n1, c1, E1, m1, d1, rfl, hb, hx, hf, hs, ht1, g0, g1, g2, g3, g4⟩ := wishAt h hlt
      rw [allW_at hy] at hx
      injection hx with hx
      subst hx
      obtain ⟨kk, hkk⟩ : ∃ kk : Int, k + (cntW (l.take i) : Int) = kk := ⟨_, rfl⟩
      rw [hkk] at g0 g1 g2 hs ht1
      simp only [mkWi] at g0 g1 g2 hs ht1
      have n1e : y.list.length = n1 := by have := hs.len; rwa [allI_len] at this
      have m1e : y.pairs.length = m1 := by have := ht1.len; rwa [allP_len] at this
      rw [n1e] at hs ht1 hcy
      rw [m1e] at ht1 hcy
      have hk0 : 0 ≤ kk := by omega
      have hsc := HS.out
      have hk1 : kk + 3 + n1 + 2 * m1 ≤ 4611686018427387904 := by omega
      have p0 : (kk != kk) = false := by simp
      have p1 : (kk + 1 != kk + 1) = false := by simp
      have p2 : (kk + 2 != kk + 2) = false := by simp
      have a1 : kk + 1 + 1 = kk + 2 := by omega
      have a2 : kk + 2 + 1 = kk + 3 := by omega
      have HI := Lib.hid hs
      have HP := Lib.hid ht1
      have r1 : ¬ (kk + 3 + (n1 : Int) < 0) := by omega
      have r2 : ¬ (kk + 3 + (n1 : Int) + 2 * (m1 : Int) < 0) := by omega
      have r3 : kk + 3 + (n1 : Int) + 2 * (m1 : Int) = k + (cntW (l.take (i + 1)) : Int) := by omega
      have R3 := Lib.hid r3
      clear h hf hs ht1 hy r3 hsc
      try rw [hkk]
      try simp only [hkk]
      go_wp2_with (first | (go_at_call 42; refine (heldIntS _ HI.out (by omega) (by omega)).mono ?_; rintro e w' ⟨rfl, rfl⟩) | (go_at_call 43; refine (heldPairS _ HP.out (by omega) (by omega)).mono ?_; rintro e w' ⟨rfl, rfl⟩))
      go_round
      case rel => exact ⟨i + 1, by omega, by go_num, vint R3.out⟩
      case measure => simp [intOf]; omega
    · have HE : Hid (k + (cntW (l.take i) : Int) = k + cntW l) := by
        show _ = _
        rw [List.take_of_length_le (by have := HLN.out; omega)]
      have hcn := HC.out i
      clear h
      go_wp2
      go_ret
      exact ⟨ret_int HE.out, rfl⟩
theorem held_wishes {lo hi : Nat} {v : Value} {l : List Wi} {k : Int} (w : World) (h : OwnWs w lo hi v (allW l k)) (h0 : 0 ≤ k) (h1 : k + cntW l ≤ 4611686018427387904) :
    Calls Try.prog 23 #[v, .int .i64 k] w fun e w' => e = .returned (.int .i64 (k + cntW l)) ∧ w = w' := by
  obtain ⟨A, n, c, rfl, hs⟩ := h.read (fit_allW h0 h1)
  exact heldWishS w hs h0 h1
/-- Node j, where the first i are marked. -/
def stW (k : Int) (l : List Wi) (i j : Nat) (p : NdC) : NdC := if j < i then (⟨p.1.op, mkWi (k + cntW (l.take j)) p.1.wish⟩, p.2) else p
set_option maxHeartbeats 3200000 in
set_option maxRecDepth 100000 in
theorem mark_wishes {lo hi : Nat} {v : Value} {l : List Wi} {k : Int} (w : World) (h : OwnWs w lo hi v l) (h0 : 0 ≤ k) (h1 : k + cntW l ≤ 4611686018427387904) :
    Calls Try.prog 22 #[v, .int .i64 k] w fun e w' => e = .returned (.int .i64 (k + cntW l)) ∧ OwnWs w' lo hi v (allW l k) ∧ Chg (Rng lo hi) w w' := by
  obtain ⟨ps, rfl, hin, hap, hout, huv, hfar⟩ := h
  have HC := Lib.hid (cntW_le (ps.map (·.1.wish)))
  obtain ⟨n, hn⟩ : ∃ n, (ps.map (·.1.wish)).length = n := ⟨_, rfl⟩
  have HN := Lib.hid hn
  have HPL : Hid (ps.length = n) := by rw [← hn, List.length_map]; exact rfl
  rw [hn] at hout
  obtain ⟨A, c, rfl, hle, hmx⟩ := own_form hout
  obtain ⟨l, hl⟩ : ∃ l, ps.map (·.1.wish) = l := ⟨_, rfl⟩
  have HLM := Lib.hid hl
  rw [hl] at HC HN h1 ⊢
  have HQ : Hid (∀ (j : Nat) (p : NdC), ps[j]? = some p → ps[j]? = some (stW k l 0 j p) ∧ OwnW w lo 3 68 (stW k l 0 j p).1.wish p.2.1 p.2.2) := by
    intro j p hp
    rw [show stW k l 0 j p = p from if_neg (by omega)]
    exact ⟨hp, (hin p (List.mem_of_getElem? hp)).1⟩
  have HUN : Hid (∀ (j : Nat) (p : NdC), ps[j]? = some p → Und p.2.1 hi ∧ Und p.2.2 hi) := fun j p hp => (hin p (List.mem_of_getElem? hp)).2
  have HAP := Lib.hid hap
  have HFAR := Lib.hid hfar
  clear hin hap hfar hn hl
  go_enter Try.func22, Try.ntmps22
  go_wp2
  go_loopw [1, 5] (fun vk vi wr => ∃ (i : Nat) (qs : List NdC), i ≤ n ∧ vi = .int .i64 i ∧ vk = .int .i64 (k + cntW (l.take i)) ∧ Hid (qs.length = n) ∧ wr.ownsRow lo 49 5 (.slice A n c) n (wdc qs) ∧
    Hid (∀ (j : Nat) (p : NdC), ps[j]? = some p → qs[j]? = some (stW k l i j p) ∧ OwnW wr lo 3 68 (stW k l i j p).1.wish p.2.1 p.2.2) ∧ Chg (Rng lo hi) w wr) (fun _ vi _ => n - (intOf vi).toNat)
  case atStart => exact ⟨0, ps, Nat.zero_le _, rfl, vint (by simp [cntW]), HPL, hout, HQ, Chg.refl _ _⟩
  case round =>
    clear hout HQ
    obtain ⟨i, qs, hi', rfl, rfl, HQL, hown, HQ, hch⟩ := hrel
    by_cases hlt : i < n
    · obtain ⟨g, c', cs, e, hb, hn1, hn2, hR, hL⟩ := own_row hown (by omega)
      injection e with e1 e2 e3
      subst e1 e3
      obtain ⟨⟨⟨op, x⟩, u, v⟩, hp⟩ : ∃ p, ps[i]? = some p := ⟨_, List.getElem?_eq_getElem (by have := HPL.out; omega)⟩
      obtain ⟨hqi, hwi⟩ := HQ.out i _ hp
      rw [show stW k l i i (⟨op, x⟩, u, v) = (⟨op, x⟩, u, v) from if_neg (by omega)] at hqi hwi
      obtain ⟨hui, hvi⟩ := HUN.out i _ hp
      simp only at hwi hui hvi
      have hx : l[i]? = some x := by rw [← HLM.out, List.getElem?_map, hp]; rfl
      have HS := Lib.hid (cntW_succ hx)
      have hle2 := HC.out (i + 1)
      have hcy : cnw1 x = 3 + x.list.length + 2 * x.pairs.length := rfl
      obtain ⟨kk, hkk⟩ : ∃ kk : Int, k + (cntW (l.take i) : Int) = kk := ⟨_, rfl⟩
      have hsc := HS.out
      have hk0 : 0 ≤ kk := by omega
      have hk1 : kk + 3 + x.list.length + 2 * x.pairs.length ≤ 4611686018427387904 := by omega
      obtain ⟨un, vn⟩ := ndv_at hp
      simp only at un vn
      have hug := far_sym (v := .slice (some ⟨g, 0, none⟩) n c) (HFAR.out u (List.mem_of_getElem? un)) g rfl
      have hvg := far_sym (v := .slice (some ⟨g, 0, none⟩) n c) (HFAR.out v (List.mem_of_getElem? vn)) g rfl
      have hgh : g < hi := huv g rfl
      obtain ⟨ho1, ho2, huv12⟩ := hwi
      obtain ⟨A1, c1, rfl, _, _⟩ := own_form ho1
      obtain ⟨E1, d1, rfl, _, _⟩ := own_form ho2
      have hql := wdc_len qs
      have hqn := HQL.out
      obtain ⟨a0, a1, a2, a4, a5⟩ := wdc_at qs i _ hqi
      have hc0 : wr.cell? ⟨g, i * 5, none⟩ = some (.int .i64 x.kind) := by rw [hR.cell, List.getElem?_append_left (by omega)]; exact a0
      have hc1 : wr.cell? ⟨g, i * 5 + 1, none⟩ = some (.int .i64 x.field) := by rw [hR.cell, List.getElem?_append_left (by omega)]; exact a1
      have hc2 : wr.cell? ⟨g, i * 5 + 2, none⟩ = some (.int .i64 x.value) := by rw [hR.cell, List.getElem?_append_left (by omega)]; exact a2
      have hc4 : wr.cell? ⟨g, i * 5 + 3, none⟩ = some (.slice A1 x.list.length c1) := by rw [hR.cell, List.getElem?_append_left (by omega)]; exact a4
      have hc5 : wr.cell? ⟨g, i * 5 + 4, none⟩ = some (.slice E1 x.pairs.length d1) := by rw [hR.cell, List.getElem?_append_left (by omega)]; exact a5
      have hf0 := hR.free (i * 5)
      have hf1 := hR.free (i * 5 + 1)
      have hf2 := hR.free (i * 5 + 2)
      have hlw := hR.lt
      obtain ⟨p4, hp4⟩ : ∃ p4 : NdC, (⟨op, mkWi kk x⟩, Value.slice A1 x.list.length c1, Value.slice E1 x.pairs.length d1) = p4 := ⟨_, rfl⟩
      obtain ⟨w4, hw4⟩ : ∃ w4, ((wr.setCell ⟨g, i * 5, none⟩ (.int .i64 kk)).setCell ⟨g, i * 5 + 1, none⟩ (.int .i64 (kk + 1))).setCell ⟨g, i * 5 + 2, none⟩ (.int .i64 (kk + 2)) = w4 := ⟨_, rfl⟩
      have R4 : Hid (Row w4 g 49 (wdc (qs.set i p4) ++ cs)) := by
        have := ((hR.set (i * 5) (.int .i64 kk)).set (i * 5 + 1) (.int .i64 (kk + 1))).set (i * 5 + 2) (.int .i64 (kk + 2))
        rw [hw4] at this
        have h5 : ((((wdc qs ++ cs).set (i * 5) (.int .i64 kk)).set (i * 5 + 1) (.int .i64 (kk + 1))).set (i * 5 + 2) (.int .i64 (kk + 2))) = wdc (qs.set i p4) ++ cs := by
          rw [← hp4]
          exact wdc_set_app qs cs (⟨op, mkWi kk x⟩, Value.slice A1 x.list.length c1, Value.slice E1 x.pairs.length d1) (by omega) (fun q hq => by rw [hqi] at hq; injection hq with hq; rw [← hq])
        rw [h5] at this
        exact this
      obtain ⟨_, _, _, t4, t5⟩ := wdc_at (qs.set i p4) i p4 (by rw [List.getElem?_set, if_pos rfl, if_pos (by omega)])
      have hql4 := wdc_len (qs.set i p4)
      rw [List.length_set] at hql4
      have hd4 : w4.cell? ⟨g, i * 5 + 3, none⟩ = some (.slice A1 x.list.length c1) := by
        rw [R4.out.cell, List.getElem?_append_left (by omega)]
        rw [← hp4] at t4 ⊢
        exact t4
      have hd5 : ∀ w5 : World, Row w5 g 49 (wdc (qs.set i p4) ++ cs) → w5.cell? ⟨g, i * 5 + 4, none⟩ = some (.slice E1 x.pairs.length d1) := fun w5 hr => by
        rw [hr.cell, List.getElem?_append_left (by omega)]
        rw [← hp4] at t5 ⊢
        exact t5
      have HD5 := Lib.hid hd5
      have CH1 : Hid (Chg (fun b => b = g) wr w4) := by
        rw [← hw4]
        exact (((Chg.refl (fun b => b = g) wr).setCell (p := ⟨g, i * 5, none⟩) rfl _).setCell (p := ⟨g, i * 5 + 1, none⟩) rfl _).setCell (p := ⟨g, i * 5 + 2, none⟩) rfl _
      have o1 := Lib.hid (own_chg ho1 CH1.out (fun b hb2 hh => by subst hh; exact hug hb2))
      have o2 := Lib.hid (own_chg ho2 CH1.out (fun b hb2 hh => by subst hh; exact hvg hb2))
      have CHW := Lib.hid (hch.trans (CH1.out.mono (fun b hb2 => by subst hb2; exact ⟨hb, hgh⟩)))
      have HX := Lib.hid hx
      have HP := Lib.hid hp
      have HL := Lib.hid hL
      have b1 : kk + 1 + 1 = kk + 2 := by omega
      have b2 : kk + 2 + 1 = kk + 3 := by omega
      have HKK := Lib.hid hkk
      have hn2' := hn2
      unfold maxLen at hn2'
      clear hR hown hqi hx hp hL a0 a1 a2 a4 a5 hsc hle2
      try rw [hkk]
      clear hd5 t4 t5 hql4 hc4 hc5
      go_wp2_with fail
      refine (markIntS (xs := x.list) _ o1.out (by omega) (by omega)).mono ?_
      rintro e w5 ⟨rfl, ou, c5⟩
      have R5 := Lib.hid (R4.out.chg c5 hug)
      have o2b := own_chg o2.out c5 (far_sym huv12)
      have d5 := HD5.out w5 R5.out
      have hlw5 := R5.out.lt
      have CH5 := Lib.hid (CHW.out.trans (blk_rng (lo := lo) o1.out hui c5))
      clear hc0 hc1 hc2 hf0 hf1 hf2 hd4
      go_wp2_with fail
      refine (markPairS (xs := x.pairs) _ o2b (by omega) (by omega)).mono ?_
      rintro e w6 ⟨rfl, ov, c6⟩
      have R6 := R5.out.chg c6 hvg
      have CH6 := Lib.hid (CH5.out.trans (blk_rng (lo := lo) o2b hvi c6))
      have hvu : ∀ q, (Value.slice A1 x.list.length c1).ownBlock = some q → ¬ ((Value.slice E1 x.pairs.length d1).ownBlock = some q) := fun q h2 h3 => far_sym huv12 q h3 h2
      have ou6 := own_chg ou c6 hvu
      have O6 := Lib.hid (row_own (base := lo) (n := n) (sz := 5) R6 (by rw [wdc_len, List.length_set]; have := HQL.out; omega) hb hn1 hn2 (by have := HL.out; rw [List.length_append, wdc_len] at this ⊢; rw [List.length_set]; exact this))
      have HQL6 : Hid ((qs.set i p4).length = n) := by show _ = _; rw [List.length_set]; exact HQL.out
      have HQ6 : Hid (∀ (j : Nat) (p : NdC), ps[j]? = some p → (qs.set i p4)[j]? = some (stW k l (i + 1) j p) ∧ OwnW w6 lo 3 68 (stW k l (i + 1) j p).1.wish p.2.1 p.2.2) := by
        intro j p hp
        by_cases hij : j = i
        · subst hij
          rw [HP.out] at hp
          injection hp with hp
          subst hp
          rw [show stW k l (j + 1) j (⟨op, x⟩, Value.slice A1 x.list.length c1, Value.slice E1 x.pairs.length d1) = (⟨op, mkWi kk x⟩, Value.slice A1 x.list.length c1, Value.slice E1 x.pairs.length d1) from by unfold stW; rw [if_pos (by omega), HKK.out]]
          refine ⟨by rw [List.getElem?_set, if_pos rfl, if_pos (by have := HQL.out; omega), hp4], ?_, ?_, huv12⟩
          · show World.ownsRow _ _ _ _ _ (allI x.list.length (kk + 3)).length _
            rw [allI_len]; exact ou6
          · show World.ownsRow _ _ _ _ _ (allP x.pairs.length (kk + 3 + x.list.length)).length _
            rw [allP_len]; exact ov
        · obtain ⟨h3, h4, h5, h6⟩ := HQ.out j p hp
          have hst : stW k l (i + 1) j p = stW k l i j p := by
            unfold stW
            by_cases hji : j < i
            · rw [if_pos hji, if_pos (by omega)]
            · rw [if_neg hji, if_neg (by omega)]
          obtain ⟨un2, vn2⟩ := ndv_at hp
          have hg1 := far_sym (v := .slice (some ⟨g, 0, none⟩) n c) (HFAR.out _ (List.mem_of_getElem? un2)) g rfl
          have hg2 := far_sym (v := .slice (some ⟨g, 0, none⟩) n c) (HFAR.out _ (List.mem_of_getElem? vn2)) g rfl
          rw [hst]
          refine ⟨by rw [List.getElem?_set, if_neg (fun e => hij e.symm)]; exact h3, ?_, ?_, h6⟩
          · exact own_chg (own_chg (own_chg h4 CH1.out (fun b hb2 hh => by subst hh; exact hg1 hb2)) c5 (far_ne HAP.out (by omega) un un2)) c6 (far_ne HAP.out (by omega) vn un2)
          · exact own_chg (own_chg (own_chg h5 CH1.out (fun b hb2 hh => by subst hh; exact hg2 hb2)) c5 (far_ne HAP.out (by omega) un vn2)) c6 (far_ne HAP.out (by omega) vn vn2)
      have HV : Hid (kk + 3 + (x.list.length : Int) + 2 * (x.pairs.length : Int) = k + (cntW (l.take (i + 1)) : Int)) := by
        show _ = _
        have h3 := HS.out; have h4 := HKK.out; omega
      clear R6 c5 c6 ou ov ou6 o2b hvu d5 hlw5
      go_wp2
      go_roundw
      case rel => exact ⟨i + 1, _, by omega, by go_num, vint HV.out, HQL6, O6.out, HQ6, CH6.out⟩
      case measure => simp [intOf]; omega
    · have hin : i = n := by omega
      have HE : Hid (k + (cntW (l.take i) : Int) = k + cntW l) := by
        show _ = _
        rw [List.take_of_length_le (by have := HN.out; omega)]
      have hcn := HC.out i
      have hqs : qs.map (·.1.wish) = allW l k := by
        apply List.ext_getElem?
        intro j
        rw [List.getElem?_map]
        rcases Nat.lt_or_ge j n with hj | hj
        · obtain ⟨p, hp⟩ : ∃ p, ps[j]? = some p := ⟨_, List.getElem?_eq_getElem (by have := HPL.out; omega)⟩
          have hx : l[j]? = some p.1.wish := by rw [← HLM.out, List.getElem?_map, hp]; rfl
          rw [(HQ.out j p hp).1, allW_at hx, show stW k l i j p = (⟨p.1.op, mkWi (k + cntW (l.take j)) p.1.wish⟩, p.2) from if_pos (by omega)]
          rfl
        · rw [List.getElem?_eq_none (by have := HQL.out; omega), List.getElem?_eq_none (by rw [allW_len]; have := HN.out; omega)]
          rfl
      have hnd : ndv qs = ndv ps := by
        have : qs.map (·.2) = ps.map (·.2) := by
          apply List.ext_getElem?
          intro j
          rw [List.getElem?_map, List.getElem?_map]
          rcases Nat.lt_or_ge j n with hj | hj
          · obtain ⟨p, hp⟩ : ∃ p, ps[j]? = some p := ⟨_, List.getElem?_eq_getElem (by have := HPL.out; omega)⟩
            rw [(HQ.out j p hp).1, hp]
            unfold stW
            split <;> rfl
          · rw [List.getElem?_eq_none (by have := HQL.out; omega), List.getElem?_eq_none (by have := HPL.out; omega)]
        have e : ∀ rs : List NdC, ndv rs = (rs.map (·.2)).flatMap fun p => [p.1, p.2] := fun rs => by
          unfold ndv; rw [List.flatMap_map]
        rw [e, e, this]
      have HO : Hid (OwnWs wr lo hi (.slice A n c) (allW l k)) := by
        refine ⟨qs, hqs, fun q hq => ?_, by rw [hnd]; exact HAP.out, by rw [allW_len, HN.out]; exact hown, huv, by rw [hnd]; exact HFAR.out⟩
        obtain ⟨j, hj⟩ := List.getElem?_of_mem hq
        obtain ⟨p, hp⟩ : ∃ p, ps[j]? = some p := ⟨_, List.getElem?_eq_getElem (by have := HPL.out; have := HQL.out; have := (List.getElem?_eq_some_iff.1 hj).1; omega)⟩
        obtain ⟨h3, h4⟩ := HQ.out j p hp
        rw [hj] at h3
        injection h3 with h3
        have h6 : q.2 = p.2 := by rw [h3]; unfold stW; split <;> rfl
        obtain ⟨h7, h8⟩ := HUN.out j p hp
        rw [h6]
        rw [h3]
        exact ⟨h4, h7, h8⟩
      unfold maxLen at hmx
      clear hown
      go_wp2
      go_ret
      exact ⟨ret_int HE.out, HO.out, hch⟩
end Go.Proofs.Yteinbnjkiebfaaa.Wk

namespace Go.Proofs.Yteinbnjkiebfaaa.Wk
open Go.RowKit Go.Proofs.Yteinbnjkiebfaaa.M
set_option linter.unusedVariables false
attribute [local go_sem] cell_grow

theorem info_wish5 : (Try.prog.info? 49).map (fun i => (i.zero, i.size, i.bytes)) = some (some (.agg #[.int .i64 0, .int .i64 0, .int .i64 0, .slice none 0 0, .slice none 0 0]), 5, 72) := by kernel_rfl
/-- The wishes of the first k nodes. -/
def wsT (l : List Nd) (k : Nat) : List Wi := ((l.take k).filter fun x => decide (x.op = 0)).map (·.wish)
noncomputable def wsR (l : List Nd) : List Wi := if P.okE l then wsT l l.length else []
theorem wsT_yes {l : List Nd} {k : Nat} {x : Nd} (hx : l[k]? = some x) (h : x.op = 0) : wsT l (k + 1) = wsT l k ++ [x.wish] := by
  obtain ⟨hl, e⟩ := List.getElem?_eq_some_iff.1 hx
  unfold wsT
  rw [List.take_succ_eq_append_getElem hl, e, List.filter_append, List.map_append]
  simp [h]
theorem wsT_no {l : List Nd} {k : Nat} {x : Nd} (hx : l[k]? = some x) (h : x.op ≠ 0) : wsT l (k + 1) = wsT l k := by
  obtain ⟨hl, e⟩ := List.getElem?_eq_some_iff.1 hx
  unfold wsT
  rw [List.take_succ_eq_append_getElem hl, e, List.filter_append, List.map_append]
  simp [h]
theorem wsT_mem {l : List Nd} {k : Nat} {y : Wi} (h : y ∈ wsT l k) : ∃ x ∈ l, x.wish = y := by
  unfold wsT at h
  obtain ⟨x, hx, e⟩ := List.mem_map.1 h
  exact ⟨x, List.mem_of_mem_take (List.mem_filter.1 hx).1, e⟩
theorem wsT_len (l : List Nd) (k : Nat) : (wsT l k).length ≤ l.length := by
  unfold wsT
  rw [List.length_map]
  exact Nat.le_trans (List.length_filter_le _ _) (by rw [List.length_take]; omega)
theorem ones5 {a b c d e : Value} (h1 : a.oneCell' = true) (h2 : b.oneCell' = true) (h3 : c.oneCell' = true) (h4 : d.oneCell' = true) (h5 : e.oneCell' = true) : ∀ u ∈ [a, b, c, d, e], u.oneCell' = true := by
  intro u hu
  simp at hu
  rcases hu with rfl | rfl | rfl | rfl | rfl <;> assumption
theorem five_new (w : World) (a b c d e : Value) (t : TypeId) : ∀ j u, [a, b, c, d, e][j]? = some u → (w.alloc (.cells #[a, b, c, d, e] t)).cell? ((⟨w.heap.size, 0, none⟩ : Addr).add j) = some u := by
  intro j u hu
  have h := (Row.new w t [a, b, c, d, e]).cell j
  rw [hu] at h
  have e : (⟨w.heap.size, 0, none⟩ : Addr).add j = ⟨w.heap.size, j, none⟩ := by by_cases h0 : j = 0 <;> simp [Addr.add, h0]
  rw [e]
  exact h
theorem hatW {gg m c : Nat} {v : Value} {k : Nat} (h : (Value.slice (some ⟨gg, 0, none⟩) m c).ownBlock = v.ownBlock ∨ (Value.slice (some ⟨gg, 0, none⟩) m c).ownBlock = some k) : v.ownBlock = some gg ∨ gg = k := by
  have e : (Value.slice (some ⟨gg, 0, none⟩) m c).ownBlock = some gg := rfl
  rw [e] at h
  rcases h with h | h
  · exact .inl h.symm
  · injection h with h; exact .inr h
theorem retW {w wr : World} {lo : Nat} {v : Value} {ps : List NdC} {l : List Wi} (h : PartW wr lo 49 3 68 v ps) (hl : ps.map (·.1.wish) = l) : OwnWs wr lo wr.heap.size v l := OwnWs.of h hl
set_option maxHeartbeats 3200000 in
set_option maxRecDepth 100000 in
theorem specWishesOf {A : Option Addr} {n c : Nat} {l : List Nd} (w : World) (h : Sl RN 6 w w.heap.size A n c l) : Calls Try.prog 19 #[.slice A n c] w (RetWs w (wsR l)) := by
  obtain ⟨i0, hi, hz0, hz1, hz2⟩ := info_parts info_wish5
  have HL := Lib.hid h.len
  have mx := Nat.le_trans h.le h.max
  unfold maxLen at mx
  have hle := h.le
  go_enter Try.func19, Try.ntmps19
  go_wp2
  cases hok : P.okE l with
  | false =>
    have HE : Hid (wsR l = []) := by show _ = _; unfold wsR; rw [hok]; rfl
    go_loopw [3, 4] (fun vo vk wr => vk = .int .i64 0 ∧ PartW wr w.heap.size 49 3 68 vo [] ∧ Below w.heap.size w wr) (fun _ _ _ => 0)
    case atStart => exact ⟨rfl, PartW.nil w _ _ _, (Below.refl _ _).alloc (Nat.le_refl _) _⟩
    case round =>
      obtain ⟨rfl, hpart, hbw⟩ := hrel
      by_cases hlt : 0 < n
      · have q1 : (0 : Int) < (n : Int) := by omega
        go_wp2_with fail
        refine (specIsExpression _ (h.on RN.keeps hbw)).mono ?_
        rintro e w2 ⟨rfl, b2⟩
        rw [hok]
        have hpart2 := hpart.below b2
        have hbw2 := hbw.trans (b2.mono hbw.size)
        go_wp2
        go_ret
        exact ⟨_, rfl, by rw [HE.out]; exact OwnWs.of hpart2 rfl, hbw2⟩
      · have q1 : ¬ (0 : Int) < (n : Int) := by omega
        go_wp2
        go_ret
        exact ⟨_, rfl, by rw [HE.out]; exact OwnWs.of hpart rfl, hbw⟩
  | true =>
    have HFI := Lib.hid (okE_fit hok)
    have hn9 : n ≤ 9 := by have := (P.okE_len hok).1; have := HL.out; omega
    have HE : Hid (wsR l = wsT l n) := by show _ = _; unfold wsR; rw [hok, HL.out]; rfl
    go_loopw [3, 4] (fun vo vk wr => ∃ (k : Nat) (ps : List NdC), k ≤ n ∧ vk = .int .i64 k ∧ Hid (ps.map (·.1.wish) = wsT l k) ∧ Hid (ps.length ≤ k) ∧ PartW wr w.heap.size 49 3 68 vo ps ∧ Below w.heap.size w wr) (fun _ vk _ => n - (intOf vk).toNat)
    case atStart => exact ⟨0, [], Nat.zero_le _, rfl, rfl, Nat.le_refl _, PartW.nil w _ _ _, (Below.refl _ _).alloc (Nat.le_refl _) _⟩
    case round =>
      obtain ⟨k, ps, hk, rfl, HM, HPL, hpart, hbw⟩ := hrel
      by_cases hlt : k < n
      · obtain ⟨b, o, x, A1, n1, c1, E1, m1, d1, rfl, hb, hx, hf, hs, ht1, g0, g1, g2, g3, g4, g5⟩ := nodeAt h hlt
        have q1 : (k : Int) < (n : Int) := by omega
        have q2 : (n : Int) ≤ (c : Int) := by omega
        go_wp2_with fail
        refine (specIsExpression _ (h.on RN.keeps hbw)).mono ?_
        rintro e w2 ⟨rfl, b2⟩
        rw [hok]
        have hpart2 := hpart.below b2
        have hbw2 := hbw.trans (b2.mono hbw.size)
        have HX := Lib.hid hx
        have e0 := ((cell_of hbw2) b (o + k * 6) hb).trans g0
        have e1 := ((cell_of hbw2) b (o + k * 6 + 1) hb).trans g1
        have e2 := ((cell_of hbw2) b (o + k * 6 + 2) hb).trans g2
        have e3 := ((cell_of hbw2) b (o + k * 6 + 3) hb).trans g3
        have e4 := ((cell_of hbw2) b (o + k * 6 + 4) hb).trans g4
        have e5 := ((cell_of hbw2) b (o + k * 6 + 5) hb).trans g5
        have hsz := hbw2.size
        have i1 : b < w2.heap.size := by omega
        have HPT := Lib.hid hpart2
        by_cases hop : x.op = 0
        · have t1 : (x.op == 0) = true := by simp [hop]
          have HOP := Lib.hid hop
          clear hop
          have HS := Lib.hid (hs.on RI.keeps hbw2)
          have HT := Lib.hid (ht1.on RP.keeps hbw2)
          obtain ⟨fl, fp⟩ := HFI.out x (List.mem_of_getElem? hx)
          have n1e : n1 ≤ 1048576 := by have := hs.len; omega
          have m1e : m1 ≤ 1048576 := by have := ht1.len; omega
          obtain ⟨A', c', hv, _, _⟩ := own_form hpart2.out
          subst hv
          have hrow : ∀ q, (Value.slice A' ps.length c').ownBlock = some q → w.heap.size ≤ q := fun q hq => (HPT.out.out.lt q hq).1
          have h63 : ps.length + 1 ≤ maxLen := by have := HPL.out; unfold maxLen; omega
          have hby : (ps.length + 1) * 72 ≤ 140737488355328 := by have := HPL.out; omega
          have HB2 := Lib.hid hbw2
          have hlo2 := hsz
          clear hs ht1 g0 g1 g2 g3 g4 g5 hpart hpart2 hbw hbw2 b2 hx hf
          go_wp2_with fail
          refine (l5WishE (x := x.wish) _ HS.out HT.out n1e m1e).mono ?_
          rintro e w8 ⟨A2, c2, E2, d2, rfl, how, hb8⟩
          have HB8 := Lib.hid (HB2.out.trans (hb8.mono hlo2))
          have hlo8 : w.heap.size ≤ (w8.alloc (.cells #[.int .i64 x.wish.kind, .int .i64 x.wish.field, .int .i64 x.wish.value, .slice A2 x.wish.list.length c2, .slice E2 x.wish.pairs.length d2] 49)).heap.size := by have := HB8.out.size; simp; omega
          have HP8 := Lib.hid (HPT.out.below hb8)
          go_wp2_with (at_builtin; refine wpList_append_own_at _ rfl _ _ 34 rfl w.heap.size 49 i0 _ 5 72 Try.underlying34 hi hz0 hz1 hz2 rfl (by decide) _ _ _ rfl (HP8.out.out.alloc _) ⟨w8.heap.size, 0, none⟩ 1 1 [.int .i64 x.wish.kind, .int .i64 x.wish.field, .int .i64 x.wish.value, .slice A2 x.wish.list.length c2, .slice E2 x.wish.pairs.length d2] rfl rfl (five_new _ _ _ _ _ _ _) (ones5 rfl rfl rfl rfl rfl) h63 hby (by first | exact hlo8 | (simp; omega)) ?_)
          intro v' w1 hown1 hgrow hnil hat
          obtain ⟨gg, cap, cs, rfl, hgb, hgc, hgm, hgR, hgl⟩ := own_row hown1 (by omega)
          have hP1 : Hid (PartW w1 w.heap.size 49 3 68 (.slice (some ⟨gg, 0, none⟩) (ps.length + 1) cap) (ps ++ [(x, .slice A2 x.wish.list.length c2, .slice E2 x.wish.pairs.length d2)])) :=
            HPT.out.append (x := x) hb8 how (Nat.le_refl _) hlo2 ((Below.refl w8.heap.size w8).alloc (Nat.le_refl _) _) hgrow hown1 (hatW (by rw [World.size_alloc]; exact hat))
          have hB1 := Lib.hid ((HB8.out.alloc HB8.out.size (.cells #[.int .i64 x.wish.kind, .int .i64 x.wish.field, .int .i64 x.wish.value, .slice A2 x.wish.list.length c2, .slice E2 x.wish.pairs.length d2] 49)).grown hgrow (by have := HB8.out.size; simp; omega) hrow)
          have HM2 : Hid ((ps ++ [(x, Value.slice A2 x.wish.list.length c2, Value.slice E2 x.wish.pairs.length d2)]).map (·.1.wish) = wsT l (k + 1)) := by
            show _ = _
            rw [List.map_append, HM.out, wsT_yes HX.out HOP.out]
            rfl
          have HPL2 : Hid ((ps ++ [(x, Value.slice A2 x.wish.list.length c2, Value.slice E2 x.wish.pairs.length d2)]).length ≤ k + 1) := by
            show _ ≤ _
            have := HPL.out
            rw [List.length_append]
            simp; omega
          clear how hb8 hown1 hgrow hat hnil hgR hgl
          go_wp2
          go_roundw
          case rel => exact ⟨k + 1, _, by omega, by go_num, HM2, HPL2, hP1.out, hB1.out⟩
          case measure => simp [intOf]; omega
        · have t1 : (x.op == 0) = false := by simp [hop]
          have HM2 : Hid (ps.map (·.1.wish) = wsT l (k + 1)) := by
            show _ = _
            rw [HM.out, wsT_no HX.out hop]
          have HPL2 : Hid (ps.length ≤ k + 1) := Nat.le_succ_of_le HPL.out
          clear hs ht1 g0 g1 g2 g3 g4 g5 hpart hbw hx hf hpart2
          go_wp2
          go_roundw
          case rel => exact ⟨k + 1, _, by omega, by go_num, HM2, HPL2, HPT.out, hbw2⟩
          case measure => simp [intOf]; omega
      · have hkn : k = n := by omega
        subst hkn
        clear h
        go_wp2
        go_ret
        exact ⟨_, rfl, by rw [HE.out]; exact OwnWs.of hpart HM.out, hbw⟩
set_option maxHeartbeats 3200000 in
set_option maxRecDepth 100000 in
theorem implWishesOf {A : Option Addr} {n c : Nat} {l : List Nd} (w : World) (h : Sl RN 6 w w.heap.size A n c l) : Calls Try.prog 20 #[.slice A n c] w (RetWs w (wsR l)) := by
  obtain ⟨i0, hi, hz0, hz1, hz2⟩ := info_parts info_wish5
  have HL := Lib.hid h.len
  have mx := Nat.le_trans h.le h.max
  unfold maxLen at mx
  have hle := h.le
  have B0 := (Below.refl w.heap.size w).alloc (Nat.le_refl _) (.cells #[] 49)
  go_enter Try.func20, Try.ntmps20
  go_wp2_with fail
  refine (implIsExpression _ (h.on RN.keeps B0)).mono ?_
  rintro e w2 ⟨rfl, b2⟩
  have B2 := B0.trans (b2.mono B0.size)
  have P2 := (PartW.nil w 49 3 68).below b2
  cases hok : P.okE l with
  | false =>
    have HE : Hid (wsR l = []) := by show _ = _; unfold wsR; rw [hok]; rfl
    go_wp2
    go_ret
    exact ⟨_, rfl, by rw [HE.out]; exact OwnWs.of P2 rfl, B2⟩
  | true =>
    have HFI := Lib.hid (okE_fit hok)
    have hn9 : n ≤ 9 := by have := (P.okE_len hok).1; have := HL.out; omega
    have HE : Hid (wsR l = wsT l n) := by show _ = _; unfold wsR; rw [hok, HL.out]; rfl
    go_wp2
    go_loopw [3, 5, 13] (fun vo v5 vk wr => ∃ (k : Nat) (ps : List NdC), k ≤ n ∧ vk = .int .i64 k ∧ Hid (ps.map (·.1.wish) = wsT l k) ∧ Hid (ps.length ≤ k) ∧ PartW wr w.heap.size 49 3 68 vo ps ∧ Below w.heap.size w wr) (fun _ _ vk _ => n - (intOf vk).toNat)
    case atStart => exact ⟨0, [], Nat.zero_le _, rfl, rfl, Nat.le_refl _, P2, B2⟩
    case round =>
      clear P2 B2 b2 B0
      obtain ⟨k, ps, hk, rfl, HM, HPL, hpart, hbw⟩ := hrel
      by_cases hlt : k < n
      · obtain ⟨b, o, x, A1, n1, c1, E1, m1, d1, rfl, hb, hx, hf, hs, ht1, g0, g1, g2, g3, g4, g5⟩ := nodeAt h hlt
        have q1 : (k : Int) < (n : Int) := by omega
        have q2 : (n : Int) ≤ (c : Int) := by omega
        have HX := Lib.hid hx
        have e0 := ((cell_of hbw) b (o + k * 6) hb).trans g0
        have e1 := ((cell_of hbw) b (o + k * 6 + 1) hb).trans g1
        have e2 := ((cell_of hbw) b (o + k * 6 + 2) hb).trans g2
        have e3 := ((cell_of hbw) b (o + k * 6 + 3) hb).trans g3
        have e4 := ((cell_of hbw) b (o + k * 6 + 4) hb).trans g4
        have e5 := ((cell_of hbw) b (o + k * 6 + 5) hb).trans g5
        have BW := (Below.refl wr.heap.size wr).alloc (Nat.le_refl _) (.cells #[.int .i64 x.op, .int .i64 x.wish.kind, .int .i64 x.wish.field, .int .i64 x.wish.value, .slice A1 n1 c1, .slice E1 m1 d1] 51)
        have hsz := hbw.size
        have i1 : b < wr.heap.size := by omega
        have hbw2 := hbw.trans (BW.mono hsz)
        have hpart2 := hpart.below BW
        have HPT := Lib.hid hpart2
        obtain ⟨e1', e2', e3', e4', e5', e6'⟩ := (boxS (Row.new wr 51 [.int .i64 x.op, .int .i64 x.wish.kind, .int .i64 x.wish.field, .int .i64 x.wish.value, .slice A1 n1 c1, .slice E1 m1 d1])).2
        by_cases hop : x.op = 0
        · have t1 : (x.op == 0) = true := by simp [hop]
          have HOP := Lib.hid hop
          clear hop
          have HS := Lib.hid (hs.on RI.keeps hbw2)
          have HT := Lib.hid (ht1.on RP.keeps hbw2)
          obtain ⟨fl, fp⟩ := HFI.out x (List.mem_of_getElem? hx)
          have n1e : n1 ≤ 1048576 := by have := hs.len; omega
          have m1e : m1 ≤ 1048576 := by have := ht1.len; omega
          obtain ⟨A', c', hv, _, _⟩ := own_form hpart2.out
          subst hv
          have hrow : ∀ q, (Value.slice A' ps.length c').ownBlock = some q → w.heap.size ≤ q := fun q hq => (HPT.out.out.lt q hq).1
          have h63 : ps.length + 1 ≤ maxLen := by have := HPL.out; unfold maxLen; omega
          have hby : (ps.length + 1) * 72 ≤ 140737488355328 := by have := HPL.out; omega
          have HB2 := Lib.hid hbw2
          have hlo2 := hbw2.size
          clear hs ht1 g0 g1 g2 g3 g4 g5 hpart hpart2 hbw hbw2 hx hf h BW
          go_wp2_with fail
          refine (copyWishE (x := x.wish) _ HS.out HT.out n1e m1e).mono ?_
          rintro e w8 ⟨A2, c2, E2, d2, rfl, how, hb8⟩
          have HB8 := Lib.hid (HB2.out.trans (hb8.mono hlo2))
          have hlo8 : w.heap.size ≤ (w8.alloc (.cells #[.int .i64 x.wish.kind, .int .i64 x.wish.field, .int .i64 x.wish.value, .slice A2 x.wish.list.length c2, .slice E2 x.wish.pairs.length d2] 49)).heap.size := by have := HB8.out.size; simp; omega
          have HP8 := Lib.hid (HPT.out.below hb8)
          go_wp2_with (at_builtin; refine wpList_append_own_at _ rfl _ _ 34 rfl w.heap.size 49 i0 _ 5 72 Try.underlying34 hi hz0 hz1 hz2 rfl (by decide) _ _ _ rfl (HP8.out.out.alloc _) ⟨w8.heap.size, 0, none⟩ 1 1 [.int .i64 x.wish.kind, .int .i64 x.wish.field, .int .i64 x.wish.value, .slice A2 x.wish.list.length c2, .slice E2 x.wish.pairs.length d2] rfl rfl (five_new _ _ _ _ _ _ _) (ones5 rfl rfl rfl rfl rfl) h63 hby (by first | exact hlo8 | (simp; omega)) ?_)
          intro v' w1 hown1 hgrow hnil hat
          obtain ⟨gg, cap, cs, rfl, hgb, hgc, hgm, hgR, hgl⟩ := own_row hown1 (by omega)
          have hP1 : Hid (PartW w1 w.heap.size 49 3 68 (.slice (some ⟨gg, 0, none⟩) (ps.length + 1) cap) (ps ++ [(x, .slice A2 x.wish.list.length c2, .slice E2 x.wish.pairs.length d2)])) :=
            HPT.out.append (x := x) hb8 how (Nat.le_refl _) hlo2 ((Below.refl w8.heap.size w8).alloc (Nat.le_refl _) _) hgrow hown1 (hatW (by rw [World.size_alloc]; exact hat))
          have hB1 := Lib.hid ((HB8.out.alloc HB8.out.size (.cells #[.int .i64 x.wish.kind, .int .i64 x.wish.field, .int .i64 x.wish.value, .slice A2 x.wish.list.length c2, .slice E2 x.wish.pairs.length d2] 49)).grown hgrow (by have := HB8.out.size; simp; omega) hrow)
          have HM2 : Hid ((ps ++ [(x, Value.slice A2 x.wish.list.length c2, Value.slice E2 x.wish.pairs.length d2)]).map (·.1.wish) = wsT l (k + 1)) := by
            show _ = _
            rw [List.map_append, HM.out, wsT_yes HX.out HOP.out]
            rfl
          have HPL2 : Hid ((ps ++ [(x, Value.slice A2 x.wish.list.length c2, Value.slice E2 x.wish.pairs.length d2)]).length ≤ k + 1) := by
            show _ ≤ _
            have := HPL.out
            rw [List.length_append]
            simp; omega
          clear how hb8 hown1 hgrow hat hnil hgR hgl
          go_wp2
          go_roundw
          case rel => exact ⟨k + 1, _, by omega, by go_num, HM2, HPL2, hP1.out, hB1.out⟩
          case measure => simp [intOf]; omega
        · have t1 : (x.op == 0) = false := by simp [hop]
          have HM2 : Hid (ps.map (·.1.wish) = wsT l (k + 1)) := by
            show _ = _
            rw [HM.out, wsT_no HX.out hop]
          have HPL2 : Hid (ps.length ≤ k + 1) := Nat.le_succ_of_le HPL.out
          clear hs ht1 g0 g1 g2 g3 g4 g5 hpart hbw hx hf hpart2 h BW
          go_wp2
          go_roundw
          case rel => exact ⟨k + 1, _, by omega, by go_num, HM2, HPL2, HPT.out, hbw2⟩
          case measure => simp [intOf]; omega
      · have hkn : k = n := by omega
        subst hkn
        clear h
        go_wp2
        go_ret
        exact ⟨_, rfl, by rw [HE.out]; exact OwnWs.of hpart HM.out, hbw⟩
theorem wsR_fit {l : List Nd} (h : ∀ x ∈ l, FitN x) : ∀ y ∈ wsR l, FitW y := by
  intro y hy
  unfold wsR at hy
  split at hy
  · obtain ⟨x, hx, rfl⟩ := wsT_mem hy
    exact (h x hx).2
  · simp at hy
theorem cntW_ws : ∀ (l : List Nd), cntW ((l.filter fun x => decide (x.op = 0)).map (·.wish)) ≤ cntN l
  | [] => Nat.le_refl _
  | x :: t => by
    have := cntW_ws t
    by_cases h : x.op = 0
    · simp only [List.filter_cons, h, decide_true, if_true, List.map_cons, cntW, cntN, cnw1, cnt1]; omega
    · simp only [List.filter_cons, h, decide_false, cntN]
      simp only [Bool.false_eq_true, if_false]; omega
theorem cnt_ws (l : List Nd) : cntW (wsR l) ≤ cntN l := by
  unfold wsR
  split
  · unfold wsT
    rw [List.take_length]
    exact cntW_ws l
  · exact Nat.zero_le _
theorem specWishesOfV {v : Value} {l : List Nd} (w : World) (h : V RN 6 w w.heap.size v l) : Calls Try.prog 19 #[v] w (RetWs w (wsR l)) := by
  obtain ⟨A, n, c, rfl, h⟩ := h
  exact specWishesOf w h
theorem implWishesOfV {v : Value} {l : List Nd} (w : World) (h : V RN 6 w w.heap.size v l) : Calls Try.prog 20 #[v] w (RetWs w (wsR l)) := by
  obtain ⟨A, n, c, rfl, h⟩ := h
  exact implWishesOf w h
end Go.Proofs.Yteinbnjkiebfaaa.Wk

namespace Go.Proofs.Yteinbnjkiebfaaa.Wk
open Go.RowKit Go.Proofs.Yteinbnjkiebfaaa.M
set_option linter.unusedVariables false

theorem cnt_tot : ∀ (l : List Nd), cntN l ≤ 4 * totN l
  | [] => Nat.zero_le _
  | x :: t => by
    have := cnt_tot t
    simp only [cntN, totN, cnt1]
    omega
theorem cnt_drop (l : List Nd) (i : Nat) : cntN (l.drop i) ≤ cntN l := by
  have := cntN_app (l.take i) (l.drop i)
  rw [List.take_append_drop] at this; omega
theorem cnt_sub (l : List Nd) (a : Int) : cntN (subR l a) ≤ 4 * totN l := by
  refine Nat.le_trans ?_ (cnt_tot l)
  unfold subR
  split
  · exact Nat.le_trans (cntN_le _ _) (cnt_drop _ _)
  · exact Nat.zero_le _
theorem specSubtreeV {v : Value} {l : List Nd} {a : Int} (w : World) (h : V RN 6 w w.heap.size v l) (ha : Fit a) : Calls Try.prog 24 #[v, .int .i64 a] w (RetNd w (subR l a)) := by
  obtain ⟨A, n, c, rfl, h⟩ := h
  exact specSubtree w h ha
theorem implSubtreeV {v : Value} {l : List Nd} {a : Int} (w : World) (h : V RN 6 w w.heap.size v l) (ha : Fit a) : Calls Try.prog 25 #[v, .int .i64 a] w (RetNd w (subR l a)) := by
  obtain ⟨A, n, c, rfl, h⟩ := h
  exact implSubtree w h ha
end Go.Proofs.Yteinbnjkiebfaaa.Wk

namespace Go.Proofs.Yteinbnjkiebfaaa.Wk
open Go.RowKit Go.Proofs.Yteinbnjkiebfaaa.M
set_option linter.unusedVariables false

set_option maxHeartbeats 3200000 in
set_option maxRecDepth 100000 in
theorem FnExactWishesOf_no0 (w : World) (v0 : Value) (x0 : List Nd) (e0 : V RN 6 w w.heap.size v0 x0)  (hbad : 1048576 < totN x0) : Calls Try.prog 6 #[v0] w fun e w' => e = .returned (.bool true) ∧ Below w.heap.size w w' := by
  have B0 := Below.refl w.heap.size w
  have H0 := Lib.hid e0
  have FT0 := Lib.hid (fitNsV e0)
  clear e0
  go_enter Try.func6, Try.ntmps6
  have HB0 := B0.size
  go_wp2_with fail
  refine (szV_nodes _ (V_on RN.keeps H0.out B0) (by omega) (by omega)).mono ?_
  rintro e w1 ⟨rfl, b1⟩
  have z1 := b1.size
  have B1 := B0.trans (b1.mono B0.size)
  clear b1
  rw [less_no (left := 1048576) (t := totN x0) (by omega)]
  go_wp2_with fail
  go_ret
  exact ⟨rfl, B1⟩
set_option maxHeartbeats 3200000 in
set_option maxRecDepth 100000 in
theorem FnExactWishesOf_yes (w : World) (v0 : Value) (x0 : List Nd) (e0 : V RN 6 w w.heap.size v0 x0) (hfit : totN x0 ≤ 1048576) : Calls Try.prog 6 #[v0] w fun e w' => e = .returned (.bool true) ∧ Below w.heap.size w w' := by
  have B0 := Below.refl w.heap.size w
  have H0 := Lib.hid e0
  have FT0 := Lib.hid (fitNsV e0)
  clear e0
  have ct0 := cnt_tot x0
  have FR := Lib.hid (wsR_fit FT0.out)
  go_enter Try.func6, Try.ntmps6
  have HB0 := B0.size
  go_wp2_with fail
  refine (szV_nodes _ (V_on RN.keeps H0.out B0) (by omega) (by omega)).mono ?_
  rintro e w1 ⟨rfl, b1⟩
  have z1 := b1.size
  have B1 := B0.trans (b1.mono B0.size)
  clear b1
  rw [less_fit (left := 1048576) (t := totN x0) (by omega)]
  go_wp2_with fail
  refine (toO_nodes _ (V_on RN.keeps H0.out B1) (by omega)).mono ?_
  rintro e w2 ⟨ut0, rfl, Ot0, b2⟩
  have z2 := b2.size
  have B2 := B1.trans (b2.mono B1.size)
  clear b2
  go_wp2_with fail
  refine (specWishesOfV _ (Ot0.read FT0.out)).mono ?_
  rintro e w3 ⟨w0, rfl, Ow, b3⟩
  have z3 := b3.size
  have B3 := B2.trans (b3.mono B2.size)
  clear b3
  have W0 := Ow.read FR.out
  clear Ow Ot0
  go_wp2_with fail
  refine (toO_nodes _ (V_on RN.keeps H0.out B3) (by omega)).mono ?_
  rintro e w4 ⟨ux0, rfl, Ox0, b4⟩
  have z4 := b4.size
  have B4 := B3.trans (b4.mono B3.size)
  have W0 := W0.below RW.keeps (b4.mono (by omega))
  clear b4
  go_wp2_with fail
  refine (implWishesOfV _ (Ox0.read FT0.out)).mono ?_
  rintro e w5 ⟨g0, rfl, Og, b5⟩
  have z5 := b5.size
  have B5 := B4.trans (b5.mono B4.size)
  have W0 := W0.below RW.keeps (b5.mono (by omega))
  have Ox0 := Ox0.below b5
  clear b5
  go_wp2_with fail
  refine (eqO_wishes _ Og FR.out W0 (by omega)).mono ?_
  rintro e w6 ⟨rfl, b6⟩
  have z6 := b6.size
  have B6 := B5.trans (b6.mono B5.size)
  have W0 := W0.below RW.keeps (b6.mono (by omega))
  have Ox0 := Ox0.below b6
  have Og := Og.below b6
  clear b6
  go_wp2_with fail
  refine (toO_nodes _ (V_on RN.keeps H0.out B6) (by omega)).mono ?_
  rintro e w7 ⟨y0, rfl, Oy, b7⟩
  have z7 := b7.size
  have B7 := B6.trans (b7.mono B6.size)
  have W0 := W0.below RW.keeps (b7.mono (by omega))
  have Ox0 := Ox0.below b7
  have Og := Og.below b7
  clear b7
  have Vy := Oy.read FT0.out
  go_wp2_with fail
  refine (eqO_nodes _ Ox0 FT0.out Vy (by omega)).mono ?_
  clear Oy Vy
  rintro e w8 ⟨rfl, b8⟩
  have z8 := b8.size
  have B8 := B7.trans (b8.mono B7.size)
  have W0 := W0.below RW.keeps (b8.mono (by omega))
  have Ox0 := Ox0.below b8
  have Og := Og.below b8
  clear b8
  go_wp2_with fail
  refine (mark_nodes (k := 1) _ Ox0 (by omega) (by omega)).mono ?_
  clear Ox0
  rintro e w9 ⟨rfl, _, c9⟩
  have z9 := c9.size
  have B9 := B8.trans (below_chg c9 (by have := B8.size; omega))
  have W0 := W0.below RW.keeps (below_chg c9 (by omega))
  have Og := Og.rng c9 (by omega)
  clear c9
  have hk : ¬ (1 + ((cntN x0 : Nat) : Int) < 0) := by omega
  go_wp2_with fail
  refine (eqO_wishes _ Og FR.out W0 (by omega)).mono ?_
  rintro e w10 ⟨rfl, b10⟩
  have z10 := b10.size
  have B10 := B9.trans (b10.mono B9.size)
  have W0 := W0.below RW.keeps (b10.mono (by omega))
  have Og := Og.below b10
  clear b10
  go_wp2_with fail
  refine (mark_wishes (k := 1) _ Og (by omega) (by have := cnt_ws x0; omega)).mono ?_
  clear Og
  rintro e w11 ⟨rfl, Om, c11⟩
  have z11 := c11.size
  have B11 := B10.trans (below_chg c11 (by have := B10.size; omega))
  have W0 := W0.below RW.keeps (below_chg c11 (by omega))
  clear c11
  have hq : ¬ (1 + ((cntW (wsR x0) : Nat) : Int) < 0) := by omega
  have hm : ((1 + ((cntW (wsR x0) : Nat) : Int)) != (1 + ((cntW (wsR x0) : Nat) : Int))) = false := by simp
  go_wp2_with fail
  refine (held_wishes (k := 1) _ Om (by omega) (by have := cnt_ws x0; omega)).mono ?_
  rintro e wz ⟨rfl, rfl⟩
  go_wp2_with fail
  refine (toO_nodes _ (V_on RN.keeps H0.out B11) (by omega)).mono ?_
  rintro e w12 ⟨uh0, rfl, Oh0, b12⟩
  have z12 := b12.size
  have B12 := B11.trans (b12.mono B11.size)
  have W0 := W0.below RW.keeps (b12.mono (by omega))
  have Om := Om.below b12
  clear b12
  go_wp2_with fail
  refine (implWishesOfV _ (Oh0.read FT0.out)).mono ?_
  rintro e w13 ⟨h0, rfl, Oh, b13⟩
  have z13 := b13.size
  have B13 := B12.trans (b13.mono B12.size)
  have W0 := W0.below RW.keeps (b13.mono (by omega))
  have Om := Om.below b13
  clear b13
  clear Oh0
  go_wp2_with fail
  refine (eqO_wishes _ Oh FR.out W0 (by omega)).mono ?_
  rintro e w14 ⟨rfl, b14⟩
  have z14 := b14.size
  have B14 := B13.trans (b14.mono B13.size)
  have W0 := W0.below RW.keeps (b14.mono (by omega))
  have Om := Om.below b14
  have Oh := Oh.below b14
  clear b14
  clear Oh
  go_wp2_with fail
  refine (held_wishes (k := 1) _ Om (by omega) (by have := cnt_ws x0; omega)).mono ?_
  rintro e wz ⟨rfl, rfl⟩
  go_wp2_with fail
  go_ret
  exact ⟨rfl, B14⟩
theorem FnExactWishesOf (w : World) (v0 : Value) (x0 : List Nd) (e0 : V RN 6 w w.heap.size v0 x0) : Calls Try.prog 6 #[v0] w fun e w' => e = .returned (.bool true) ∧ Below w.heap.size w w' := by
  by_cases h0 : 1048576 < totN x0
  · exact FnExactWishesOf_no0 w v0 x0 e0  h0
  exact FnExactWishesOf_yes w v0 x0 e0 (by omega)
end Go.Proofs.Yteinbnjkiebfaaa.Wk

namespace Go.Proofs.Yteinbnjkiebfaaa
open Go Go.RowKit Go.ChangeShapes Go.WideShapes Go.Deep Go.Proofs.Yteinbnjkiebfaaa.M

theorem op_node {H : Type} {enc : TypeId × Value → H} {W : World} {P : Program} {e ti tw : TypeId} {f0 f1 : Field} (hs : P.underlying e = some (.struct #[f0, f1])) (hi : P.underlying ti = some (.int .i64)) (hC : P.cellsOf e = 6) (hci : P.cellsOf ti = 1) (hcw : P.cellsOf tw = 5)
    (t0 : f0.type = ti) (t1 : f1.type = tw) (o0 : f0.offset = 0) (o1 : f1.offset = 1) (opw : ∀ fuel cs (x : DataW H × List MemPlace), DataW.trod enc P W 0 (fun _ => true) true fuel tw cs = some x → ∃ a, RW W W.heap.size a cs)
    {fuel : Nat} {cs : List Value} {x : DataW H × List MemPlace} (h : DataW.trod enc P W 0 (fun _ => true) true fuel e cs = some x) : ∃ a, RN W W.heap.size a cs := by
  obtain ⟨xs, n, _, _, hcl, hxl, hg⟩ := DataW.trod_struct hs h
  obtain ⟨y0, h0⟩ := field_at hxl hg 0 f0 rfl
  obtain ⟨y1, h1⟩ := field_at hxl hg 1 f1 rfl
  rw [hC] at hcl
  rw [t0, o0, hci] at h0
  rw [t1, o1, hcw] at h1
  match cs, hcl with
  | c0 :: rest, hcl =>
    have hr : rest.length = 5 := by simpa using hcl
    obtain ⟨a, e0, _, w0⟩ := DataW.trod_int hi h0
    have e1 : ((c0 :: rest).drop 1).take 5 = rest := by rw [List.drop_one, List.tail_cons]; exact List.take_of_length_le (Nat.le_of_eq hr)
    rw [e1] at h1
    obtain ⟨b, hb⟩ := opw _ _ _ h1
    simp at e0
    subst e0
    exact ⟨⟨a, b⟩, rest, rfl, fit_wf w0, hb⟩
theorem cells_node : Try.prog.cellsOf 46 = 6 := by kernel_rfl
set_option maxRecDepth 100000 in
theorem opN {H : Type} {enc : TypeId × Value → H} {W : World} {fuel : Nat} {cs : List Value} {x : DataW H × List MemPlace} (h : DataW.trod enc Try.prog W 0 (fun _ => true) true fuel 46 cs = some x) : ∃ a, RN W W.heap.size a cs :=
  op_node Try.underlying46 Try.underlying3 cells_node cells_int cells_wish rfl rfl rfl rfl (fun _ _ _ hh => opW hh) h
set_option maxRecDepth 100000 in
theorem open_nodes {H : Type} {enc : TypeId × Value → H} {W : World} {b0 : Nat} {v : Value} {d : DataW H} {p : List MemPlace} (hv : Value.okWide Try.prog W .any b0 22 v) (h : DataW.Trod enc Try.prog W 0 (fun _ => true) true 22 v d p) : ∃ l, V RN 6 W W.heap.size v l :=
  trod_slice_V Try.underlying22 cells_node (by omega) (fun _ _ _ hh => opN hh) hv h
end Go.Proofs.Yteinbnjkiebfaaa

namespace Go.Proofs.Yteinbnjkiebfaaa.LFnExactWishesOf
open Go.ChangeShapes Go.WideShapes Go.ChangeAt Go.RowKit
open Go.ChangeMaps (open_string shut_string)
set_option linter.unusedVariables false

theorem own : ownKnob Try.prog.godebug = none := by kernel_rfl
theorem laidOut : laidOutB Try.prog = true := by kernel_rfl

set_option maxRecDepth 100000 in
theorem lifted (os : Os) (started : os.Started) (H : Type) (enc : TypeId × Value → H) :
    ReturnsInHanded {} Try.checked os 6 .any (Rows.fnExactWishesOfSpec.pre6 enc Try.prog Try.f6 Rows.fnExactWishesOfRow.domain false) (Rows.fnExactWishesOfSpec.post enc Try.prog Try.f6 false true false false) := by
  refine returnsInHanded_of_change (C := Try.checked) own started (by kernel_rfl) Try.func6
    (ChangeSpec.witness6 (enc := enc) (C := Try.checked) false ⟨#[], #[.slice none 0 0], []⟩ 8 (by kernel_rfl) (by kernel_rfl) (by kernel_rfl) (by kernel_rfl)) ?_
  intro W base args ds gs before hval0 hW hcnd _
  have hval : ∀ (j : Nat) t v, Try.f6.params[j]? = some t → args[j]? = some v → Value.okWide Try.prog W .any base t v := hval0
  have hW' := hW
  obtain ⟨p, q, hA0, hV, rfl, hfz, hnd⟩ := hW
  have hA : DataW.TrodAll enc Try.prog W 0 (fun _ => true) true Try.f6.params.toList args.toList ds p := hA0
  rw [Try.params6] at hA hval
  obtain ⟨v0, vs0, d0, ds0, p0, q0, hargs, rfl, rfl, h0, r0⟩ := trodAll_cons hA
  obtain ⟨rfl, rfl, rfl⟩ := trodAll_nil r0
  obtain rfl : args = #[v0] := by cases args; simp_all
  obtain ⟨rfl, rfl⟩ := trodVars_none hV
  have k0 := h0
  have lt0 : ∀ x ∈ p0, x.block < W.heap.size := by obtain ⟨m, hm⟩ := k0; exact DataW.trod_lt m _ _ _ hm
  obtain ⟨l0, w0⟩ := open_nodes (hval 0 22 v0 rfl rfl) h0
  clear hA0 hval0
  refine (Wk.FnExactWishesOf (w := W) v0 l0 w0).mono fun e W' ⟨he, bel⟩ => ?_
  subst he
  exact ⟨_, rfl, _, _, _, [], _, [], hW', trodAll_mk1 (shut_bool Try.underlying4 _), (trodAll_cons_mk (Below.trod laidOut (by kernel_rfl) (of_decide_eq_true (by kernel_rfl)) k0 bel lt0) trodAll_mk0), rfl, bel.frame _, fun h => by cases h⟩

/-- The given statement. -/
theorem proved : Rows.FnExactWishesOfSaid :=
  OpenClaim.holds_of_wide 6 Try.f6 rfl rfl rfl rfl rfl rfl rfl ⟨rfl, rfl, rfl, rfl, rfl⟩ rfl rfl rfl rfl rfl (by as_aux_lemma => kernel_rfl) Try.func6 (by as_aux_lemma => kernel_rfl)
    (of_decide_eq_true (by as_aux_lemma => kernel_rfl)) (by unfold Func.isWrapper; first | (rw [if_pos (by decide +kernel)]; kernel_rfl) | (rw [if_neg (by decide +kernel)]; exact ⟨rfl, rfl⟩))
    (fun os started H enc _ => lifted os started H enc)
#print axioms proved
end Go.Proofs.Yteinbnjkiebfaaa.LFnExactWishesOf
