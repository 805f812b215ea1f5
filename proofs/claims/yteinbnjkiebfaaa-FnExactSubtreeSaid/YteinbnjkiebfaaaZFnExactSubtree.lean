/-
  The given statement on laws.FnExactSubtree: for every input that the row speaks of, the call returns true and the arguments read as before.
  Conditions: none beyond the row's own.
-/
import Derived.Test.YteinbnjkiebfaaaW52
import Derived.Test.YteinbnjkiebfaaaP18
import Derived.Test.YteinbnjkiebfaaaW61
import Derived.Test.YteinbnjkiebfaaaU7
import Derived.Test.YteinbnjkiebfaaaO2
import Derived.Test.YteinbnjkiebfaaaRows
import Derived.ProofKit
import Derived.OpenShut
import Derived.ShutString
import Derived.ChangeOld
import Derived.Below
namespace Go.Proofs.Yteinbnjkiebfaaa.Wk
open Go.RowKit Go.Proofs.Yteinbnjkiebfaaa.M
set_option linter.unusedVariables false
attribute [local go_sem] cell_grow

set_option maxHeartbeats 1600000 in
theorem l6Start {B : Nat} {A : Option Addr} {n c : Nat} {l : List Nd} {a : Nat} (w : World) (h : Sl RN 6 w B A n c l) (hE : P.okE l = true) (ha : a < n) :
    Calls Try.prog 48 #[.slice A n c, .int .i64 a] w fun e w' => e = .returned (.int .i64 (P.startE l a)) ∧ w = w' := by
  have HL := Lib.hid h.len
  have HE := Lib.hid hE
  have hn9 : n ≤ 9 := by have := (P.okE_len hE).1; have := HL.out; omega
  have hle := h.le
  have HT : Hid (1 ≤ P.Dp l (a + 1)) := by
    obtain ⟨x, hx⟩ : ∃ x, l[a]? = some x := ⟨_, List.getElem?_eq_getElem (by have := HL.out; omega)⟩
    have := P.dp_succ hE hx
    show _ ≤ _
    omega
  clear hE
  go_enter Try.func48, Try.ntmps48
  go_wp2
  go_loop [5, 6] (fun vn vi => ∃ (i : Nat) (nd : Int), i ≤ a ∧ vi = .int .i64 i ∧ vn = .int .i64 nd ∧ Hid (nd = (P.Dp l (i + 1) : Int) + 1 - (P.Dp l (a + 1) : Int)) ∧ 1 ≤ nd ∧ nd ≤ 100 ∧ nd ≤ i + 2 ∧ Hid (P.startE l a = P.downE l (P.Dp l (a + 1)) i)) (fun _ vi => (intOf vi).toNat)
  case atStart => exact ⟨a, 1, Nat.le_refl _, rfl, rfl, by show _ = _; omega, by omega, by omega, by omega, rfl⟩
  case round =>
    obtain ⟨i, nd, hia, rfl, rfl, HND, hn1, hn100, hni, HST⟩ := hrel
    obtain ⟨b, o, x, A1, n1, c1, E1, m1, d1, rfl, hb, hx, hf, hs, ht1, g0, g1, g2, g3, g4, g5⟩ := nodeAt h (show i < n by omega)
    obtain ⟨s1, s2, s3⟩ := P.dp_succ HE.out hx
    have ht := HT.out
    have hnd := HND.out
    have q1 : (i : Int) < (n : Int) := by omega
    have HX := Lib.hid hx
    clear g1 g2 g3 g4 g5 hs ht1 hf h HND hx
    have hdp0 : i = 0 → P.Dp l i = 0 := fun e => by subst e; exact P.dp_zero l
    have miss : P.Dp l i + 1 ≠ P.Dp l (a + 1) → 0 < i → P.startE l a = P.downE l (P.Dp l (a + 1)) (i - 1) := fun h1 h2 => by
      rw [HST.out]
      obtain ⟨j, rfl⟩ : ∃ j, i = j + 1 := ⟨i - 1, by omega⟩
      exact P.downE_miss h1
    have hpr : 0 < i → (P.Dp l (i - 1 + 1) : Int) = P.Dp l i := fun h2 => by rw [show i - 1 + 1 = i by omega]
    have hi3 : P.Dp l i ≤ i := by
      have : ∃ d, P.Dep l i d := by
        obtain ⟨_, d, hd, _⟩ := P.okE_at HE.out HX.out
        exact ⟨d, hd⟩
      obtain ⟨d, hd⟩ := this
      rw [P.dp_of hd]; exact P.dep_le hd
    by_cases hc : x.op = 0
    · have hq : (x.op == 0) = true := by simpa using hc
      have ho : P.opnds x.op = 0 := by rw [hc]; rfl
      clear hc
      by_cases hz : nd - 1 = 0
      · have qz : (nd - 1 == 0) = true := by simpa using hz
        have HR : Hid (P.startE l a = i) := by show _ = _; rw [HST.out]; exact P.downE_hit (by omega)
        clear miss hpr hdp0
        go_wp2
        go_ret
        exact ⟨ret_int (by rw [HR.out]), rfl⟩
      · have qz : (nd - 1 == 0) = false := by simpa using hz
        have hi0 : 0 < i := by
          rcases Nat.eq_zero_or_pos i with h0 | h0
          · have := hdp0 h0; omega
          · exact h0
        have hpi := hpr hi0
        have HS2 := Lib.hid (miss (by omega) hi0)
        have HN2 : Hid (nd - 1 = (P.Dp l (i - 1 + 1) : Int) + 1 - (P.Dp l (a + 1) : Int)) := by show _ = _; rw [hpi]; omega
        have hp : 1 ≤ nd - 1 := by omega
        have hp2 : nd - 1 ≤ ((i - 1 : Nat) : Int) + 2 := by omega
        clear miss hpr hdp0
        go_wp2
        go_round
        case rel => exact ⟨i - 1, nd - 1, by omega, vint (by omega), (by first | rfl | exact vint (by omega)), HN2, hp, by omega, hp2, HS2⟩
        case measure => simp [intOf]; omega
    · have hq : (x.op == 0) = false := by simpa using hc
      by_cases hc3 : x.op = 3
      · have hq3 : (x.op == 3) = true := by simpa using hc3
        have ho : P.opnds x.op = 1 := by rw [hc3]; rfl
        have ez : nd - 1 + 1 = nd := by omega
        have qz : (nd == 0) = false := by simp; omega
        have qz2 : (nd - 1 + 1 == 0) = false := by simp; omega
        clear hc hc3
        have hi0 : 0 < i := by
          rcases Nat.eq_zero_or_pos i with h0 | h0
          · have := hdp0 h0; omega
          · exact h0
        have hpi := hpr hi0
        have HS2 := Lib.hid (miss (by omega) hi0)
        have HN2 : Hid (nd = (P.Dp l (i - 1 + 1) : Int) + 1 - (P.Dp l (a + 1) : Int)) := by show _ = _; rw [hpi]; omega
        have hp : 1 ≤ nd := by omega
        have hp2 : nd ≤ ((i - 1 : Nat) : Int) + 2 := by omega
        clear miss hpr hdp0
        go_wp2
        go_round
        case rel => exact ⟨i - 1, nd, by omega, vint (by omega), (by first | rfl | exact vint (by omega)), HN2, hp, by omega, hp2, HS2⟩
        case measure => simp [intOf]; omega
      · have hq3 : (x.op == 3) = false := by simpa using hc3
        have ho : P.opnds x.op = 2 := by unfold P.opnds; rw [if_neg hc, if_neg hc3]
        have ez : nd - 1 + 2 = nd + 1 := by omega
        have qz : (nd + 1 == 0) = false := by simp; omega
        have qz2 : (nd - 1 + 2 == 0) = false := by simp; omega
        clear hc hc3
        have hi0 : 0 < i := by
          rcases Nat.eq_zero_or_pos i with h0 | h0
          · have := hdp0 h0; omega
          · exact h0
        have hpi := hpr hi0
        have HS2 := Lib.hid (miss (by omega) hi0)
        have HN2 : Hid (nd + 1 = (P.Dp l (i - 1 + 1) : Int) + 1 - (P.Dp l (a + 1) : Int)) := by show _ = _; rw [hpi]; omega
        have hp : 1 ≤ nd + 1 := by omega
        have hp2 : nd + 1 ≤ ((i - 1 : Nat) : Int) + 2 := by omega
        clear miss hpr hdp0
        go_wp2
        go_round
        case rel => exact ⟨i - 1, nd + 1, by omega, vint (by omega), (by first | rfl | exact vint (by omega)), HN2, hp, by omega, hp2, HS2⟩
        case measure => simp [intOf]; omega
set_option maxHeartbeats 1600000 in
theorem startI {B : Nat} {A : Option Addr} {n c : Nat} {l : List Nd} {a : Nat} (w : World) (h : Sl RN 6 w B A n c l) (hE : P.okE l = true) (ha : a < n) :
    Calls Try.prog 49 #[.slice A n c, .int .i64 a] w fun e w' => e = .returned (.int .i64 (P.startE l a)) ∧ w = w' := by
  have HL := Lib.hid h.len
  have HE := Lib.hid hE
  have hn9 : n ≤ 9 := by have := (P.okE_len hE).1; have := HL.out; omega
  have hle := h.le
  have HT : Hid (1 ≤ P.Dp l (a + 1)) := by
    obtain ⟨x, hx⟩ : ∃ x, l[a]? = some x := ⟨_, List.getElem?_eq_getElem (by have := HL.out; omega)⟩
    have := P.dp_succ hE hx
    show _ ≤ _
    omega
  clear hE
  go_enter Try.func49, Try.ntmps49
  go_wp2
  go_loop [5, 6] (fun vn vi => ∃ (i : Nat) (nd : Int), i ≤ a ∧ vi = .int .i64 i ∧ vn = .int .i64 nd ∧ Hid (nd = (P.Dp l (i + 1) : Int) + 1 - (P.Dp l (a + 1) : Int)) ∧ 1 ≤ nd ∧ nd ≤ 100 ∧ nd ≤ i + 2 ∧ Hid (P.startE l a = P.downE l (P.Dp l (a + 1)) i)) (fun _ vi => (intOf vi).toNat)
  case atStart => exact ⟨a, 1, Nat.le_refl _, rfl, rfl, by show _ = _; omega, by omega, by omega, by omega, rfl⟩
  case round =>
    obtain ⟨i, nd, hia, rfl, rfl, HND, hn1, hn100, hni, HST⟩ := hrel
    obtain ⟨b, o, x, A1, n1, c1, E1, m1, d1, rfl, hb, hx, hf, hs, ht1, g0, g1, g2, g3, g4, g5⟩ := nodeAt h (show i < n by omega)
    obtain ⟨s1, s2, s3⟩ := P.dp_succ HE.out hx
    have ht := HT.out
    have hnd := HND.out
    have q1 : (i : Int) < (n : Int) := by omega
    have HX := Lib.hid hx
    clear g1 g2 g3 g4 g5 hs ht1 hf h HND hx
    have hdp0 : i = 0 → P.Dp l i = 0 := fun e => by subst e; exact P.dp_zero l
    have miss : P.Dp l i + 1 ≠ P.Dp l (a + 1) → 0 < i → P.startE l a = P.downE l (P.Dp l (a + 1)) (i - 1) := fun h1 h2 => by
      rw [HST.out]
      obtain ⟨j, rfl⟩ : ∃ j, i = j + 1 := ⟨i - 1, by omega⟩
      exact P.downE_miss h1
    have hpr : 0 < i → (P.Dp l (i - 1 + 1) : Int) = P.Dp l i := fun h2 => by rw [show i - 1 + 1 = i by omega]
    have hi3 : P.Dp l i ≤ i := by
      have : ∃ d, P.Dep l i d := by
        obtain ⟨_, d, hd, _⟩ := P.okE_at HE.out HX.out
        exact ⟨d, hd⟩
      obtain ⟨d, hd⟩ := this
      rw [P.dp_of hd]; exact P.dep_le hd
    obtain ⟨k, hk⟩ : ∃ k, P.opnds x.op = k := ⟨_, rfl⟩
    by_cases hz : nd - 1 + (k : Int) = 0
    · have qz : (nd - 1 + (k : Int) == 0) = true := by simpa using hz
      have HR : Hid (P.startE l a = i) := by show _ = _; rw [HST.out]; exact P.downE_hit (by omega)
      clear miss hpr hdp0
      (go_wp2_with (go_at_call 36; refine (operands _ _).mono ?_; rintro e w9 ⟨rfl, rfl⟩; rw [hk]))
      go_ret
      exact ⟨ret_int (by rw [HR.out]), rfl⟩
    · have qz : (nd - 1 + (k : Int) == 0) = false := by simpa using hz
      have hi0 : 0 < i := by
        rcases Nat.eq_zero_or_pos i with h0 | h0
        · have := hdp0 h0; omega
        · exact h0
      have hpi := hpr hi0
      have HS2 := Lib.hid (miss (by omega) hi0)
      have HN2 : Hid (nd - 1 + (k : Int) = (P.Dp l (i - 1 + 1) : Int) + 1 - (P.Dp l (a + 1) : Int)) := by show _ = _; rw [hpi]; omega
      have hp : 1 ≤ nd - 1 + (k : Int) := by omega
      have hp2 : nd - 1 + (k : Int) ≤ ((i - 1 : Nat) : Int) + 2 := by omega
      clear miss hpr hdp0
      (go_wp2_with (go_at_call 36; refine (operands _ _).mono ?_; rintro e w9 ⟨rfl, rfl⟩; rw [hk]))
      go_round
      case rel => exact ⟨i - 1, nd - 1 + (k : Int), by omega, vint (by omega), (by first | rfl | exact vint (by omega)), HN2, hp, by omega, hp2, HS2⟩
      case measure => simp [intOf]; omega
end Go.Proofs.Yteinbnjkiebfaaa.Wk

namespace Go.Proofs.Yteinbnjkiebfaaa.Wk
open Go.RowKit Go.Proofs.Yteinbnjkiebfaaa.M
set_option linter.unusedVariables false
attribute [local go_sem] cell_grow

theorem l5WishE {A E : Option Addr} {n c m d : Nat} {x : Wi} (w : World) (h : Sl RI 1 w w.heap.size A n c x.list) (g : Sl RP 2 w w.heap.size E m d x.pairs) (hn : n ≤ 1048576) (hm : m ≤ 1048576) :
    Calls Try.prog 44 #[.agg #[.int .i64 x.kind, .int .i64 x.field, .int .i64 x.value, .slice A n c, .slice E m d]] w fun e w' => ∃ A2 c2 E2 d2, e = .returned (.agg #[.int .i64 x.kind, .int .i64 x.field, .int .i64 x.value, .slice A2 x.list.length c2, .slice E2 x.pairs.length d2]) ∧ OwnW w' w.heap.size 3 68 x (.slice A2 x.list.length c2) (.slice E2 x.pairs.length d2) ∧ Below w.heap.size w w' :=
  (l5Wish w h g hn hm).mono fun e w' ⟨u, v, he, ho, hb⟩ => by
    obtain ⟨A2, c2, rfl, _, _⟩ := own_form ho.1
    obtain ⟨E2, d2, rfl, _, _⟩ := own_form ho.2.1
    exact ⟨A2, c2, E2, d2, he, ho, hb⟩
theorem below_drew {W w8 : World} (h : Below W.drew.heap.size W.drew w8) : Below W.heap.size W w8 := (Below.refl W.heap.size W).drew.trans h
theorem six {b o : Nat} {a1 a2 a3 a4 a5 a6 : Value} {w w' : World} {B : Nat} (hb : Below B w w') (hlt : b < B) (h : w.cell? ⟨b, o, none⟩ = some a1 ∧ w.cell? ⟨b, o + 1, none⟩ = some a2 ∧ w.cell? ⟨b, o + 2, none⟩ = some a3 ∧ w.cell? ⟨b, o + 3, none⟩ = some a4 ∧ w.cell? ⟨b, o + 4, none⟩ = some a5 ∧ w.cell? ⟨b, o + 5, none⟩ = some a6) :
    w'.cell? ⟨b, o, none⟩ = some a1 ∧ w'.cell? ⟨b, o + 1, none⟩ = some a2 ∧ w'.cell? ⟨b, o + 2, none⟩ = some a3 ∧ w'.cell? ⟨b, o + 3, none⟩ = some a4 ∧ w'.cell? ⟨b, o + 4, none⟩ = some a5 ∧ w'.cell? ⟨b, o + 5, none⟩ = some a6 := by
  obtain ⟨h1, h2, h3, h4, h5, h6⟩ := h
  exact ⟨(cell_of hb _ _ hlt).trans h1, (cell_of hb _ _ hlt).trans h2, (cell_of hb _ _ hlt).trans h3, (cell_of hb _ _ hlt).trans h4, (cell_of hb _ _ hlt).trans h5, (cell_of hb _ _ hlt).trans h6⟩
theorem grown_base {X w1 : World} {B : Nat} {row : Option Nat} (hg : X.grownBy w1 row) (hB : B ≤ X.heap.size) (hr : ∀ q, row = some q → B ≤ q) : Below B X w1 := (Below.refl B X).grown hg hB hr
set_option maxHeartbeats 3200000 in
set_option maxRecDepth 100000 in
theorem l5Copy {A : Option Addr} {n c : Nat} {l : List Nd} (w : World) (h : Sl RN 6 w w.heap.size A n c l) (hn : n ≤ 1048576) (hfit : ∀ x ∈ l, x.wish.list.length ≤ 1048576 ∧ x.wish.pairs.length ≤ 1048576) : Calls Try.prog 38 #[.slice A n c] w (RetNd w l) := by
  obtain ⟨i0, hi, hz0, hz1, hz2⟩ := info_parts info_node
  have HL := Lib.hid h.len
  have HFI := Lib.hid hfit
  have hle := h.le
  go_enter Try.func38, Try.ntmps38
  go_wp2
  go_loopw [3, 4] (fun vo vk wr => ∃ (k : Nat) (ps : List NdC), k ≤ n ∧ vk = .int .i64 k ∧ Hid (ps.map (·.1) = l.take k) ∧ Hid (ps.length = k) ∧ PartN wr w.heap.size 51 3 68 vo ps ∧ Below w.heap.size w wr) (fun _ vk _ => n - (intOf vk).toNat)
  case atStart => exact ⟨0, [], Nat.zero_le _, rfl, rfl, rfl, PartN.nil w _ _ _, (Below.refl _ _).alloc (Nat.le_refl _) _⟩
  case round =>
    clear hfit
    obtain ⟨k, ps, hk, rfl, HM, HPL, hpart, hbw⟩ := hrel
    by_cases hlt : k < n
    · obtain ⟨b, o, x, A1, n1, c1, E1, m1, d1, rfl, hb, hx, hf, hs, ht1, g0, g1, g2, g3, g4, g5⟩ := nodeAt h hlt
      have e0 := ((cell_of hbw) b (o + k * 6) hb).trans g0
      have e1 := ((cell_of hbw) b (o + k * 6 + 1) hb).trans g1
      have e2 := ((cell_of hbw) b (o + k * 6 + 2) hb).trans g2
      have e3 := ((cell_of hbw) b (o + k * 6 + 3) hb).trans g3
      have e4 := ((cell_of hbw) b (o + k * 6 + 4) hb).trans g4
      have e5 := ((cell_of hbw) b (o + k * 6 + 5) hb).trans g5
      have hsz := hbw.size
      have i1 : b < wr.heap.size := by omega
      have HS := Lib.hid (hs.on RI.keeps hbw)
      have HT := Lib.hid (ht1.on RP.keeps hbw)
      have HPT := Lib.hid hpart
      have HB := Lib.hid hbw
      obtain ⟨fl, fp⟩ := HFI.out x (List.mem_of_getElem? hx)
      have n1e : n1 ≤ 1048576 := by have := hs.len; omega
      have m1e : m1 ≤ 1048576 := by have := ht1.len; omega
      have HX := Lib.hid hx
      obtain ⟨A', c', hv, _, _⟩ := own_form hpart.out
      subst hv
      have hpl := HPL.out
      subst hpl
      have h63 : ps.length + 1 ≤ maxLen := by unfold maxLen; omega
      have hby : (ps.length + 1) * 80 ≤ 140737488355328 := by omega
      have q1 : (ps.length : Int) < (n : Int) := by omega
      have q2 : (n : Int) ≤ (c : Int) := by omega
      have bw : b < w.heap.size := hb
      have hrow : ∀ q, (Value.slice A' ps.length c').ownBlock = some q → w.heap.size ≤ q := fun q hq => (hpart.out.lt q hq).1
      have C0 := six (Below.refl wr.heap.size wr).drew i1 ⟨e0, e1, e2, e3, e4, e5⟩
      clear h hx g0 g1 g2 g3 g4 g5 hs ht1 hpart hbw hf e0 e1 e2 e3 e4 e5
      go_wp2_with fail
      go_region_held3 (fun w' => w'.cell? ⟨b, o + ps.length * 6, none⟩ = some (.int .i64 x.op) ∧ w'.cell? ⟨b, o + ps.length * 6 + 1, none⟩ = some (.int .i64 x.wish.kind) ∧ w'.cell? ⟨b, o + ps.length * 6 + 2, none⟩ = some (.int .i64 x.wish.field) ∧ w'.cell? ⟨b, o + ps.length * 6 + 3, none⟩ = some (.int .i64 x.wish.value) ∧ w'.cell? ⟨b, o + ps.length * 6 + 4, none⟩ = some (.slice A1 n1 c1) ∧ w'.cell? ⟨b, o + ps.length * 6 + 5, none⟩ = some (.slice E1 m1 d1)) (first | exact C0 | exact C8 | exact six ((Below.refl _ _).alloc (Nat.le_refl _) _) (Nat.lt_of_lt_of_le bw hs8) C8 | exact six (grown_base hgrow (Nat.le_trans hs8 (size_le_alloc _ _)) hrow) bw (six ((Below.refl _ _).alloc (Nat.le_refl _) _) (Nat.lt_of_lt_of_le bw hs8) C8) | fail) (first | (go_simp; go_at_call 44; with_reducible (refine (l5WishE (x := x.wish) _ (sl_drew HS.out RI.keeps) (sl_drew HT.out RP.keeps) n1e m1e).mono ?_); rintro e w8 ⟨A2, c2, E2, d2, rfl, how, hb8⟩; have hS8 := below_drew hb8; have hs8 : w.heap.size ≤ w8.heap.size := Nat.le_trans HB.out.size hS8.size; have C8 := six hb8 i1 C0) | (refine step_append_lies _ (by rfl) _ _ _ (by rfl) w.heap.size 51 i0 _ 6 80 Try.underlying25 hi hz0 hz1 hz2 rfl (Nat.zero_lt_succ 5) _ _ _ (by rfl) ((HPT.out.below hS8).out.alloc _) ⟨w8.heap.size, 0, none⟩ 1 1 [.int .i64 x.op, .int .i64 x.wish.kind, .int .i64 x.wish.field, .int .i64 x.wish.value, .slice A2 x.wish.list.length c2, .slice E2 x.wish.pairs.length d2] (by rfl) (by rfl) (six_new _ _ _ _ _ _ _ _) (ones6 rfl rfl rfl rfl rfl rfl) Nat.one_pos h63 hby (Nat.le_trans hs8 (size_le_alloc _ _)) _ rfl ?_; intro gg cap w1 hown1 hgrow hat hgl) | fail)
      have hP1 : Hid (PartN w1 w.heap.size 51 3 68 (.slice (some ⟨gg, 0, none⟩) (ps.length + 1) cap) (ps ++ [(x, .slice A2 x.wish.list.length c2, .slice E2 x.wish.pairs.length d2)])) :=
        HPT.out.append (x := x) hS8 how (by first | exact Nat.le_refl _ | (simp; done)) HB.out.size ((Below.refl w8.heap.size w8).alloc (Nat.le_refl _) _) hgrow hown1 hat
      have hB1 := Lib.hid (((HB.out.trans (hS8.mono HB.out.size)).alloc hs8 (.cells #[.int .i64 x.op, .int .i64 x.wish.kind, .int .i64 x.wish.field, .int .i64 x.wish.value, .slice A2 x.wish.list.length c2, .slice E2 x.wish.pairs.length d2] 51)).grown hgrow (by simp; omega) hrow)
      have HM2 : Hid ((ps ++ [(x, Value.slice A2 x.wish.list.length c2, Value.slice E2 x.wish.pairs.length d2)]).map (·.1) = l.take (ps.length + 1)) := by
        show _ = _
        obtain ⟨hl, e⟩ := List.getElem?_eq_some_iff.1 HX.out
        rw [List.map_append, HM.out, List.take_succ_eq_append_getElem hl, e]
        rfl
      have HPL2 : Hid ((ps ++ [(x, Value.slice A2 x.wish.list.length c2, Value.slice E2 x.wish.pairs.length d2)]).length = ps.length + 1) := by show _ = _; rw [List.length_append]; rfl
      clear how hb8 hS8 hown1 hgrow hat
      go_wp2
      go_roundw
      case rel => exact ⟨ps.length + 1, _, by omega, by go_num, HM2, HPL2, hP1.out, hB1.out⟩
      case measure => simp [intOf]; omega
    · have hkn : k = n := by omega
      obtain ⟨A', c', hv, _, _⟩ := own_form hpart.out
      subst hv
      have HM3 : Hid (ps.map (·.1) = l) := by
        show _ = _
        rw [HM.out, List.take_of_length_le (by have := HL.out; omega)]
      have HO : Hid (OwnNd wr w.heap.size wr.heap.size (.slice A' ps.length c') l) := by
        refine ⟨ps, HM3.out, fun p hp => ⟨hpart.rows.each p hp, own_und (hpart.rows.each p hp).1, own_und (hpart.rows.each p hp).2.1⟩, hpart.rows.apart, ?_, own_und hpart.out, hpart.far⟩
        rw [← HM3.out, List.length_map]
        exact hpart.out
      clear h hpart
      go_wp2
      go_ret
      exact ⟨_, rfl, by first | exact HO.out | (rw [← HPL.out]; exact HO.out), hbw⟩
end Go.Proofs.Yteinbnjkiebfaaa.Wk

namespace Go.Proofs.Yteinbnjkiebfaaa.Wk
open Go.RowKit Go.Proofs.Yteinbnjkiebfaaa.M
set_option linter.unusedVariables false
attribute [local go_sem] cell_grow

/-- What Subtree answers. -/
noncomputable def subR (l : List Nd) (a : Int) : List Nd := if P.okE l && P.inR a 0 ((l.length : Int) - 1) then (l.drop (P.startE l a.toNat)).take (a.toNat + 1 - P.startE l a.toNat) else []
theorem subR_mem {l : List Nd} {a : Int} {x : Nd} (h : x ∈ subR l a) : x ∈ l := by
  unfold subR at h
  split at h
  · exact List.mem_of_mem_drop (List.mem_of_mem_take h)
  · simp at h
theorem okE_fit {l : List Nd} (h : P.okE l = true) : ∀ x ∈ l, x.wish.list.length ≤ 1048576 ∧ x.wish.pairs.length ≤ 1048576 := by
  intro x hx
  obtain ⟨i, hi⟩ := List.getElem?_of_mem hx
  have hok := (P.okE_at h hi).1
  unfold P.okN at hok
  rw [Bool.and_eq_true] at hok
  obtain ⟨_, h2⟩ := hok
  split at h2
  · have h3 := P.okW_listlen h2
    have h4 := P.okW_pairslen h2
    omega
  · unfold P.noW at h2
    simp only [decide_eq_true_eq] at h2
    obtain ⟨_, _, _, h3, h4⟩ := h2
    rw [h3, h4]; simp
theorem ownNd_nil (w w' : World) (hb : Below (w.alloc (.cells #[] 51)).heap.size (w.alloc (.cells #[] 51)) w') : OwnNd w' w.heap.size w'.heap.size (.slice (some ⟨w.heap.size, 0, none⟩) 0 0) [] := by
  have h := own_below (own_emptyS w 51 6) hb
  exact ⟨[], rfl, fun p hp => absurd hp (by simp), by simp [ndv], h, own_und h, fun u hu => absurd hu (by simp [ndv])⟩
theorem ownNd_mono {w : World} {lo lo' hi : Nat} {v : Value} {l : List Nd} (h : OwnNd w lo hi v l) (hl : lo' ≤ lo) : OwnNd w lo' hi v l := by
  obtain ⟨ps, h1, h2, h3, h4, h5, h6⟩ := h
  exact ⟨ps, h1, fun p hp => ⟨(h2 p hp).1.mono hl, (h2 p hp).2⟩, h3, own_mono h4 hl, h5, h6⟩
set_option maxHeartbeats 1600000 in
set_option maxRecDepth 100000 in
theorem specSubtree {A : Option Addr} {n c : Nat} {l : List Nd} {a : Int} (w : World) (h : Sl RN 6 w w.heap.size A n c l) (ha : Fit a) : Calls Try.prog 24 #[.slice A n c, .int .i64 a] w (RetNd w (subR l a)) := by
  have HL := Lib.hid h.len
  have hle := h.le
  have hmx := h.max
  unfold maxLen at hmx
  cases hok : P.okE l with
  | false =>
    have HE : Hid (subR l a = []) := by show _ = _; unfold subR; rw [hok]; rfl
    go_enter Try.func24, Try.ntmps24
    go_wp2_with (go_at_call 13; refine (specIsExpression _ h).mono ?_; rintro e w2 ⟨rfl, b2⟩; rw [hok])
    go_ret
    refine ⟨_, rfl, ?_, b2.trans ((Below.refl w2.heap.size w2).alloc (Nat.le_refl _) _ |>.mono b2.size)⟩
    rw [HE.out]
    exact ownNd_mono (ownNd_nil w2 _ (Below.refl _ _)) b2.size
  | true =>
    have hn9 : n ≤ 9 := by have := (P.okE_len hok).1; have := HL.out; omega
    have HK := Lib.hid hok
    cases hin : P.inR a 0 ((n : Int) - 1) with
    | false =>
      have HE : Hid (subR l a = []) := by show _ = _; unfold subR; rw [HL.out, hin]; simp
      go_enter Try.func24, Try.ntmps24
      go_wp2_with (first | (go_at_call 13; refine (specIsExpression _ h).mono ?_; rintro e w2 ⟨rfl, b2⟩; rw [hok]) | (go_at_call 47; refine (l1In _ _ _ _).mono ?_; rintro e w9 ⟨rfl, rfl⟩; rw [hin]))
      go_ret
      refine ⟨_, rfl, ?_, b2.trans ((Below.refl w2.heap.size w2).alloc (Nat.le_refl _) _ |>.mono b2.size)⟩
      rw [HE.out]
      exact ownNd_mono (ownNd_nil w2 _ (Below.refl _ _)) b2.size
    | true =>
      obtain ⟨a0, a1⟩ := P.inR_t hin
      obtain ⟨k, rfl⟩ := Int.eq_ofNat_of_zero_le a0
      have hkn : k < n := by omega
      have HE : Hid (subR l k = (l.drop (P.startE l k)).take (k + 1 - P.startE l k)) := by
        show _ = _
        unfold subR
        rw [HL.out, hin, hok]
        rfl
      obtain ⟨lo, hlo⟩ : ∃ lo, P.startE l k = lo := ⟨_, rfl⟩
      have hlk : lo ≤ k := by rw [← hlo]; exact P.startE_le l k
      rw [hlo] at HE
      have q1 : (lo : Int) ≤ (k : Int) + 1 := by omega
      have q2 : (k : Int) + 1 ≤ (n : Int) := by omega
      have q3 : (n : Int) ≤ (c : Int) := by omega
      have HFI := Lib.hid (okE_fit HK.out)
      have HLO := Lib.hid hlo
      go_enter Try.func24, Try.ntmps24
      go_wp2_with fail
      refine (specIsExpression _ h).mono ?_
      rintro e w2 ⟨rfl, b2⟩
      rw [hok]
      have h2 := h.on RN.keeps b2
      have hcl : c ≠ lo := by omega
      have HP := Lib.hid (h2.part (lo := lo) (hi := k + 1) (by omega) (by omega))
      go_wp2_with (first | (go_at_call 47; refine (l1In _ _ _ _).mono ?_; rintro e w9 ⟨rfl, rfl⟩; rw [hin]) | (go_at_call 48; refine (l6Start _ h2 HK.out hkn).mono ?_; rintro e w9 ⟨rfl, rfl⟩; rw [HLO.out]))
      have HP := Lib.hid (by have := HP.out; rwa [if_neg hcl] at this)
      refine (l5Copy _ HP.out (by omega) (fun x hx => HFI.out x (List.mem_of_mem_drop (List.mem_of_mem_take hx)))).mono ?_
      rintro e w3 ⟨v, rfl, ho, hb3⟩
      go_wp2
      go_ret
      refine ⟨_, rfl, ?_, b2.trans (hb3.mono b2.size)⟩
      rw [HE.out]
      exact ownNd_mono ho b2.size
set_option maxHeartbeats 1600000 in
set_option maxRecDepth 100000 in
theorem implSubtree {A : Option Addr} {n c : Nat} {l : List Nd} {a : Int} (w : World) (h : Sl RN 6 w w.heap.size A n c l) (ha : Fit a) : Calls Try.prog 25 #[.slice A n c, .int .i64 a] w (RetNd w (subR l a)) := by
  have HL := Lib.hid h.len
  have hle := h.le
  have hmx := h.max
  unfold maxLen at hmx
  cases hok : P.okE l with
  | false =>
    have HE : Hid (subR l a = []) := by show _ = _; unfold subR; rw [hok]; rfl
    go_enter Try.func25, Try.ntmps25
    go_wp2_with (go_at_call 14; refine (implIsExpression _ h).mono ?_; rintro e w2 ⟨rfl, b2⟩; rw [hok])
    go_ret
    refine ⟨_, rfl, ?_, b2.trans ((Below.refl w2.heap.size w2).alloc (Nat.le_refl _) _ |>.mono b2.size)⟩
    rw [HE.out]
    exact ownNd_mono (ownNd_nil w2 _ (Below.refl _ _)) b2.size
  | true =>
    have hn9 : n ≤ 9 := by have := (P.okE_len hok).1; have := HL.out; omega
    have HK := Lib.hid hok
    cases hin : P.inR a 0 ((n : Int) - 1) with
    | false =>
      have HE : Hid (subR l a = []) := by show _ = _; unfold subR; rw [HL.out, hin]; simp
      go_enter Try.func25, Try.ntmps25
      go_wp2_with (first | (go_at_call 14; refine (implIsExpression _ h).mono ?_; rintro e w2 ⟨rfl, b2⟩; rw [hok]) | (go_at_call 35; refine (within _ _ _ _).mono ?_; rintro e w9 ⟨rfl, rfl⟩; rw [hin]))
      go_ret
      refine ⟨_, rfl, ?_, b2.trans ((Below.refl w2.heap.size w2).alloc (Nat.le_refl _) _ |>.mono b2.size)⟩
      rw [HE.out]
      exact ownNd_mono (ownNd_nil w2 _ (Below.refl _ _)) b2.size
    | true =>
      obtain ⟨a0, a1⟩ := P.inR_t hin
      obtain ⟨k, rfl⟩ := Int.eq_ofNat_of_zero_le a0
      have hkn : k < n := by omega
      have HE : Hid (subR l k = (l.drop (P.startE l k)).take (k + 1 - P.startE l k)) := by
        show _ = _
        unfold subR
        rw [HL.out, hin, hok]
        rfl
      obtain ⟨lo, hlo⟩ : ∃ lo, P.startE l k = lo := ⟨_, rfl⟩
      have hlk : lo ≤ k := by rw [← hlo]; exact P.startE_le l k
      rw [hlo] at HE
      have q1 : (lo : Int) ≤ (k : Int) + 1 := by omega
      have q2 : (k : Int) + 1 ≤ (n : Int) := by omega
      have q3 : (n : Int) ≤ (c : Int) := by omega
      have HFI := Lib.hid (okE_fit HK.out)
      have HLO := Lib.hid hlo
      go_enter Try.func25, Try.ntmps25
      go_wp2_with fail
      refine (implIsExpression _ h).mono ?_
      rintro e w2 ⟨rfl, b2⟩
      rw [hok]
      have h2 := h.on RN.keeps b2
      have hcl : c ≠ lo := by omega
      have HP := Lib.hid (h2.part (lo := lo) (hi := k + 1) (by omega) (by omega))
      go_wp2_with (first | (go_at_call 35; refine (within _ _ _ _).mono ?_; rintro e w9 ⟨rfl, rfl⟩; rw [hin]) | (go_at_call 49; refine (startI _ h2 HK.out hkn).mono ?_; rintro e w9 ⟨rfl, rfl⟩; rw [HLO.out]))
      have HP := Lib.hid (by have := HP.out; rwa [if_neg hcl] at this)
      refine (copyNodes _ HP.out (by omega) (fun x hx => HFI.out x (List.mem_of_mem_drop (List.mem_of_mem_take hx)))).mono ?_
      rintro e w3 ⟨v, rfl, ho, hb3⟩
      go_wp2
      go_ret
      refine ⟨_, rfl, ?_, b2.trans (hb3.mono b2.size)⟩
      rw [HE.out]
      exact ownNd_mono ho b2.size
end Go.Proofs.Yteinbnjkiebfaaa.Wk

namespace Go.Proofs.Yteinbnjkiebfaaa.Wk
open Go.RowKit Go.Proofs.Yteinbnjkiebfaaa.M
set_option linter.unusedVariables false

theorem cnt_tot : ∀ (l : List Nd), cntN l ≤ 4 * totN l
  | [] => Nat.zero_le _
  | x :: t => by
    have := cnt_tot t
    simp only [cntN, totN, cnt1]
    omega
theorem cnt_drop (l : List Nd) (i : Nat) : cntN (l.drop i) ≤ cntN l := by
  have := cntN_app (l.take i) (l.drop i)
  rw [List.take_append_drop] at this; omega
theorem cnt_sub (l : List Nd) (a : Int) : cntN (subR l a) ≤ 4 * totN l := by
  refine Nat.le_trans ?_ (cnt_tot l)
  unfold subR
  split
  · exact Nat.le_trans (cntN_le _ _) (cnt_drop _ _)
  · exact Nat.zero_le _
theorem specSubtreeV {v : Value} {l : List Nd} {a : Int} (w : World) (h : V RN 6 w w.heap.size v l) (ha : Fit a) : Calls Try.prog 24 #[v, .int .i64 a] w (RetNd w (subR l a)) := by
  obtain ⟨A, n, c, rfl, h⟩ := h
  exact specSubtree w h ha
theorem implSubtreeV {v : Value} {l : List Nd} {a : Int} (w : World) (h : V RN 6 w w.heap.size v l) (ha : Fit a) : Calls Try.prog 25 #[v, .int .i64 a] w (RetNd w (subR l a)) := by
  obtain ⟨A, n, c, rfl, h⟩ := h
  exact implSubtree w h ha
end Go.Proofs.Yteinbnjkiebfaaa.Wk

namespace Go.Proofs.Yteinbnjkiebfaaa.Wk
open Go.RowKit Go.Proofs.Yteinbnjkiebfaaa.M
set_option linter.unusedVariables false

set_option maxHeartbeats 3200000 in
set_option maxRecDepth 100000 in
theorem FnExactSubtree_no0 (w : World) (v0 : Value) (x0 : List Nd) (e0 : V RN 6 w w.heap.size v0 x0) (x1 : Int) (e1 : (Lit.int .i64 x1).wf = true)  (hbad : 1048576 < totN x0) : Calls Try.prog 7 #[v0, .int .i64 x1] w fun e w' => e = .returned (.bool true) ∧ Below w.heap.size w w' := by
  have B0 := Below.refl w.heap.size w
  have H0 := Lib.hid e0
  have FT0 := Lib.hid (fitNsV e0)
  have f1 := fit_wf e1
  clear e0
  go_enter Try.func7, Try.ntmps7
  have HB0 := B0.size
  go_wp2_with fail
  refine (szV_nodes _ (V_on RN.keeps H0.out B0) (by omega) (by omega)).mono ?_
  rintro e w1 ⟨rfl, b1⟩
  have z1 := b1.size
  have B1 := B0.trans (b1.mono B0.size)
  clear b1
  rw [less_no (left := 1048576) (t := totN x0) (by omega)]
  go_wp2_with fail
  go_ret
  exact ⟨rfl, B1⟩
set_option maxHeartbeats 3200000 in
set_option maxRecDepth 100000 in
theorem FnExactSubtree_yes (w : World) (v0 : Value) (x0 : List Nd) (e0 : V RN 6 w w.heap.size v0 x0) (x1 : Int) (e1 : (Lit.int .i64 x1).wf = true) (hfit : totN x0 ≤ 1048576) : Calls Try.prog 7 #[v0, .int .i64 x1] w fun e w' => e = .returned (.bool true) ∧ Below w.heap.size w w' := by
  have B0 := Below.refl w.heap.size w
  have H0 := Lib.hid e0
  have FT0 := Lib.hid (fitNsV e0)
  have f1 := fit_wf e1
  clear e0
  have ct0 := cnt_tot x0
  have FR := Lib.hid (fun x (hx : x ∈ subR x0 x1) => FT0.out x (subR_mem hx))
  go_enter Try.func7, Try.ntmps7
  have HB0 := B0.size
  go_wp2_with fail
  refine (szV_nodes _ (V_on RN.keeps H0.out B0) (by omega) (by omega)).mono ?_
  rintro e w1 ⟨rfl, b1⟩
  have z1 := b1.size
  have B1 := B0.trans (b1.mono B0.size)
  clear b1
  rw [less_fit (left := 1048576) (t := totN x0) (by omega)]
  go_wp2_with fail
  refine (toO_nodes _ (V_on RN.keeps H0.out B1) (by omega)).mono ?_
  rintro e w2 ⟨ut0, rfl, Ot0, b2⟩
  have z2 := b2.size
  have B2 := B1.trans (b2.mono B1.size)
  clear b2
  go_wp2_with fail
  refine (specSubtreeV _ (Ot0.read FT0.out) f1).mono ?_
  rintro e w3 ⟨w0, rfl, Ow, b3⟩
  have z3 := b3.size
  have B3 := B2.trans (b3.mono B2.size)
  clear b3
  have W0 := Ow.read FR.out
  clear Ow Ot0
  go_wp2_with fail
  refine (toO_nodes _ (V_on RN.keeps H0.out B3) (by omega)).mono ?_
  rintro e w4 ⟨ux0, rfl, Ox0, b4⟩
  have z4 := b4.size
  have B4 := B3.trans (b4.mono B3.size)
  have W0 := W0.below RN.keeps (b4.mono (by omega))
  clear b4
  go_wp2_with fail
  refine (implSubtreeV _ (Ox0.read FT0.out) f1).mono ?_
  rintro e w5 ⟨g0, rfl, Og, b5⟩
  have z5 := b5.size
  have B5 := B4.trans (b5.mono B4.size)
  have W0 := W0.below RN.keeps (b5.mono (by omega))
  have Ox0 := Ox0.below b5
  clear b5
  go_wp2_with fail
  refine (eqO_nodes _ Og FR.out W0 (by omega)).mono ?_
  rintro e w6 ⟨rfl, b6⟩
  have z6 := b6.size
  have B6 := B5.trans (b6.mono B5.size)
  have W0 := W0.below RN.keeps (b6.mono (by omega))
  have Ox0 := Ox0.below b6
  have Og := Og.below b6
  clear b6
  go_wp2_with fail
  refine (toO_nodes _ (V_on RN.keeps H0.out B6) (by omega)).mono ?_
  rintro e w7 ⟨y0, rfl, Oy, b7⟩
  have z7 := b7.size
  have B7 := B6.trans (b7.mono B6.size)
  have W0 := W0.below RN.keeps (b7.mono (by omega))
  have Ox0 := Ox0.below b7
  have Og := Og.below b7
  clear b7
  have Vy := Oy.read FT0.out
  go_wp2_with fail
  refine (eqO_nodes _ Ox0 FT0.out Vy (by omega)).mono ?_
  clear Oy Vy
  rintro e w8 ⟨rfl, b8⟩
  have z8 := b8.size
  have B8 := B7.trans (b8.mono B7.size)
  have W0 := W0.below RN.keeps (b8.mono (by omega))
  have Ox0 := Ox0.below b8
  have Og := Og.below b8
  clear b8
  go_wp2_with fail
  refine (mark_nodes (k := 1) _ Ox0 (by omega) (by omega)).mono ?_
  clear Ox0
  rintro e w9 ⟨rfl, _, c9⟩
  have z9 := c9.size
  have B9 := B8.trans (below_chg c9 (by have := B8.size; omega))
  have W0 := W0.below RN.keeps (below_chg c9 (by omega))
  have Og := Og.rng c9 (by omega)
  clear c9
  have hk : ¬ (1 + ((cntN x0 : Nat) : Int) < 0) := by omega
  go_wp2_with fail
  refine (eqO_nodes _ Og FR.out W0 (by omega)).mono ?_
  rintro e w10 ⟨rfl, b10⟩
  have z10 := b10.size
  have B10 := B9.trans (b10.mono B9.size)
  have W0 := W0.below RN.keeps (b10.mono (by omega))
  have Og := Og.below b10
  clear b10
  go_wp2_with fail
  refine (mark_nodes (k := 1) _ Og (by omega) (by have := cnt_sub x0 x1; omega)).mono ?_
  clear Og
  rintro e w11 ⟨rfl, Om, c11⟩
  have z11 := c11.size
  have B11 := B10.trans (below_chg c11 (by have := B10.size; omega))
  have W0 := W0.below RN.keeps (below_chg c11 (by omega))
  clear c11
  have hq : ¬ (1 + ((cntN (subR x0 x1) : Nat) : Int) < 0) := by omega
  have hm : ((1 + ((cntN (subR x0 x1) : Nat) : Int)) != (1 + ((cntN (subR x0 x1) : Nat) : Int))) = false := by simp
  go_wp2_with fail
  refine (held_nodes (k := 1) _ Om (by omega) (by have := cnt_sub x0 x1; omega)).mono ?_
  rintro e wz ⟨rfl, rfl⟩
  go_wp2_with fail
  refine (toO_nodes _ (V_on RN.keeps H0.out B11) (by omega)).mono ?_
  rintro e w12 ⟨uh0, rfl, Oh0, b12⟩
  have z12 := b12.size
  have B12 := B11.trans (b12.mono B11.size)
  have W0 := W0.below RN.keeps (b12.mono (by omega))
  have Om := Om.below b12
  clear b12
  go_wp2_with fail
  refine (implSubtreeV _ (Oh0.read FT0.out) f1).mono ?_
  rintro e w13 ⟨h0, rfl, Oh, b13⟩
  have z13 := b13.size
  have B13 := B12.trans (b13.mono B12.size)
  have W0 := W0.below RN.keeps (b13.mono (by omega))
  have Om := Om.below b13
  clear b13
  clear Oh0
  go_wp2_with fail
  refine (eqO_nodes _ Oh FR.out W0 (by omega)).mono ?_
  rintro e w14 ⟨rfl, b14⟩
  have z14 := b14.size
  have B14 := B13.trans (b14.mono B13.size)
  have W0 := W0.below RN.keeps (b14.mono (by omega))
  have Om := Om.below b14
  have Oh := Oh.below b14
  clear b14
  clear Oh
  go_wp2_with fail
  refine (held_nodes (k := 1) _ Om (by omega) (by have := cnt_sub x0 x1; omega)).mono ?_
  rintro e wz ⟨rfl, rfl⟩
  go_wp2_with fail
  go_ret
  exact ⟨rfl, B14⟩
theorem FnExactSubtree (w : World) (v0 : Value) (x0 : List Nd) (e0 : V RN 6 w w.heap.size v0 x0) (x1 : Int) (e1 : (Lit.int .i64 x1).wf = true) : Calls Try.prog 7 #[v0, .int .i64 x1] w fun e w' => e = .returned (.bool true) ∧ Below w.heap.size w w' := by
  by_cases h0 : 1048576 < totN x0
  · exact FnExactSubtree_no0 w v0 x0 e0 x1 e1  h0
  exact FnExactSubtree_yes w v0 x0 e0 x1 e1 (by omega)
end Go.Proofs.Yteinbnjkiebfaaa.Wk

namespace Go.Proofs.Yteinbnjkiebfaaa
open Go Go.RowKit Go.ChangeShapes Go.WideShapes Go.Deep Go.Proofs.Yteinbnjkiebfaaa.M

theorem op_node {H : Type} {enc : TypeId × Value → H} {W : World} {P : Program} {e ti tw : TypeId} {f0 f1 : Field} (hs : P.underlying e = some (.struct #[f0, f1])) (hi : P.underlying ti = some (.int .i64)) (hC : P.cellsOf e = 6) (hci : P.cellsOf ti = 1) (hcw : P.cellsOf tw = 5)
    (t0 : f0.type = ti) (t1 : f1.type = tw) (o0 : f0.offset = 0) (o1 : f1.offset = 1) (opw : ∀ fuel cs (x : DataW H × List MemPlace), DataW.trod enc P W 0 (fun _ => true) true fuel tw cs = some x → ∃ a, RW W W.heap.size a cs)
    {fuel : Nat} {cs : List Value} {x : DataW H × List MemPlace} (h : DataW.trod enc P W 0 (fun _ => true) true fuel e cs = some x) : ∃ a, RN W W.heap.size a cs := by
  obtain ⟨xs, n, _, _, hcl, hxl, hg⟩ := DataW.trod_struct hs h
  obtain ⟨y0, h0⟩ := field_at hxl hg 0 f0 rfl
  obtain ⟨y1, h1⟩ := field_at hxl hg 1 f1 rfl
  rw [hC] at hcl
  rw [t0, o0, hci] at h0
  rw [t1, o1, hcw] at h1
  match cs, hcl with
  | c0 :: rest, hcl =>
    have hr : rest.length = 5 := by simpa using hcl
    obtain ⟨a, e0, _, w0⟩ := DataW.trod_int hi h0
    have e1 : ((c0 :: rest).drop 1).take 5 = rest := by rw [List.drop_one, List.tail_cons]; exact List.take_of_length_le (Nat.le_of_eq hr)
    rw [e1] at h1
    obtain ⟨b, hb⟩ := opw _ _ _ h1
    simp at e0
    subst e0
    exact ⟨⟨a, b⟩, rest, rfl, fit_wf w0, hb⟩
theorem cells_node : Try.prog.cellsOf 46 = 6 := by kernel_rfl
set_option maxRecDepth 100000 in
theorem opN {H : Type} {enc : TypeId × Value → H} {W : World} {fuel : Nat} {cs : List Value} {x : DataW H × List MemPlace} (h : DataW.trod enc Try.prog W 0 (fun _ => true) true fuel 46 cs = some x) : ∃ a, RN W W.heap.size a cs :=
  op_node Try.underlying46 Try.underlying3 cells_node cells_int cells_wish rfl rfl rfl rfl (fun _ _ _ hh => opW hh) h
set_option maxRecDepth 100000 in
theorem open_nodes {H : Type} {enc : TypeId × Value → H} {W : World} {b0 : Nat} {v : Value} {d : DataW H} {p : List MemPlace} (hv : Value.okWide Try.prog W .any b0 22 v) (h : DataW.Trod enc Try.prog W 0 (fun _ => true) true 22 v d p) : ∃ l, V RN 6 W W.heap.size v l :=
  trod_slice_V Try.underlying22 cells_node (by omega) (fun _ _ _ hh => opN hh) hv h
end Go.Proofs.Yteinbnjkiebfaaa

namespace Go.Proofs.Yteinbnjkiebfaaa.LFnExactSubtree
open Go.ChangeShapes Go.WideShapes Go.ChangeAt Go.RowKit
open Go.ChangeMaps (open_string shut_string)
set_option linter.unusedVariables false

theorem own : ownKnob Try.prog.godebug = none := by kernel_rfl
theorem laidOut : laidOutB Try.prog = true := by kernel_rfl

set_option maxRecDepth 100000 in
theorem lifted (os : Os) (started : os.Started) (H : Type) (enc : TypeId × Value → H) :
    ReturnsInHanded {} Try.checked os 7 .any (Rows.fnExactSubtreeSpec.pre6 enc Try.prog Try.f7 Rows.fnExactSubtreeRow.domain false) (Rows.fnExactSubtreeSpec.post enc Try.prog Try.f7 false true false false) := by
  refine returnsInHanded_of_change (C := Try.checked) own started (by kernel_rfl) Try.func7
    (ChangeSpec.witness6 (enc := enc) (C := Try.checked) false ⟨#[], #[.slice none 0 0, .int .i64 0], []⟩ 8 (by kernel_rfl) (by kernel_rfl) (by kernel_rfl) (by kernel_rfl)) ?_
  intro W base args ds gs before hval0 hW hcnd _
  have hval : ∀ (j : Nat) t v, Try.f7.params[j]? = some t → args[j]? = some v → Value.okWide Try.prog W .any base t v := hval0
  have hW' := hW
  obtain ⟨p, q, hA0, hV, rfl, hfz, hnd⟩ := hW
  have hA : DataW.TrodAll enc Try.prog W 0 (fun _ => true) true Try.f7.params.toList args.toList ds p := hA0
  rw [Try.params7] at hA hval
  obtain ⟨v0, vs0, d0, ds0, p0, q0, hargs, rfl, rfl, h0, r0⟩ := trodAll_cons hA
  obtain ⟨v1, vs1, d1, ds1, p1, q1, rfl, rfl, rfl, h1, r1⟩ := trodAll_cons r0
  obtain ⟨rfl, rfl, rfl⟩ := trodAll_nil r1
  obtain rfl : args = #[v0, v1] := by cases args; simp_all
  obtain ⟨rfl, rfl⟩ := trodVars_none hV
  have k0 := h0
  have lt0 : ∀ x ∈ p0, x.block < W.heap.size := by obtain ⟨m, hm⟩ := k0; exact DataW.trod_lt m _ _ _ hm
  obtain ⟨l0, w0⟩ := open_nodes (hval 0 22 v0 rfl rfl) h0
  have k1 := h1
  have lt1 : ∀ x ∈ p1, x.block < W.heap.size := by obtain ⟨m, hm⟩ := k1; exact DataW.trod_lt m _ _ _ hm
  obtain ⟨a1, e1, _, _, w1⟩ := open_int Try.underlying3 (hval 1 3 v1 rfl rfl) h1
  subst e1
  clear hA0 hval0
  refine (Wk.FnExactSubtree (w := W) v0 l0 w0 a1 w1).mono fun e W' ⟨he, bel⟩ => ?_
  subst he
  exact ⟨_, rfl, _, _, _, [], _, [], hW', trodAll_mk1 (shut_bool Try.underlying4 _), (trodAll_cons_mk (Below.trod laidOut (by kernel_rfl) (of_decide_eq_true (by kernel_rfl)) k0 bel lt0) (trodAll_cons_mk (Below.trod laidOut (by kernel_rfl) (of_decide_eq_true (by kernel_rfl)) k1 bel lt1) trodAll_mk0)), rfl, bel.frame _, fun h => by cases h⟩

/-- The given statement. -/
theorem proved : Rows.FnExactSubtreeSaid :=
  OpenClaim.holds_of_wide 7 Try.f7 rfl rfl rfl rfl rfl rfl rfl ⟨rfl, rfl, rfl, rfl, rfl⟩ rfl rfl rfl rfl rfl (by as_aux_lemma => kernel_rfl) Try.func7 (by as_aux_lemma => kernel_rfl)
    (of_decide_eq_true (by as_aux_lemma => kernel_rfl)) (by unfold Func.isWrapper; first | (rw [if_pos (by decide +kernel)]; kernel_rfl) | (rw [if_neg (by decide +kernel)]; exact ⟨rfl, rfl⟩))
    (fun os started H enc _ => lifted os started H enc)
#print axioms proved
end Go.Proofs.Yteinbnjkiebfaaa.LFnExactSubtree
