/-
  The given statement on laws.FnExactApplyRule: for every input that the row speaks of, the call returns true and the arguments read as before.
  Conditions: none beyond the row's own.
-/
import Derived.Test.YtgjghpaenliliaaW52
import Derived.Test.YtgjghpaenliliaaP18
import Derived.Test.YtgjghpaenliliaaW61
import Derived.Test.YtgjghpaenliliaaM14
import Derived.Test.YtgjghpaenliliaaM15
import Derived.Maps.AppendAt
import Derived.Test.YtgjghpaenliliaaM2
import Derived.Deep.RegionHeld3
import Derived.Test.YtgjghpaenliliaaM13
import Derived.Test.YtgjghpaenliliaaM12
import Derived.Test.YtgjghpaenliliaaW51
import Derived.Test.YtgjghpaenliliaaU7
import Derived.Test.YtgjghpaenliliaaO2
import Derived.Test.YtgjghpaenliliaaRows
import Derived.ProofKit
import Derived.OpenShut
import Derived.ShutString
import Derived.ChangeOld
import Derived.Below
namespace Go.Proofs.Ytgjghpaenliliaa.Wk
open Go.RowKit Go.Proofs.Ytgjghpaenliliaa.M
set_option linter.unusedVariables false
attribute [local go_sem] cell_grow

set_option maxHeartbeats 1600000 in
theorem l6Start {B : Nat} {A : Option Addr} {n c : Nat} {l : List Nd} {a : Nat} (w : World) (h : Sl RN 6 w B A n c l) (hE : P.okE l = true) (ha : a < n) :
    Calls Try.prog 76 #[.slice A n c, .int .i64 a] w fun e w' => e = .returned (.int .i64 (P.startE l a)) ∧ w = w' := by
  have HL := Lib.hid h.len
  have HE := Lib.hid hE
  have hn9 : n ≤ 9 := by have := (P.okE_len hE).1; have := HL.out; omega
  have hle := h.le
  have HT : Hid (1 ≤ P.Dp l (a + 1)) := by
    obtain ⟨x, hx⟩ : ∃ x, l[a]? = some x := ⟨_, List.getElem?_eq_getElem (by have := HL.out; omega)⟩
    have := P.dp_succ hE hx
    show _ ≤ _
    omega
  clear hE
  go_enter Try.func76, Try.ntmps76
  go_wp2
  go_loop [5, 6] (fun vn vi => ∃ (i : Nat) (nd : Int), i ≤ a ∧ vi = .int .i64 i ∧ vn = .int .i64 nd ∧ Hid (nd = (P.Dp l (i + 1) : Int) + 1 - (P.Dp l (a + 1) : Int)) ∧ 1 ≤ nd ∧ nd ≤ 100 ∧ nd ≤ i + 2 ∧ Hid (P.startE l a = P.downE l (P.Dp l (a + 1)) i)) (fun _ vi => (intOf vi).toNat)
  case atStart => exact ⟨a, 1, Nat.le_refl _, rfl, rfl, by show _ = _; omega, by omega, by omega, by omega, rfl⟩
  case round =>
    obtain ⟨i, nd, hia, rfl, rfl, HND, hn1, hn100, hni, HST⟩ := hrel
    obtain ⟨b, o, x, A1, n1, c1, E1, m1, d1, rfl, hb, hx, hf, hs, ht1, g0, g1, g2, g3, g4, g5⟩ := nodeAt h (show i < n by omega)
    obtain ⟨s1, s2, s3⟩ := P.dp_succ HE.out hx
    have ht := HT.out
    have hnd := HND.out
    have q1 : (i : Int) < (n : Int) := by omega
    have HX := Lib.hid hx
    clear g1 g2 g3 g4 g5 hs ht1 hf h HND hx
    have hdp0 : i = 0 → P.Dp l i = 0 := fun e => by subst e; exact P.dp_zero l
    have miss : P.Dp l i + 1 ≠ P.Dp l (a + 1) → 0 < i → P.startE l a = P.downE l (P.Dp l (a + 1)) (i - 1) := fun h1 h2 => by
      rw [HST.out]
      obtain ⟨j, rfl⟩ : ∃ j, i = j + 1 := ⟨i - 1, by omega⟩
      exact P.downE_miss h1
    have hpr : 0 < i → (P.Dp l (i - 1 + 1) : Int) = P.Dp l i := fun h2 => by rw [show i - 1 + 1 = i by omega]
    have hi3 : P.Dp l i ≤ i := by
      have : ∃ d, P.Dep l i d := by
        obtain ⟨_, d, hd, _⟩ := P.okE_at HE.out HX.out
        exact ⟨d, hd⟩
      obtain ⟨d, hd⟩ := this
      rw [P.dp_of hd]; exact P.dep_le hd
    by_cases hc : x.op = 0
    · have hq : (x.op == 0) = true := by simpa using hc
      have ho : P.opnds x.op = 0 := by rw [hc]; rfl
      clear hc
      by_cases hz : nd - 1 = 0
      · have qz : (nd - 1 == 0) = true := by simpa using hz
        have HR : Hid (P.startE l a = i) := by show _ = _; rw [HST.out]; exact P.downE_hit (by omega)
        clear miss hpr hdp0
        go_wp2
        go_ret
        exact ⟨ret_int (by rw [HR.out]), rfl⟩
      · have qz : (nd - 1 == 0) = false := by simpa using hz
        have hi0 : 0 < i := by
          rcases Nat.eq_zero_or_pos i with h0 | h0
          · have := hdp0 h0; omega
          · exact h0
        have hpi := hpr hi0
        have HS2 := Lib.hid (miss (by omega) hi0)
        have HN2 : Hid (nd - 1 = (P.Dp l (i - 1 + 1) : Int) + 1 - (P.Dp l (a + 1) : Int)) := by show _ = _; rw [hpi]; omega
        have hp : 1 ≤ nd - 1 := by omega
        have hp2 : nd - 1 ≤ ((i - 1 : Nat) : Int) + 2 := by omega
        clear miss hpr hdp0
        go_wp2
        go_round
        case rel => exact ⟨i - 1, nd - 1, by omega, vint (by omega), (by first | rfl | exact vint (by omega)), HN2, hp, by omega, hp2, HS2⟩
        case measure => simp [intOf]; omega
    · have hq : (x.op == 0) = false := by simpa using hc
      by_cases hc3 : x.op = 3
      · have hq3 : (x.op == 3) = true := by simpa using hc3
        have ho : P.opnds x.op = 1 := by rw [hc3]; rfl
        have ez : nd - 1 + 1 = nd := by omega
        have qz : (nd == 0) = false := by simp; omega
        have qz2 : (nd - 1 + 1 == 0) = false := by simp; omega
        clear hc hc3
        have hi0 : 0 < i := by
          rcases Nat.eq_zero_or_pos i with h0 | h0
          · have := hdp0 h0; omega
          · exact h0
        have hpi := hpr hi0
        have HS2 := Lib.hid (miss (by omega) hi0)
        have HN2 : Hid (nd = (P.Dp l (i - 1 + 1) : Int) + 1 - (P.Dp l (a + 1) : Int)) := by show _ = _; rw [hpi]; omega
        have hp : 1 ≤ nd := by omega
        have hp2 : nd ≤ ((i - 1 : Nat) : Int) + 2 := by omega
        clear miss hpr hdp0
        go_wp2
        go_round
        case rel => exact ⟨i - 1, nd, by omega, vint (by omega), (by first | rfl | exact vint (by omega)), HN2, hp, by omega, hp2, HS2⟩
        case measure => simp [intOf]; omega
      · have hq3 : (x.op == 3) = false := by simpa using hc3
        have ho : P.opnds x.op = 2 := by unfold P.opnds; rw [if_neg hc, if_neg hc3]
        have ez : nd - 1 + 2 = nd + 1 := by omega
        have qz : (nd + 1 == 0) = false := by simp; omega
        have qz2 : (nd - 1 + 2 == 0) = false := by simp; omega
        clear hc hc3
        have hi0 : 0 < i := by
          rcases Nat.eq_zero_or_pos i with h0 | h0
          · have := hdp0 h0; omega
          · exact h0
        have hpi := hpr hi0
        have HS2 := Lib.hid (miss (by omega) hi0)
        have HN2 : Hid (nd + 1 = (P.Dp l (i - 1 + 1) : Int) + 1 - (P.Dp l (a + 1) : Int)) := by show _ = _; rw [hpi]; omega
        have hp : 1 ≤ nd + 1 := by omega
        have hp2 : nd + 1 ≤ ((i - 1 : Nat) : Int) + 2 := by omega
        clear miss hpr hdp0
        go_wp2
        go_round
        case rel => exact ⟨i - 1, nd + 1, by omega, vint (by omega), (by first | rfl | exact vint (by omega)), HN2, hp, by omega, hp2, HS2⟩
        case measure => simp [intOf]; omega
set_option maxHeartbeats 1600000 in
theorem startI {B : Nat} {A : Option Addr} {n c : Nat} {l : List Nd} {a : Nat} (w : World) (h : Sl RN 6 w B A n c l) (hE : P.okE l = true) (ha : a < n) :
    Calls Try.prog 45 #[.slice A n c, .int .i64 a] w fun e w' => e = .returned (.int .i64 (P.startE l a)) ∧ w = w' := by
  have HL := Lib.hid h.len
  have HE := Lib.hid hE
  have hn9 : n ≤ 9 := by have := (P.okE_len hE).1; have := HL.out; omega
  have hle := h.le
  have HT : Hid (1 ≤ P.Dp l (a + 1)) := by
    obtain ⟨x, hx⟩ : ∃ x, l[a]? = some x := ⟨_, List.getElem?_eq_getElem (by have := HL.out; omega)⟩
    have := P.dp_succ hE hx
    show _ ≤ _
    omega
  clear hE
  go_enter Try.func45, Try.ntmps45
  go_wp2
  go_loop [5, 6] (fun vn vi => ∃ (i : Nat) (nd : Int), i ≤ a ∧ vi = .int .i64 i ∧ vn = .int .i64 nd ∧ Hid (nd = (P.Dp l (i + 1) : Int) + 1 - (P.Dp l (a + 1) : Int)) ∧ 1 ≤ nd ∧ nd ≤ 100 ∧ nd ≤ i + 2 ∧ Hid (P.startE l a = P.downE l (P.Dp l (a + 1)) i)) (fun _ vi => (intOf vi).toNat)
  case atStart => exact ⟨a, 1, Nat.le_refl _, rfl, rfl, by show _ = _; omega, by omega, by omega, by omega, rfl⟩
  case round =>
    obtain ⟨i, nd, hia, rfl, rfl, HND, hn1, hn100, hni, HST⟩ := hrel
    obtain ⟨b, o, x, A1, n1, c1, E1, m1, d1, rfl, hb, hx, hf, hs, ht1, g0, g1, g2, g3, g4, g5⟩ := nodeAt h (show i < n by omega)
    obtain ⟨s1, s2, s3⟩ := P.dp_succ HE.out hx
    have ht := HT.out
    have hnd := HND.out
    have q1 : (i : Int) < (n : Int) := by omega
    have HX := Lib.hid hx
    clear g1 g2 g3 g4 g5 hs ht1 hf h HND hx
    have hdp0 : i = 0 → P.Dp l i = 0 := fun e => by subst e; exact P.dp_zero l
    have miss : P.Dp l i + 1 ≠ P.Dp l (a + 1) → 0 < i → P.startE l a = P.downE l (P.Dp l (a + 1)) (i - 1) := fun h1 h2 => by
      rw [HST.out]
      obtain ⟨j, rfl⟩ : ∃ j, i = j + 1 := ⟨i - 1, by omega⟩
      exact P.downE_miss h1
    have hpr : 0 < i → (P.Dp l (i - 1 + 1) : Int) = P.Dp l i := fun h2 => by rw [show i - 1 + 1 = i by omega]
    have hi3 : P.Dp l i ≤ i := by
      have : ∃ d, P.Dep l i d := by
        obtain ⟨_, d, hd, _⟩ := P.okE_at HE.out HX.out
        exact ⟨d, hd⟩
      obtain ⟨d, hd⟩ := this
      rw [P.dp_of hd]; exact P.dep_le hd
    obtain ⟨k, hk⟩ : ∃ k, P.opnds x.op = k := ⟨_, rfl⟩
    by_cases hz : nd - 1 + (k : Int) = 0
    · have qz : (nd - 1 + (k : Int) == 0) = true := by simpa using hz
      have HR : Hid (P.startE l a = i) := by show _ = _; rw [HST.out]; exact P.downE_hit (by omega)
      clear miss hpr hdp0
      (go_wp2_with (go_at_call 62; refine (operands _ _).mono ?_; rintro e w9 ⟨rfl, rfl⟩; rw [hk]))
      go_ret
      exact ⟨ret_int (by rw [HR.out]), rfl⟩
    · have qz : (nd - 1 + (k : Int) == 0) = false := by simpa using hz
      have hi0 : 0 < i := by
        rcases Nat.eq_zero_or_pos i with h0 | h0
        · have := hdp0 h0; omega
        · exact h0
      have hpi := hpr hi0
      have HS2 := Lib.hid (miss (by omega) hi0)
      have HN2 : Hid (nd - 1 + (k : Int) = (P.Dp l (i - 1 + 1) : Int) + 1 - (P.Dp l (a + 1) : Int)) := by show _ = _; rw [hpi]; omega
      have hp : 1 ≤ nd - 1 + (k : Int) := by omega
      have hp2 : nd - 1 + (k : Int) ≤ ((i - 1 : Nat) : Int) + 2 := by omega
      clear miss hpr hdp0
      (go_wp2_with (go_at_call 62; refine (operands _ _).mono ?_; rintro e w9 ⟨rfl, rfl⟩; rw [hk]))
      go_round
      case rel => exact ⟨i - 1, nd - 1 + (k : Int), by omega, vint (by omega), (by first | rfl | exact vint (by omega)), HN2, hp, by omega, hp2, HS2⟩
      case measure => simp [intOf]; omega
end Go.Proofs.Ytgjghpaenliliaa.Wk

namespace Go.Proofs.Ytgjghpaenliliaa.Wk
open Go.RowKit Go.Proofs.Ytgjghpaenliliaa.M
set_option linter.unusedVariables false
attribute [local go_sem] cell_grow

theorem l5WishE {A E : Option Addr} {n c m d : Nat} {x : Wi} (w : World) (h : Sl RI 1 w w.heap.size A n c x.list) (g : Sl RP 2 w w.heap.size E m d x.pairs) (hn : n ≤ 1048576) (hm : m ≤ 1048576) :
    Calls Try.prog 74 #[.agg #[.int .i64 x.kind, .int .i64 x.field, .int .i64 x.value, .slice A n c, .slice E m d]] w fun e w' => ∃ A2 c2 E2 d2, e = .returned (.agg #[.int .i64 x.kind, .int .i64 x.field, .int .i64 x.value, .slice A2 x.list.length c2, .slice E2 x.pairs.length d2]) ∧ OwnW w' w.heap.size 3 92 x (.slice A2 x.list.length c2) (.slice E2 x.pairs.length d2) ∧ Below w.heap.size w w' :=
  (l5Wish w h g hn hm).mono fun e w' ⟨u, v, he, ho, hb⟩ => by
    obtain ⟨A2, c2, rfl, _, _⟩ := own_form ho.1
    obtain ⟨E2, d2, rfl, _, _⟩ := own_form ho.2.1
    exact ⟨A2, c2, E2, d2, he, ho, hb⟩
theorem below_drew {W w8 : World} (h : Below W.drew.heap.size W.drew w8) : Below W.heap.size W w8 := (Below.refl W.heap.size W).drew.trans h
theorem six {b o : Nat} {a1 a2 a3 a4 a5 a6 : Value} {w w' : World} {B : Nat} (hb : Below B w w') (hlt : b < B) (h : w.cell? ⟨b, o, none⟩ = some a1 ∧ w.cell? ⟨b, o + 1, none⟩ = some a2 ∧ w.cell? ⟨b, o + 2, none⟩ = some a3 ∧ w.cell? ⟨b, o + 3, none⟩ = some a4 ∧ w.cell? ⟨b, o + 4, none⟩ = some a5 ∧ w.cell? ⟨b, o + 5, none⟩ = some a6) :
    w'.cell? ⟨b, o, none⟩ = some a1 ∧ w'.cell? ⟨b, o + 1, none⟩ = some a2 ∧ w'.cell? ⟨b, o + 2, none⟩ = some a3 ∧ w'.cell? ⟨b, o + 3, none⟩ = some a4 ∧ w'.cell? ⟨b, o + 4, none⟩ = some a5 ∧ w'.cell? ⟨b, o + 5, none⟩ = some a6 := by
  obtain ⟨h1, h2, h3, h4, h5, h6⟩ := h
  exact ⟨(cell_of hb _ _ hlt).trans h1, (cell_of hb _ _ hlt).trans h2, (cell_of hb _ _ hlt).trans h3, (cell_of hb _ _ hlt).trans h4, (cell_of hb _ _ hlt).trans h5, (cell_of hb _ _ hlt).trans h6⟩
theorem grown_base {X w1 : World} {B : Nat} {row : Option Nat} (hg : X.grownBy w1 row) (hB : B ≤ X.heap.size) (hr : ∀ q, row = some q → B ≤ q) : Below B X w1 := (Below.refl B X).grown hg hB hr
set_option maxHeartbeats 3200000 in
set_option maxRecDepth 100000 in
theorem l5Copy {A : Option Addr} {n c : Nat} {l : List Nd} (w : World) (h : Sl RN 6 w w.heap.size A n c l) (hn : n ≤ 1048576) (hfit : ∀ x ∈ l, x.wish.list.length ≤ 1048576 ∧ x.wish.pairs.length ≤ 1048576) : Calls Try.prog 40 #[.slice A n c] w (RetNd w l) := by
  obtain ⟨i0, hi, hz0, hz1, hz2⟩ := info_parts info_node
  have HL := Lib.hid h.len
  have HFI := Lib.hid hfit
  have hle := h.le
  go_enter Try.func40, Try.ntmps40
  go_wp2
  go_loopw [3, 4] (fun vo vk wr => ∃ (k : Nat) (ps : List NdC), k ≤ n ∧ vk = .int .i64 k ∧ Hid (ps.map (·.1) = l.take k) ∧ Hid (ps.length = k) ∧ PartN wr w.heap.size 55 3 92 vo ps ∧ Below w.heap.size w wr) (fun _ vk _ => n - (intOf vk).toNat)
  case atStart => exact ⟨0, [], Nat.zero_le _, rfl, rfl, rfl, PartN.nil w _ _ _, (Below.refl _ _).alloc (Nat.le_refl _) _⟩
  case round =>
    clear hfit
    obtain ⟨k, ps, hk, rfl, HM, HPL, hpart, hbw⟩ := hrel
    by_cases hlt : k < n
    · obtain ⟨b, o, x, A1, n1, c1, E1, m1, d1, rfl, hb, hx, hf, hs, ht1, g0, g1, g2, g3, g4, g5⟩ := nodeAt h hlt
      have e0 := ((cell_of hbw) b (o + k * 6) hb).trans g0
      have e1 := ((cell_of hbw) b (o + k * 6 + 1) hb).trans g1
      have e2 := ((cell_of hbw) b (o + k * 6 + 2) hb).trans g2
      have e3 := ((cell_of hbw) b (o + k * 6 + 3) hb).trans g3
      have e4 := ((cell_of hbw) b (o + k * 6 + 4) hb).trans g4
      have e5 := ((cell_of hbw) b (o + k * 6 + 5) hb).trans g5
      have hsz := hbw.size
      have i1 : b < wr.heap.size := by omega
      have HS := Lib.hid (hs.on RI.keeps hbw)
      have HT := Lib.hid (ht1.on RP.keeps hbw)
      have HPT := Lib.hid hpart
      have HB := Lib.hid hbw
      obtain ⟨fl, fp⟩ := HFI.out x (List.mem_of_getElem? hx)
      have n1e : n1 ≤ 1048576 := by have := hs.len; omega
      have m1e : m1 ≤ 1048576 := by have := ht1.len; omega
      have HX := Lib.hid hx
      obtain ⟨A', c', hv, _, _⟩ := own_form hpart.out
      subst hv
      have hpl := HPL.out
      subst hpl
      have h63 : ps.length + 1 ≤ maxLen := by unfold maxLen; omega
      have hby : (ps.length + 1) * 80 ≤ 140737488355328 := by omega
      have q1 : (ps.length : Int) < (n : Int) := by omega
      have q2 : (n : Int) ≤ (c : Int) := by omega
      have bw : b < w.heap.size := hb
      have hrow : ∀ q, (Value.slice A' ps.length c').ownBlock = some q → w.heap.size ≤ q := fun q hq => (hpart.out.lt q hq).1
      have C0 := six (Below.refl wr.heap.size wr).drew i1 ⟨e0, e1, e2, e3, e4, e5⟩
      clear h hx g0 g1 g2 g3 g4 g5 hs ht1 hpart hbw hf e0 e1 e2 e3 e4 e5
      go_wp2_with fail
      go_region_held3 (fun w' => w'.cell? ⟨b, o + ps.length * 6, none⟩ = some (.int .i64 x.op) ∧ w'.cell? ⟨b, o + ps.length * 6 + 1, none⟩ = some (.int .i64 x.wish.kind) ∧ w'.cell? ⟨b, o + ps.length * 6 + 2, none⟩ = some (.int .i64 x.wish.field) ∧ w'.cell? ⟨b, o + ps.length * 6 + 3, none⟩ = some (.int .i64 x.wish.value) ∧ w'.cell? ⟨b, o + ps.length * 6 + 4, none⟩ = some (.slice A1 n1 c1) ∧ w'.cell? ⟨b, o + ps.length * 6 + 5, none⟩ = some (.slice E1 m1 d1)) (first | exact C0 | exact C8 | exact six ((Below.refl _ _).alloc (Nat.le_refl _) _) (Nat.lt_of_lt_of_le bw hs8) C8 | exact six (grown_base hgrow (Nat.le_trans hs8 (size_le_alloc _ _)) hrow) bw (six ((Below.refl _ _).alloc (Nat.le_refl _) _) (Nat.lt_of_lt_of_le bw hs8) C8) | fail) (first | (go_simp; go_at_call 74; with_reducible (refine (l5WishE (x := x.wish) _ (sl_drew HS.out RI.keeps) (sl_drew HT.out RP.keeps) n1e m1e).mono ?_); rintro e w8 ⟨A2, c2, E2, d2, rfl, how, hb8⟩; have hS8 := below_drew hb8; have hs8 : w.heap.size ≤ w8.heap.size := Nat.le_trans HB.out.size hS8.size; have C8 := six hb8 i1 C0) | (refine step_append_lies _ (by rfl) _ _ _ (by rfl) w.heap.size 55 i0 _ 6 80 Try.underlying25 hi hz0 hz1 hz2 rfl (Nat.zero_lt_succ 5) _ _ _ (by rfl) ((HPT.out.below hS8).out.alloc _) ⟨w8.heap.size, 0, none⟩ 1 1 [.int .i64 x.op, .int .i64 x.wish.kind, .int .i64 x.wish.field, .int .i64 x.wish.value, .slice A2 x.wish.list.length c2, .slice E2 x.wish.pairs.length d2] (by rfl) (by rfl) (six_new _ _ _ _ _ _ _ _) (ones6 rfl rfl rfl rfl rfl rfl) Nat.one_pos h63 hby (Nat.le_trans hs8 (size_le_alloc _ _)) _ rfl ?_; intro gg cap w1 hown1 hgrow hat hgl) | fail)
      have hP1 : Hid (PartN w1 w.heap.size 55 3 92 (.slice (some ⟨gg, 0, none⟩) (ps.length + 1) cap) (ps ++ [(x, .slice A2 x.wish.list.length c2, .slice E2 x.wish.pairs.length d2)])) :=
        HPT.out.append (x := x) hS8 how (by first | exact Nat.le_refl _ | (simp; done)) HB.out.size ((Below.refl w8.heap.size w8).alloc (Nat.le_refl _) _) hgrow hown1 hat
      have hB1 := Lib.hid (((HB.out.trans (hS8.mono HB.out.size)).alloc hs8 (.cells #[.int .i64 x.op, .int .i64 x.wish.kind, .int .i64 x.wish.field, .int .i64 x.wish.value, .slice A2 x.wish.list.length c2, .slice E2 x.wish.pairs.length d2] 55)).grown hgrow (by simp; omega) hrow)
      have HM2 : Hid ((ps ++ [(x, Value.slice A2 x.wish.list.length c2, Value.slice E2 x.wish.pairs.length d2)]).map (·.1) = l.take (ps.length + 1)) := by
        show _ = _
        obtain ⟨hl, e⟩ := List.getElem?_eq_some_iff.1 HX.out
        rw [List.map_append, HM.out, List.take_succ_eq_append_getElem hl, e]
        rfl
      have HPL2 : Hid ((ps ++ [(x, Value.slice A2 x.wish.list.length c2, Value.slice E2 x.wish.pairs.length d2)]).length = ps.length + 1) := by show _ = _; rw [List.length_append]; rfl
      clear how hb8 hS8 hown1 hgrow hat
      go_wp2
      go_roundw
      case rel => exact ⟨ps.length + 1, _, by omega, by go_num, HM2, HPL2, hP1.out, hB1.out⟩
      case measure => simp [intOf]; omega
    · have hkn : k = n := by omega
      obtain ⟨A', c', hv, _, _⟩ := own_form hpart.out
      subst hv
      have HM3 : Hid (ps.map (·.1) = l) := by
        show _ = _
        rw [HM.out, List.take_of_length_le (by have := HL.out; omega)]
      have HO : Hid (OwnNd wr w.heap.size wr.heap.size (.slice A' ps.length c') l) := by
        refine ⟨ps, HM3.out, fun p hp => ⟨hpart.rows.each p hp, own_und (hpart.rows.each p hp).1, own_und (hpart.rows.each p hp).2.1⟩, hpart.rows.apart, ?_, own_und hpart.out, hpart.far⟩
        rw [← HM3.out, List.length_map]
        exact hpart.out
      clear h hpart
      go_wp2
      go_ret
      exact ⟨_, rfl, by first | exact HO.out | (rw [← HPL.out]; exact HO.out), hbw⟩
end Go.Proofs.Ytgjghpaenliliaa.Wk

namespace Go.Proofs.Ytgjghpaenliliaa.Wk
open Go.RowKit Go.Proofs.Ytgjghpaenliliaa.M
set_option linter.unusedVariables false
attribute [local go_sem] cell_grow

/-- What Subtree answers. -/
noncomputable def subR (l : List Nd) (a : Int) : List Nd := if P.okE l && P.inR a 0 ((l.length : Int) - 1) then (l.drop (P.startE l a.toNat)).take (a.toNat + 1 - P.startE l a.toNat) else []
theorem subR_mem {l : List Nd} {a : Int} {x : Nd} (h : x ∈ subR l a) : x ∈ l := by
  unfold subR at h
  split at h
  · exact List.mem_of_mem_drop (List.mem_of_mem_take h)
  · simp at h
theorem okE_fit {l : List Nd} (h : P.okE l = true) : ∀ x ∈ l, x.wish.list.length ≤ 1048576 ∧ x.wish.pairs.length ≤ 1048576 := by
  intro x hx
  obtain ⟨i, hi⟩ := List.getElem?_of_mem hx
  have hok := (P.okE_at h hi).1
  unfold P.okN at hok
  rw [Bool.and_eq_true] at hok
  obtain ⟨_, h2⟩ := hok
  split at h2
  · have h3 := P.okW_listlen h2
    have h4 := P.okW_pairslen h2
    omega
  · unfold P.noW at h2
    simp only [decide_eq_true_eq] at h2
    obtain ⟨_, _, _, h3, h4⟩ := h2
    rw [h3, h4]; simp
theorem ownNd_nil (w w' : World) (hb : Below (w.alloc (.cells #[] 55)).heap.size (w.alloc (.cells #[] 55)) w') : OwnNd w' w.heap.size w'.heap.size (.slice (some ⟨w.heap.size, 0, none⟩) 0 0) [] := by
  have h := own_below (own_emptyS w 55 6) hb
  exact ⟨[], rfl, fun p hp => absurd hp (by simp), by simp [ndv], h, own_und h, fun u hu => absurd hu (by simp [ndv])⟩
theorem ownNd_mono {w : World} {lo lo' hi : Nat} {v : Value} {l : List Nd} (h : OwnNd w lo hi v l) (hl : lo' ≤ lo) : OwnNd w lo' hi v l := by
  obtain ⟨ps, h1, h2, h3, h4, h5, h6⟩ := h
  exact ⟨ps, h1, fun p hp => ⟨(h2 p hp).1.mono hl, (h2 p hp).2⟩, h3, own_mono h4 hl, h5, h6⟩
end Go.Proofs.Ytgjghpaenliliaa.Wk

namespace Go.Proofs.Ytgjghpaenliliaa.M
open Go Go.RowKit

section
variable {P : Program} {w : World} {ops : Array Oper} {rest : List Oper} {o : Oper} {a : Act} {Q : Exit → Act → World → Prop}
theorem append_at (hgd : o.guard = none) (s x : Operand) (t : TypeId)
    (ho : o.op = .call { callee := .builtin .append, args := #[s, x], argTypes := #[t, t] })
    (base : Nat) (e : TypeId) (i : TypeInfo) (z : Value) (size bytes : Nat) (ht : P.underlying t = some (.slice e)) (hi : P.info? e = some i) (hz : i.zero = some z)
    (hsize : i.size = size) (hby : i.bytes = bytes) (hzs : z.cells.size = size) (hsz : 0 < size)
    (v : Value) (n : Nat) (xs : List Value) (hs : a.eval s = v) (hown : w.ownsRow base e size v n xs)
    (A : Option Addr) (m c : Nat) (news : List Value) (hx : a.eval x = .slice A m c) (hl : news.length = m * size) (hA : 0 < m → A ≠ none) (hnews : ∀ ad, A = some ad → ∀ j u, news[j]? = some u → w.cell? (ad.add j) = some u) (h1 : ∀ u ∈ news, u.oneCell' = true)
    (h63 : n + m ≤ maxLen) (hbytes : (n + m) * bytes ≤ 140737488355328) (hbase : base ≤ w.heap.size)
    (h : ∀ v' w', w'.ownsRow base e size v' (n + m) (xs ++ news) → w.grownBy w' v.ownBlock → (v'.ownBlock = v.ownBlock ∨ v'.ownBlock = some w.heap.size) → wpList P ops Q rest (a.put o.dst v') w') : wpList P ops Q (o :: rest) a w := by
  cases A with
  | some ad =>
    obtain ⟨v', w', hr, h2, h3, _, h5⟩ := run_append_own_at (P := P) (w := w) base t o.type e i z size bytes ht hi hz hsize hby hzs hsz v n xs hown ad m c news hl (hnews ad rfl) h1 h63 hbytes hbase
    refine wpList_plain hgd fun K hK => ?_
    unfold Oper.wp
    simp [execOp, ho, resolve, invoke, builtin, hs, hx, hr, Result.andThen]
    exact hK _ _ (h v' w' h2 h3 h5)
  | none =>
    have hm : m = 0 := by
      rcases Nat.eq_zero_or_pos m with h0 | h0
      · exact h0
      · exact absurd rfl (hA h0)
    subst hm
    have hn0 : news = [] := List.eq_nil_of_length_eq_zero (by omega)
    subst hn0
    exact wpList_append_none hgd s x t ho base e i size ht hi v n c xs hs hown hx (h v w (by simpa using hown) ⟨rfl, rfl, rfl, Nat.le_refl _, fun _ _ _ => rfl⟩ (.inl rfl))
end
theorem oneC_of {w : World} {base E sz n : Nat} {v : Value} {xs : List Value} (h : w.ownsRow base E sz v n xs) : v.oneCell' = true := by
  obtain ⟨A, c, rfl, _⟩ := own_form h
  rfl
theorem ndc_one {w : World} {lo E EP : Nat} {ps : List NdC} (h : OwnNs w lo E EP ps) : ∀ u ∈ ndc ps, u.oneCell' = true := by
  intro u hu
  unfold ndc at hu
  obtain ⟨p, hp, hup⟩ := List.mem_flatMap.1 hu
  obtain ⟨h1, h2, _⟩ := h.each p hp
  unfold nd6 at hup
  simp at hup
  rcases hup with rfl | rfl | rfl | rfl | rfl | rfl
  · rfl
  · rfl
  · rfl
  · rfl
  · exact oneC_of h1
  · exact oneC_of h2
theorem own_cells {w : World} {base E sz n : Nat} {A : Option Addr} {m c : Nat} {xs : List Value} (h : w.ownsRow base E sz (.slice A m c) n xs) : (0 < n → A ≠ none) ∧ ∀ ad, A = some ad → ∀ j u, xs[j]? = some u → w.cell? (ad.add j) = some u := by
  rcases h.2 with ⟨h1, h2⟩ | ⟨g, c', cur, h1, h2⟩
  · injection h1 with h1 _ _
    subst h1
    exact ⟨fun h0 => absurd h2 (by omega), fun ad hA => by cases hA⟩
  · injection h1 with e1 _ _
    subst e1
    refine ⟨fun _ => by simp, fun ad hA => ?_⟩
    injection hA with hA
    subst hA
    exact h.cells (g := g) rfl
/-- A list of nodes of the call's own, behind which others are laid. -/
theorem PartN.join {w0 w w' : World} {lo lo2 EN E EP : Nat} {v v' : Value} {ps qs : List NdC} (h1 : PartN w0 lo EN E EP v ps) (hb : Below w0.heap.size w0 w) (h2 : OwnNs w lo2 E EP qs) (hlo2 : w0.heap.size ≤ lo2) (hlo : lo ≤ lo2)
    (hg : w.grownBy w' v.ownBlock) (hown : w'.ownsRow lo EN 6 v' (ps.length + qs.length) (ndc ps ++ ndc qs)) (hat : v'.ownBlock = v.ownBlock ∨ v'.ownBlock = some w.heap.size) : PartN w' lo EN E EP v' (ps ++ qs) := by
  have R1 := h1.rows.below hb
  have hnv : ndv (ps ++ qs) = ndv ps ++ ndv qs := by unfold ndv; rw [List.flatMap_append]
  have hnc : ndc (ps ++ qs) = ndc ps ++ ndc qs := by unfold ndc; rw [List.flatMap_append]
  have key : ∀ u ∈ ndv (ps ++ qs), ∀ q, u.ownBlock = some q → v.ownBlock ≠ some q ∧ q < w.heap.size := by
    intro u hu q hq
    rw [hnv] at hu
    rcases List.mem_append.1 hu with hu | hu
    · refine ⟨fun hv => ?_, (R1.lt hu hq).2⟩
      rcases h1.far u hu with e | e
      · rw [hq] at e; cases e
      · exact e (hq.trans hv.symm)
    · have := h2.lt hu hq
      exact ⟨fun hv => by have := (h1.out.lt q hv).2; omega, this.2⟩
  have AP : (ndv (ps ++ qs)).Pairwise Far := by
    rw [hnv, List.pairwise_append]
    refine ⟨h1.rows.apart, h2.apart, fun a ha c hc => ?_⟩
    cases hva : a.ownBlock with
    | none => exact .inl hva
    | some g =>
      refine .inr fun hh => ?_
      rw [hva] at hh
      have g1 := (h1.rows.lt ha hva).2
      have g2 := (h2.lt hc hh.symm).1
      omega
  refine ⟨⟨fun p hp => ?_, AP⟩, ?_, fun u hu => ?_⟩
  · have m1 : p.2.1 ∈ ndv (ps ++ qs) := List.mem_flatMap.2 ⟨p, hp, by simp⟩
    have m2 : p.2.2 ∈ ndv (ps ++ qs) := List.mem_flatMap.2 ⟨p, hp, by simp⟩
    have a0 : OwnW w lo E EP p.1.wish p.2.1 p.2.2 := by
      rcases List.mem_append.1 hp with hp | hp
      · exact R1.each p hp
      · exact (h2.each p hp).mono hlo
    obtain ⟨a1, a2, a3⟩ := a0
    exact ⟨own_grown a1 hg (fun q hq e => (key _ m1 q hq).1 e.symm), own_grown a2 hg (fun q hq e => (key _ m2 q hq).1 e.symm), a3⟩
  · rw [hnc, List.length_append]
    exact hown
  · cases hq : u.ownBlock with
    | none => exact .inl hq
    | some q =>
      refine .inr fun hh => ?_
      rw [hq] at hh
      obtain ⟨k1, k2⟩ := key u hu q hq
      rcases hat with h3 | h3
      · exact k1 (h3.symm.trans hh.symm)
      · rw [h3] at hh
        injection hh with hh
        omega
/-- A wish that holds nothing. -/
def noWi : Wi := ⟨0, 0, 0, [], []⟩
theorem ownNs_none (w : World) (lo E EP : Nat) (op : Int) : OwnNs w lo E EP [(⟨op, noWi⟩, .slice none 0 0, .slice none 0 0)] := by
  refine ⟨fun p hp => ?_, ?_⟩
  · simp at hp
    subst hp
    exact ⟨World.ownsRow_nil w lo E 1, World.ownsRow_nil w lo EP 2, .inl rfl⟩
  · simp [ndv, Far, Value.ownBlock]
end Go.Proofs.Ytgjghpaenliliaa.M

namespace Go.Proofs.Ytgjghpaenliliaa.Wk
open Go.RowKit Go.Proofs.Ytgjghpaenliliaa.M
set_option linter.unusedVariables false
attribute [local go_sem] cell_grow

/-- Whether JoinExpressions answers, and what. -/
noncomputable def joinB (l r : List Nd) (op : Int) : Bool := P.okE l && P.okE r && decide (op = 1 ∨ op = 2 ∨ op = 4) && decide (l.length + r.length < 9)
noncomputable def joinR (l r : List Nd) (op : Int) : List Nd := if joinB l r op then l ++ r ++ [⟨op, noWi⟩] else []
section
variable {a b n m : Nat} {l r : List Nd}
theorem le63j (h1 : Hid (a = l.length)) (h2 : Hid (b = r.length)) (h3 : Hid (l.length = n)) (h4 : Hid (r.length = m)) (h : n + m < 9) : a + b ≤ maxLen := by
  have := h1.out; have := h2.out; have := h3.out; have := h4.out
  unfold maxLen; omega
theorem le63k (h1 : Hid (a = l.length)) (h2 : Hid (b = r.length)) (h3 : Hid (l.length = n)) (h4 : Hid (r.length = m)) (h : n + m < 9) : a + b + 1 ≤ maxLen := by
  have := h1.out; have := h2.out; have := h3.out; have := h4.out
  unfold maxLen; omega
theorem leByj (h1 : Hid (a = l.length)) (h2 : Hid (b = r.length)) (h3 : Hid (l.length = n)) (h4 : Hid (r.length = m)) (h : n + m < 9) : (a + b) * 80 ≤ 140737488355328 := by
  have := h1.out; have := h2.out; have := h3.out; have := h4.out
  omega
theorem leByk (h1 : Hid (a = l.length)) (h2 : Hid (b = r.length)) (h3 : Hid (l.length = n)) (h4 : Hid (r.length = m)) (h : n + m < 9) : (a + b + 1) * 80 ≤ 140737488355328 := by
  have := h1.out; have := h2.out; have := h3.out; have := h4.out
  omega
end
/-- A list of nodes of the call's own, and a truth value. -/
def RetNd2 (w : World) (l : List Nd) (b : Bool) (e : Ending) (w' : World) : Prop := ∃ v, e = .returned (.tuple #[v, .bool b]) ∧ OwnNd w' w.heap.size w'.heap.size v l ∧ Below w.heap.size w w'
theorem ownNd_part {w : World} {lo hi : Nat} {v : Value} {l : List Nd} (h : OwnNd w lo hi v l) : ∃ ps : List NdC, ps.map (·.1) = l ∧ ps.length = l.length ∧ PartN w lo 55 3 92 v ps := by
  obtain ⟨ps, h1, h2, h3, h4, h5, h6⟩ := h
  have hl : ps.length = l.length := by rw [← h1, List.length_map]
  refine ⟨ps, h1, hl, ⟨⟨fun p hp => (h2 p hp).1, h3⟩, ?_, h6⟩⟩
  rw [hl]; exact h4
theorem part_ownNd {w : World} {lo : Nat} {v : Value} {ps : List NdC} (h : PartN w lo 55 3 92 v ps) : OwnNd w lo w.heap.size v (ps.map (·.1)) :=
  ⟨ps, rfl, fun p hp => ⟨h.rows.each p hp, own_und (h.rows.each p hp).1, own_und (h.rows.each p hp).2.1⟩, h.rows.apart, by rw [List.length_map]; exact h.out, own_und h.out, h.far⟩
theorem l5CopyE {A : Option Addr} {n c : Nat} {l : List Nd} (w : World) (h : Sl RN 6 w w.heap.size A n c l) (hn : n ≤ 1048576) (hfit : ∀ x ∈ l, x.wish.list.length ≤ 1048576 ∧ x.wish.pairs.length ≤ 1048576) : Calls Try.prog 40 #[.slice A n c] w fun e w' => ∃ A2 c2 ps, e = .returned (.slice A2 ps.length c2) ∧ Hid (ps.map (·.1) = l) ∧ Hid (ps.length = l.length) ∧ Hid (PartN w' w.heap.size 55 3 92 (.slice A2 ps.length c2) ps) ∧ Below w.heap.size w w' :=
  (l5Copy w h hn hfit).mono fun e w' ⟨v, he, ho, hb⟩ => by
    obtain ⟨ps, h1, h2, h3⟩ := ownNd_part ho
    obtain ⟨A2, c2, rfl, _, _⟩ := own_form h3.out
    exact ⟨A2, c2, ps, he, h1, h2, h3, hb⟩
theorem copyNodesE {A : Option Addr} {n c : Nat} {l : List Nd} (w : World) (h : Sl RN 6 w w.heap.size A n c l) (hn : n ≤ 1048576) (hfit : ∀ x ∈ l, x.wish.list.length ≤ 1048576 ∧ x.wish.pairs.length ≤ 1048576) : Calls Try.prog 43 #[.slice A n c] w fun e w' => ∃ A2 c2 ps, e = .returned (.slice A2 ps.length c2) ∧ Hid (ps.map (·.1) = l) ∧ Hid (ps.length = l.length) ∧ Hid (PartN w' w.heap.size 55 3 92 (.slice A2 ps.length c2) ps) ∧ Below w.heap.size w w' :=
  (copyNodes w h hn hfit).mono fun e w' ⟨v, he, ho, hb⟩ => by
    obtain ⟨ps, h1, h2, h3⟩ := ownNd_part ho
    obtain ⟨A2, c2, rfl, _, _⟩ := own_form h3.out
    exact ⟨A2, c2, ps, he, h1, h2, h3, hb⟩
end Go.Proofs.Ytgjghpaenliliaa.Wk

namespace Go.Proofs.Ytgjghpaenliliaa.M
open Go Go.RowKit

/-- Nodes with their cells. -/
abbrev NdR := Nd × List Value
/-- Each node's cells, read below lo. -/
def Rd (w : World) (lo : Nat) (qs : List NdR) : Prop := ∀ p ∈ qs, p.2.length = 6 ∧ RN w lo p.1 p.2
def rdc (qs : List NdR) : List Value := qs.flatMap (·.2)
section
variable {w w' : World} {lo : Nat} {qs rs : List NdR}
theorem rdc_app : rdc (qs ++ rs) = rdc qs ++ rdc rs := by unfold rdc; rw [List.flatMap_append]
theorem rdc_len : ∀ {qs : List NdR}, (∀ p ∈ qs, p.2.length = 6) → (rdc qs).length = qs.length * 6
  | [], _ => rfl
  | a :: t, h => by
    have h1 := h a (by simp)
    have h2 := rdc_len (qs := t) (fun p hp => h p (List.mem_cons_of_mem _ hp))
    unfold rdc at *
    rw [List.flatMap_cons, List.length_append, h1, h2, List.length_cons]
    omega
theorem rdc_get : ∀ {qs : List NdR}, (∀ p ∈ qs, p.2.length = 6) → ∀ {j : Nat} {u : Value}, (rdc qs)[j]? = some u → ∃ (i r : Nat) (p : NdR), qs[i]? = some p ∧ p.2[r]? = some u ∧ j = i * 6 + r
  | [], _, j, u, h => by simp [rdc] at h
  | a :: t, hl, j, u, h => by
    have h1 := hl a (by simp)
    have e : rdc (a :: t) = a.2 ++ rdc t := by unfold rdc; rw [List.flatMap_cons]
    rw [e] at h
    by_cases hj : j < 6
    · rw [List.getElem?_append_left (by omega)] at h
      exact ⟨0, j, a, rfl, h, by omega⟩
    · rw [List.getElem?_append_right (by omega), h1] at h
      obtain ⟨i, r, p, h2, h3, h4⟩ := rdc_get (qs := t) (fun p hp => hl p (List.mem_cons_of_mem _ hp)) h
      exact ⟨i + 1, r, p, by simpa using h2, h3, by omega⟩
theorem Rd.len (h : Rd w lo qs) : (rdc qs).length = qs.length * 6 := rdc_len fun p hp => (h p hp).1
theorem Rd.app (h : Rd w lo qs) (g : Rd w lo rs) : Rd w lo (qs ++ rs) := fun p hp => by
  rcases List.mem_append.1 hp with hp | hp
  · exact h p hp
  · exact g p hp
theorem Rd.nil (w : World) (lo : Nat) : Rd w lo [] := fun p hp => absurd hp (by simp)
theorem Rd.below (h : Rd w lo qs) (hb : Below lo w w') : Rd w' lo qs := fun p hp => ⟨(h p hp).1, RN.keeps.below (h p hp).2 hb⟩
theorem Rd.one (h : Rd w lo qs) : ∀ u ∈ rdc qs, u.oneCell' = true := by
  intro u hu
  unfold rdc at hu
  obtain ⟨p, hp, hup⟩ := List.mem_flatMap.1 hu
  obtain ⟨_, cw, e, _, v, v', rfl, _, _, _, ⟨A, n, c, rfl, _⟩, ⟨E, m, d, rfl, _⟩⟩ := h p hp
  rw [e] at hup
  simp at hup
  rcases hup with rfl | rfl | rfl | rfl | rfl | rfl <;> rfl
/-- A node that holds no wish. -/
def bare (op : Int) : NdR := (⟨op, noWi⟩, [.int .i64 op, .int .i64 0, .int .i64 0, .int .i64 0, .slice none 0 0, .slice none 0 0])
theorem Rd.bare (w : World) (lo : Nat) {op : Int} (ho : Fit op) : Rd w lo [bare op] := fun p hp => by
  simp at hp
  subst hp
  exact ⟨rfl, _, rfl, ho, _, _, rfl, by simp [Fit, M.bare, noWi], by simp [Fit, M.bare, noWi], by simp [Fit, M.bare, noWi], ⟨none, 0, 0, rfl, Sl.nil _ _⟩, ⟨none, 0, 0, rfl, Sl.nil _ _⟩⟩
end
/-- A slice of nodes, cell by cell. -/
structure Src (w : World) (lo : Nat) (A : Option Addr) (m c : Nat) (qs : List NdR) : Prop where
  len : qs.length = m
  le : m ≤ c
  max : c ≤ maxLen
  rd : Rd w lo qs
  has : 0 < m → A ≠ none
  cells : ∀ ad, A = some ad → ∀ j u, (rdc qs)[j]? = some u → w.cell? (ad.add j) = some u
theorem addr_add (b o j : Nat) : (⟨b, o, none⟩ : Addr).add j = ⟨b, o + j, none⟩ := by by_cases h0 : j = 0 <;> simp [Addr.add, h0]
theorem Sl.src {w : World} {B n c : Nat} {A : Option Addr} {l : List Nd} (h : Sl RN 6 w B A n c l) : ∃ qs : List NdR, qs.map (·.1) = l ∧ Src w B A n c qs := by
  obtain ⟨qs, hl, hq⟩ := list_of n (fun i (p : NdR) => l[i]? = some p.1 ∧ p.2.length = 6 ∧ RN w B p.1 p.2 ∧ ∀ b o, A = some ⟨b, o, none⟩ → ∀ j u, p.2[j]? = some u → w.cell? ⟨b, o + (i * 6 + j), none⟩ = some u) (fun i hi => by
    obtain ⟨b, o, x, cs, e, _, hx, h1, h2, h3⟩ := h.get hi
    refine ⟨(x, cs), hx, h1, h2, fun b' o' e' j u hu => ?_⟩
    rw [e] at e'
    injection e' with e'
    injection e' with e1 e2 _
    subst e1 e2
    exact h3 j u hu)
  have h6 : ∀ p ∈ qs, p.2.length = 6 := fun p hp => by
    obtain ⟨i, hi⟩ := List.getElem?_of_mem hp
    exact (hq i p hi).2.1
  refine ⟨qs, ?_, ⟨hl, h.le, h.max, fun p hp => ?_, slI_some h, fun ad hA j u hu => ?_⟩⟩
  · apply List.ext_getElem?
    intro i
    rw [List.getElem?_map]
    cases hi : qs[i]? with
    | none =>
      have := List.getElem?_eq_none_iff.1 hi
      rw [List.getElem?_eq_none (by have := h.len; omega)]
      rfl
    | some p => exact (hq i p hi).1.symm
  · obtain ⟨i, hi⟩ := List.getElem?_of_mem hp
    exact ⟨(hq i p hi).2.1, (hq i p hi).2.2.1⟩
  · obtain ⟨i, r, p, h1, h2, h3⟩ := rdc_get h6 hu
    have hn : 0 < n := by have := (List.getElem?_eq_some_iff.1 h1).1; omega
    obtain ⟨b, o, e, _, _⟩ := h.at_ hn
    rw [e] at hA
    injection hA with hA
    subst hA
    rw [addr_add, h3]
    exact (hq i p h1).2.2.2 b o e r u h2
section
variable {w w' : World} {lo base EN m c n : Nat} {A : Option Addr} {qs rs : List NdR} {v v' : Value}
theorem Src.below (h : Src w lo A m c qs) (hb : Below w.heap.size w w') (hl : lo ≤ w.heap.size) : Src w' lo A m c qs :=
  ⟨h.len, h.le, h.max, h.rd.below (hb.mono hl), h.has, fun ad hA j u hu => by
    have := h.cells ad hA j u hu
    exact (hb.cell (cell_lt this)).trans this⟩
/-- A row of the call's own, of nodes read below lo. -/
structure Sh (w : World) (lo base EN : Nat) (v : Value) (qs : List NdR) : Prop where
  row : w.ownsRow base EN 6 v qs.length (rdc qs)
  rd : Rd w lo qs
theorem Sh.nil (w : World) (lo EN : Nat) : Sh (w.alloc (.cells #[] EN)) lo w.heap.size EN (.slice (some ⟨w.heap.size, 0, none⟩) 0 0) [] := ⟨own_emptyS w EN 6, Rd.nil _ _⟩
theorem Sh.below (h : Sh w lo base EN v qs) (hb : Below w.heap.size w w') (hl : lo ≤ w.heap.size) : Sh w' lo base EN v qs := ⟨own_below h.row hb, h.rd.below (hb.mono hl)⟩
theorem Sh.grow (h : Sh w lo base EN v qs) (g : Rd w lo rs) (hl : lo ≤ base) (hlw : base ≤ w.heap.size) (hown : w'.ownsRow base EN 6 v' (qs.length + m) (rdc qs ++ rdc rs)) (hm : rs.length = m) (hg : w.grownBy w' v.ownBlock) : Sh w' lo base EN v' (qs ++ rs) ∧ Below base w w' := by
  have hb : Below base w w' := (Below.refl base w).grown hg hlw (fun q hq => (h.row.lt q hq).1)
  refine ⟨⟨?_, (h.rd.app g).below (hb.mono hl)⟩, hb⟩
  rw [rdc_app, List.length_append, hm]
  exact hown
theorem Sh.V (h : Sh w lo base EN v qs) (hl : lo ≤ w.heap.size) : V RN 6 w w.heap.size v (qs.map (·.1)) := by
  refine own_V (css := qs.map (·.2)) (by rw [List.length_map, ← List.flatMap_def]; exact h.row) (by simp) (fun i x cs hx hc => ?_)
  rw [List.getElem?_map] at hx hc
  cases hp : qs[i]? with
  | none => rw [hp] at hx; cases hx
  | some p =>
    rw [hp] at hx hc
    simp at hx hc
    subst hx hc
    have := h.rd p (List.mem_of_getElem? hp)
    exact ⟨this.1, RN.keeps.more this.2 hl⟩
theorem Sh.src (h : Sh w lo base EN (.slice A m c) qs) : Src w lo A m c qs := by
  obtain ⟨A', c', e, h1, h2⟩ := own_form h.row
  injection e with e1 e2 e3
  subst e1 e2 e3
  obtain ⟨c1, c2⟩ := own_cells h.row
  exact ⟨rfl, h1, h2, h.rd, c1, c2⟩
end
section
variable {w w' : World} {lo EN E EP : Nat} {v v' : Value} {ps qs : List NdC}
theorem far_sep {lo : Nat} {a c : Value} (ha : ∀ g, a.ownBlock = some g → lo ≤ g) (hc : ∀ g, c.ownBlock = some g → g < lo) : Far a c ∧ Far c a := by
  constructor
  · cases h : a.ownBlock with
    | none => exact .inl h
    | some g => refine .inr fun e => ?_; rw [h] at e; have h1 := ha g h; have h2 := hc g e.symm; omega
  · cases h : c.ownBlock with
    | none => exact .inl h
    | some g => refine .inr fun e => ?_; rw [h] at e; have h1 := hc g h; have h2 := ha g e.symm; omega
/-- Rows of the call's own joined, in whatever order they were laid. -/
theorem PartN.joinG (h1 : PartN w lo EN E EP v ps) (h2 : OwnNs w lo E EP qs) (hf : ∀ a ∈ ndv ps, ∀ c ∈ ndv qs, Far a c) (hv : ∀ c ∈ ndv qs, Far c v)
    (hg : w.grownBy w' v.ownBlock) (hown : w'.ownsRow lo EN 6 v' (ps.length + qs.length) (ndc ps ++ ndc qs)) (hat : v'.ownBlock = v.ownBlock ∨ v'.ownBlock = some w.heap.size) : PartN w' lo EN E EP v' (ps ++ qs) := by
  have hnv : ndv (ps ++ qs) = ndv ps ++ ndv qs := by unfold ndv; rw [List.flatMap_append]
  have hnc : ndc (ps ++ qs) = ndc ps ++ ndc qs := by unfold ndc; rw [List.flatMap_append]
  have key : ∀ u ∈ ndv (ps ++ qs), ∀ q, u.ownBlock = some q → v.ownBlock ≠ some q ∧ q < w.heap.size := by
    intro u hu q hq
    rw [hnv] at hu
    rcases List.mem_append.1 hu with hu | hu
    · refine ⟨fun hh => ?_, (h1.rows.lt hu hq).2⟩
      rcases h1.far u hu with e | e
      · rw [hq] at e; cases e
      · exact e (hq.trans hh.symm)
    · refine ⟨fun hh => ?_, (h2.lt hu hq).2⟩
      rcases hv u hu with e | e
      · rw [hq] at e; cases e
      · exact e (hq.trans hh.symm)
  have AP : (ndv (ps ++ qs)).Pairwise Far := by
    rw [hnv, List.pairwise_append]
    exact ⟨h1.rows.apart, h2.apart, hf⟩
  refine ⟨⟨fun p hp => ?_, AP⟩, ?_, fun u hu => ?_⟩
  · have m1 : p.2.1 ∈ ndv (ps ++ qs) := List.mem_flatMap.2 ⟨p, hp, by simp⟩
    have m2 : p.2.2 ∈ ndv (ps ++ qs) := List.mem_flatMap.2 ⟨p, hp, by simp⟩
    have a0 : OwnW w lo E EP p.1.wish p.2.1 p.2.2 := by
      rcases List.mem_append.1 hp with hp | hp
      · exact h1.rows.each p hp
      · exact h2.each p hp
    obtain ⟨a1, a2, a3⟩ := a0
    exact ⟨own_grown a1 hg (fun q hq e => (key _ m1 q hq).1 e.symm), own_grown a2 hg (fun q hq e => (key _ m2 q hq).1 e.symm), a3⟩
  · rw [hnc, List.length_append]
    exact hown
  · cases hq : u.ownBlock with
    | none => exact .inl hq
    | some q =>
      refine .inr fun hh => ?_
      rw [hq] at hh
      obtain ⟨k1, k2⟩ := key u hu q hq
      rcases hat with h3 | h3
      · exact k1 (h3.symm.trans hh.symm)
      · rw [h3] at hh
        injection hh with hh
        omega
end
end Go.Proofs.Ytgjghpaenliliaa.M

namespace Go.Proofs.Ytgjghpaenliliaa.P
open Go.Proofs.Ytgjghpaenliliaa.M
set_option linter.unusedVariables false

/-- The nodes from i on, up to j. -/
def seg (l : List Nd) (i j : Nat) : List Nd := (l.drop i).take (j - i)
theorem seg_len {l : List Nd} {i j : Nat} (h : i ≤ j) (hj : j ≤ l.length) : (seg l i j).length = j - i := by unfold seg; simp; omega
/-- The operator of node i. -/
def opA (l : List Nd) (i : Nat) : Int := ((l[i]?).map (·.op)).getD 0
theorem opA_of {l : List Nd} {i : Nat} {x : Nd} (h : l[i]? = some x) : opA l i = x.op := by unfold opA; rw [h]; rfl
/-- Of a node's operator: two operands. -/
def two (op : Int) : Prop := op ≠ 0 ∧ op ≠ 3
instance (op : Int) : Decidable (two op) := by unfold two; exact inferInstance
/-- What a rule makes of the part that ends at node a. -/
noncomputable def ruleR (l : List Nd) (r : Int) (a : Nat) : Option (List Nd) :=
  if r = 1 then if opA l a = 3 ∧ opA l (a - 1) = 3 then some (seg l (startE l a) (a - 1)) else none
  else if r = 2 then if opA l a = 3 ∧ two (opA l (a - 1)) then some (seg l (startE l a) (startE l (a - 2)) ++ [⟨3, noWi⟩] ++ seg l (startE l (a - 2)) (a - 1) ++ [⟨3, noWi⟩, ⟨opA l (a - 1), noWi⟩]) else none
  else if r = 3 then if two (opA l a) ∧ seg l (startE l a) (startE l (a - 1)) = seg l (startE l (a - 1)) a then some (seg l (startE l a) (startE l (a - 1))) else none
  else if r = 4 then if opA l a = 1 ∨ opA l a = 4 then some (seg l (startE l (a - 1)) a ++ seg l (startE l a) (startE l (a - 1)) ++ [⟨opA l a, noWi⟩]) else none
  else none
/-- The part that ends at node a replaced. -/
noncomputable def putR (l : List Nd) (a : Nat) (p : List Nd) : List Nd := l.take (startE l a) ++ p ++ l.drop (a + 1)
noncomputable def applyO (l : List Nd) (r at_ : Int) : Option (List Nd) :=
  if okE l && inR at_ 0 ((l.length : Int) - 1) then (ruleR l r at_.toNat).bind fun p => if (putR l at_.toNat p).length ≤ 9 then some (putR l at_.toNat p) else none else none
noncomputable def applyB (l : List Nd) (r at_ : Int) : Bool := (applyO l r at_).isSome
noncomputable def applyR (l : List Nd) (r at_ : Int) : List Nd := (applyO l r at_).getD l
section
variable {l : List Nd}
/-- The lower depth is reached no later. -/
theorem downE_mono (h : okE l = true) (t : Nat) : ∀ i, i + 1 ≤ l.length → t + 1 ≤ Dp l (i + 1) → downE l t i ≤ downE l (t + 1) i
  | 0, _, _ => Nat.le_refl _
  | i + 1, hl, hd => by
    obtain ⟨x, hx⟩ : ∃ x, l[i + 1]? = some x := ⟨_, List.getElem?_eq_getElem (by omega)⟩
    obtain ⟨s1, _, _⟩ := dp_succ h hx
    by_cases e1 : Dp l (i + 1) + 1 = t + 1
    · rw [downE_hit (t := t + 1) e1]; exact downE_le _ _ _
    · rw [downE_miss (t := t + 1) e1]
      rw [downE_miss (t := t) (by omega)]
      exact downE_mono h t i (by omega) (by omega)
/-- A node of one operand: the part begins where its operand begins. -/
theorem start_one (h : okE l = true) {a : Nat} {x : Nd} (hx : l[a]? = some x) (ho : opnds x.op = 1) : 1 ≤ a ∧ startE l a = startE l (a - 1) := by
  obtain ⟨s1, s2, _⟩ := dp_succ h hx
  have h0 : a ≠ 0 := fun e => by subst e; rw [dp_zero] at s2; omega
  obtain ⟨b, rfl⟩ : ∃ b, a = b + 1 := ⟨a - 1, by omega⟩
  refine ⟨by omega, ?_⟩
  show startE l (b + 1) = startE l b
  unfold startE
  rw [downE_miss (by omega), show Dp l (b + 1 + 1) = Dp l (b + 1) by omega]
/-- A node of two operands: the first operand begins before the second. -/
theorem start_two (h : okE l = true) {a : Nat} {x : Nd} (hx : l[a]? = some x) (ho : opnds x.op = 2) : 1 ≤ a ∧ startE l a ≤ startE l (a - 1) := by
  obtain ⟨s1, s2, _⟩ := dp_succ h hx
  have hal := (List.getElem?_eq_some_iff.1 hx).1
  have h0 : a ≠ 0 := fun e => by subst e; rw [dp_zero] at s2; omega
  obtain ⟨b, rfl⟩ : ∃ b, a = b + 1 := ⟨a - 1, by omega⟩
  refine ⟨by omega, ?_⟩
  show startE l (b + 1) ≤ startE l b
  unfold startE
  rw [downE_miss (by omega)]
  have := downE_mono h (Dp l (b + 1 + 1)) b (by omega) (by omega)
  rwa [show Dp l (b + 1 + 1) + 1 = Dp l (b + 1) by omega] at this
theorem opnds_two {op : Int} (h : two op) : opnds op = 2 := by unfold opnds; rw [if_neg h.1, if_neg h.2]
end
theorem ruleR_mem {l p : List Nd} {r : Int} {a : Nat} (h : ruleR l r a = some p) : ∀ x ∈ p, x ∈ l ∨ x = ⟨3, noWi⟩ ∨ x = ⟨opA l a, noWi⟩ ∨ x = ⟨opA l (a - 1), noWi⟩ := by
  have sm : ∀ i j, ∀ x ∈ seg l i j, x ∈ l := fun i j x hx => List.mem_of_mem_drop (List.mem_of_mem_take hx)
  unfold ruleR at h
  intro x hx
  repeat' split at h
  all_goals (first | (cases h; done) | injection h with h)
  all_goals subst h
  · exact .inl (sm _ _ x hx)
  · simp only [List.mem_append, List.mem_cons, List.not_mem_nil, or_false] at hx
    rcases hx with ((hx | hx) | hx) | hx | hx
    · exact .inl (sm _ _ x hx)
    · exact .inr (.inl hx)
    · exact .inl (sm _ _ x hx)
    · exact .inr (.inl hx)
    · exact .inr (.inr (.inr hx))
  · exact .inl (sm _ _ x hx)
  · simp only [List.mem_append, List.mem_cons, List.not_mem_nil, or_false] at hx
    rcases hx with (hx | hx) | hx
    · exact .inl (sm _ _ x hx)
    · exact .inl (sm _ _ x hx)
    · exact .inr (.inr (.inl hx))
theorem putR_mem {l p : List Nd} {a : Nat} {x : Nd} (h : x ∈ putR l a p) : x ∈ l ∨ x ∈ p := by
  unfold putR at h
  rcases List.mem_append.1 h with h | h
  · rcases List.mem_append.1 h with h | h
    · exact .inl (List.mem_of_mem_take h)
    · exact .inr h
  · exact .inl (List.mem_of_mem_drop h)
theorem applyR_mem {l : List Nd} {r at_ : Int} {x : Nd} (h : x ∈ applyR l r at_) : x ∈ l ∨ ∃ op, x = ⟨op, noWi⟩ ∧ (op = 3 ∨ ∃ i, op = opA l i) := by
  unfold applyR at h
  cases e : applyO l r at_ with
  | none => rw [e] at h; exact .inl h
  | some q =>
    rw [e] at h
    unfold applyO at e
    split at e
    · obtain ⟨p, hp, e⟩ := Option.bind_eq_some_iff.1 e
      split at e
      · injection e with e
        subst e
        rcases putR_mem h with h | h
        · exact .inl h
        · rcases ruleR_mem hp x h with h | h | h | h
          · exact .inl h
          · exact .inr ⟨_, h, .inl rfl⟩
          · exact .inr ⟨_, h, .inr ⟨_, rfl⟩⟩
          · exact .inr ⟨_, h, .inr ⟨_, rfl⟩⟩
      · cases e
    · cases e
theorem opA_fit {l : List Nd} (h : ∀ x ∈ l, FitN x) (i : Nat) : Fit (opA l i) := by
  unfold opA
  cases e : l[i]? with
  | none => unfold Fit; simp
  | some x => exact (h x (List.mem_of_getElem? e)).1
theorem applyR_fit {l : List Nd} {r at_ : Int} (h : ∀ x ∈ l, FitN x) : ∀ x ∈ applyR l r at_, FitN x := by
  intro x hx
  rcases applyR_mem hx with hx | ⟨op, rfl, ho⟩
  · exact h x hx
  · refine ⟨?_, by unfold Fit noWi; simp, by unfold Fit noWi; simp, by unfold Fit noWi; simp, by simp [noWi], by simp [noWi]⟩
    rcases ho with rfl | ⟨i, rfl⟩
    · unfold Fit; simp
    · exact opA_fit h i
end Go.Proofs.Ytgjghpaenliliaa.P

namespace Go.Proofs.Ytgjghpaenliliaa.Wk
open Go.RowKit Go.Proofs.Ytgjghpaenliliaa.M
set_option linter.unusedVariables false
set_option linter.unusedSimpArgs false
attribute [local go_sem] cell_grow

theorem okE_seg {l : List Nd} {i k : Nat} (h : P.okE l = true) : ∀ x ∈ (l.drop i).take k, x.wish.list.length ≤ 1048576 ∧ x.wish.pairs.length ≤ 1048576 := fun x hx => okE_fit h x (List.mem_of_mem_drop (List.mem_of_mem_take hx))
/-- A part of a slice that reads as nodes. -/
theorem partAt {w : World} {A : Option Addr} {n c i j : Nat} {l : List Nd} (h : Sl RN 6 w w.heap.size A n c l) (hij : i ≤ j) (hj : j ≤ n) : Sl RN 6 w w.heap.size (if c = i then A else A.map (·.add (i * 6))) (j - i) (c - i) (P.seg l i j) := h.part hij hj
theorem headAt {w : World} {B : Nat} {A : Option Addr} {n c k : Nat} {l : List Nd} (h : Sl RN 6 w B A n c l) (hk : k ≤ n) : Sl RN 6 w B A k c (l.take k) := by
  refine ⟨by rw [List.length_take, h.len]; omega, Nat.le_trans hk h.le, h.max, fun h0 => ?_⟩
  obtain ⟨b, o, e, hlt, hc⟩ := h.at_ (by omega)
  refine ⟨b, o, e, hlt, fun i x hx => hc i x ?_⟩
  rw [List.getElem?_take] at hx
  split at hx
  · exact hx
  · cases hx
theorem nilAt (w : World) (B : Nat) (A : Option Addr) : Sl RN 6 w B A 0 0 [] := ⟨rfl, Nat.le_refl _, Nat.zero_le _, fun h => absurd h (Nat.lt_irrefl 0)⟩
theorem seg_zero (l : List Nd) (i : Nat) : P.seg l 0 i = l.take i := by unfold P.seg; rw [List.drop_zero, Nat.sub_zero]
theorem seg_end {l : List Nd} {i n : Nat} (h : l.length = n) : P.seg l i n = l.drop i := by unfold P.seg; rw [List.take_of_length_le (by rw [List.length_drop]; omega)]
set_option maxHeartbeats 1600000 in
set_option maxRecDepth 100000 in
theorem l6Replace {A E : Option Addr} {n c m d a : Nat} {l r : List Nd} (w : World) (h : Sl RN 6 w w.heap.size A n c l) (hE : P.okE l = true) (ha : a < n) (g : Sl RN 6 w w.heap.size E m d r) (hm : m ≤ 20) (hfr : ∀ x ∈ r, x.wish.list.length ≤ 1048576 ∧ x.wish.pairs.length ≤ 1048576) : Calls Try.prog 75 #[.slice A n c, .int .i64 a, .slice E m d] w (RetNd w (P.putR l a r)) := by
  obtain ⟨i0, hi, hz0, hz1, hz2⟩ := info_parts info_node
  have HL := Lib.hid h.len
  have HK := Lib.hid hE
  have hle := h.le
  have hmx := h.max
  unfold maxLen at hmx
  have hn9 : n ≤ 9 := by have := (P.okE_len hE).1; have := HL.out; omega
  obtain ⟨lo, hlo⟩ : ∃ lo, P.startE l a = lo := ⟨_, rfl⟩
  have hla : lo ≤ a := by rw [← hlo]; exact P.startE_le l a
  have HLO := Lib.hid hlo
  have HRE : Hid (P.putR l a r = l.take lo ++ r ++ l.drop (a + 1)) := by show _ = _; unfold P.putR; rw [hlo]
  have q1 : (lo : Int) ≤ (n : Int) := by omega
  have q2 : (n : Int) ≤ (c : Int) := by omega
  have q3 : (a : Int) + 1 ≤ (n : Int) := by omega
  have q4 : (lo : Int) ≤ (c : Int) := by omega
  have HFI := Lib.hid (okE_fit HK.out)
  have HG := Lib.hid g
  have HH := Lib.hid h
  have HFR := Lib.hid hfr
  have HM := Lib.hid g.len
  clear hlo
  go_enter Try.func75, Try.ntmps75
  go_wp2_with (go_at_call 76; refine (l6Start _ h HK.out ha).mono ?_; rintro e w9 ⟨rfl, rfl⟩; rw [HLO.out])
  refine (l5CopyE _ (headAt HH.out (by omega)) (by omega) (fun x hx => HFI.out x (List.mem_of_mem_take hx))).mono ?_
  rintro e w2 ⟨A1, c1, ps, rfl, M1, L1, Q1, b2⟩
  have g2 := HG.out.on RN.keeps b2
  have h2 := HH.out.on RN.keeps b2
  go_wp2_with fail
  refine (l5CopyE _ g2 (by omega) HFR.out).mono ?_
  rintro e w3 ⟨A2, c2, qs, rfl, M2, L2, Q2, b3⟩
  have hl1 : ps.length ≤ 9 := by have := L1.out; simp at this; omega
  have hl2 : qs.length ≤ 20 := by have := L2.out; have := HM.out; omega
  have h63 : ps.length + qs.length ≤ maxLen := by unfold maxLen; omega
  have hby : (ps.length + qs.length) * 80 ≤ 140737488355328 := by omega
  have hbs : w.heap.size ≤ w3.heap.size := Nat.le_trans b2.size b3.size
  have h3 := h2.on RN.keeps b3
  clear g2 h2
  go_wp2_with (at_builtin; refine append_at rfl _ _ 25 rfl w.heap.size 55 i0 _ 6 80 Try.underlying25 hi hz0 hz1 hz2 rfl (Nat.zero_lt_succ 5) _ _ _ rfl (own_below Q1.out.out b3) A2 qs.length c2 (ndc qs) rfl (ndc_len qs) (own_cells Q2.out.out).1 (own_cells Q2.out.out).2 (ndc_one Q2.out.rows) h63 hby hbs ?_)
  intro v3 w4 ho4 hg4 ha4
  have Q3 := Lib.hid (Q1.out.join b3 Q2.out.rows (Nat.le_refl _) b2.size hg4 ho4 ha4)
  have B4 : Below w.heap.size w w4 := ((b2.trans (b3.mono b2.size)).grown hg4 hbs (fun k hk => (Q1.out.out.lt k hk).1))
  obtain ⟨rs, hrs⟩ : ∃ rs, Hid (rs = ps ++ qs) := ⟨_, rfl⟩
  have hl3 : ps.length + qs.length = rs.length := by rw [hrs.out]; exact List.length_append.symm
  rw [← hrs.out] at Q3
  have h4 := Lib.hid (HH.out.on RN.keeps B4)
  have hl9 : rs.length ≤ 30 := by omega
  rw [hl3] at ho4
  obtain ⟨A3, c3, rfl, _, _⟩ := own_form ho4
  clear ho4 hg4 ha4 h63 hby hbs h3 Q1 Q2 b2 b3 hl3
  have HP := Lib.hid (h4.out.part (lo := a + 1) (hi := n) (by omega) (Nat.le_refl _))
  have fin : ∀ (A5 : Option Addr), Hid (Sl RN 6 w4 w4.heap.size A5 (n - (a + 1)) (c - (a + 1)) ((l.drop (a + 1)).take (n - (a + 1)))) → Calls Try.prog 40 #[.slice A5 (n - (a + 1)) (c - (a + 1))] w4 fun e w' => ∃ A2 c2 ps, e = .returned (.slice A2 ps.length c2) ∧ Hid (ps.map (·.1) = l.drop (a + 1)) ∧ Hid (ps.length ≤ 9) ∧ Hid (PartN w' w4.heap.size 55 3 92 (.slice A2 ps.length c2) ps) ∧ Below w4.heap.size w4 w' := fun A5 H5 =>
    (l5CopyE _ H5.out (by omega) (fun x hx => HFI.out x (List.mem_of_mem_drop (List.mem_of_mem_take hx)))).mono fun e w' ⟨A2, c2, ps, he, M, L, Q, hb⟩ => ⟨A2, c2, ps, he, by
      have hd : (l.drop (a + 1)).take (n - (a + 1)) = l.drop (a + 1) := List.take_of_length_le (by rw [List.length_drop, HL.out]; exact Nat.le_refl _)
      rw [hd] at M
      exact M, by have := L.out; simp at this; show _ ≤ _; omega, Q, hb⟩
  have FIN := Lib.hid fin
  clear fin
  by_cases hca : c = a + 1
  · have HP := Lib.hid (by have := HP.out; rwa [if_pos hca] at this)
    have hn1 : n = a + 1 := by omega
    clear FIN
    have FIN0 : Hid (∀ (H5 : Sl RN 6 w4 w4.heap.size A 0 0 []), Calls Try.prog 40 #[.slice A 0 0] w4 fun e w' => ∃ A2 c2 ps, e = .returned (.slice A2 ps.length c2) ∧ Hid (ps.map (·.1) = l.drop (a + 1)) ∧ Hid (ps.length ≤ 9) ∧ Hid (PartN w' w4.heap.size 55 3 92 (.slice A2 ps.length c2) ps) ∧ Below w4.heap.size w4 w') := fun H5 =>
      (l5CopyE _ H5 (by omega) (fun x hx => by simp at hx)).mono fun e w' ⟨A2, c2, ps, he, M, L, Q, hb⟩ => ⟨A2, c2, ps, he, by
        rw [List.drop_eq_nil_of_le (by rw [HL.out]; omega)]
        exact M, by have := L.out; simp at this; show _ ≤ _; simp [this], Q, hb⟩
    subst hca
    subst hn1
    go_wp2_with fail
    refine (FIN0.out (nilAt w4 w4.heap.size A)).mono ?_
    rintro e w5 ⟨A5, c5, ts, rfl, M5, L5, Q5, b5⟩
    have hl5 := L5.out
    have h63 : rs.length + ts.length ≤ maxLen := by unfold maxLen; omega
    have hby : (rs.length + ts.length) * 80 ≤ 140737488355328 := by omega
    have hbs : w.heap.size ≤ w5.heap.size := Nat.le_trans B4.size b5.size
    go_wp2_with (at_builtin; refine append_at rfl _ _ 25 rfl w.heap.size 55 i0 _ 6 80 Try.underlying25 hi hz0 hz1 hz2 rfl (Nat.zero_lt_succ 5) _ _ _ rfl (own_below Q3.out.out b5) A5 ts.length c5 (ndc ts) rfl (ndc_len ts) (own_cells Q5.out.out).1 (own_cells Q5.out.out).2 (ndc_one Q5.out.rows) h63 hby hbs ?_)
    intro v6 w6 ho6 hg6 ha6
    have Q6 := Lib.hid (Q3.out.join b5 Q5.out.rows (Nat.le_refl _) B4.size hg6 ho6 ha6)
    have B6 : Below w.heap.size w w6 := ((B4.trans (b5.mono B4.size)).grown hg6 hbs (fun k hk => (Q3.out.out.lt k hk).1))
    go_wp2
    go_ret
    refine ⟨_, rfl, ?_, B6⟩
    rw [HRE.out]
    have := part_ownNd Q6.out
    rw [List.map_append, hrs.out, List.map_append, M1.out, M2.out, M5.out] at this
    exact this
  · have HP := Lib.hid (by have := HP.out; rwa [if_neg hca] at this)
    go_wp2_with fail
    refine (FIN.out _ HP).mono ?_
    rintro e w5 ⟨A5, c5, ts, rfl, M5, L5, Q5, b5⟩
    have hl5 := L5.out
    have h63 : rs.length + ts.length ≤ maxLen := by unfold maxLen; omega
    have hby : (rs.length + ts.length) * 80 ≤ 140737488355328 := by omega
    have hbs : w.heap.size ≤ w5.heap.size := Nat.le_trans B4.size b5.size
    go_wp2_with (at_builtin; refine append_at rfl _ _ 25 rfl w.heap.size 55 i0 _ 6 80 Try.underlying25 hi hz0 hz1 hz2 rfl (Nat.zero_lt_succ 5) _ _ _ rfl (own_below Q3.out.out b5) A5 ts.length c5 (ndc ts) rfl (ndc_len ts) (own_cells Q5.out.out).1 (own_cells Q5.out.out).2 (ndc_one Q5.out.rows) h63 hby hbs ?_)
    intro v6 w6 ho6 hg6 ha6
    have Q6 := Lib.hid (Q3.out.join b5 Q5.out.rows (Nat.le_refl _) B4.size hg6 ho6 ha6)
    have B6 : Below w.heap.size w w6 := ((B4.trans (b5.mono B4.size)).grown hg6 hbs (fun k hk => (Q3.out.out.lt k hk).1))
    go_wp2
    go_ret
    refine ⟨_, rfl, ?_, B6⟩
    rw [HRE.out]
    have := part_ownNd Q6.out
    rw [List.map_append, hrs.out, List.map_append, M1.out, M2.out, M5.out] at this
    exact this
end Go.Proofs.Ytgjghpaenliliaa.Wk

namespace Go.Proofs.Ytgjghpaenliliaa.M
open Go Go.RowKit

/-- From w to w' of the old blocks only p has turned. -/
structure Dr (p : Nat) (w w' : World) : Prop where
  os : w'.os = w.os
  tape : w'.tape = w.tape
  output : w'.output = w.output
  size : w.heap.size ≤ w'.heap.size
  block : ∀ b, b < w.heap.size → b ≠ p → w'.heap[b]? = w.heap[b]?
section
variable {w w' w'' : World} {p B base E sz n : Nat} {v : Value} {xs : List Value}
theorem Dr.refl (p : Nat) (w : World) : Dr p w w := ⟨rfl, rfl, rfl, Nat.le_refl _, fun _ _ _ => rfl⟩
theorem Dr.trans (h : Dr p w w') (h' : Dr p w' w'') : Dr p w w'' := ⟨h'.os.trans h.os, h'.tape.trans h.tape, h'.output.trans h.output, Nat.le_trans h.size h'.size, fun b hb hp => (h'.block b (Nat.lt_of_lt_of_le hb h.size) hp).trans (h.block b hb hp)⟩
theorem Dr.of_below (h : Below B w w') (hB : w.heap.size ≤ B) : Dr p w w' := ⟨h.os, h.tape, h.output, h.size, fun b hb _ => h.block b (Nat.lt_of_lt_of_le hb hB)⟩
theorem Dr.alloc (h : Dr p w w') (o : Obj) : Dr p w (w'.alloc o) := h.trans (Dr.of_below ((Below.refl _ _).alloc (Nat.le_refl _) o) (Nat.le_refl _))
theorem Dr.setCell (h : Dr p w w') {a : Addr} (ha : a.block = p) (u : Value) : Dr p w (w'.setCell a u) :=
  h.trans ⟨rfl, rfl, rfl, by simp, fun b _ hb => Below.heap_setCell w' a u b (by rintro rfl; exact hb ha)⟩
theorem Dr.below (h : Dr p w w') (hB : B ≤ p) (hs : B ≤ w.heap.size) : Below B w w' := ⟨h.os, h.tape, h.output, h.size, fun b hb => h.block b (by omega) (by omega)⟩
/-- A new block is written: nothing that was there turns. -/
theorem Dr.new (h : Dr p w w') {a : Addr} (ha : w.heap.size ≤ a.block) (u : Value) : Dr p w (w'.setCell a u) :=
  ⟨h.os, h.tape, h.output, by simp; exact h.size, fun b hb hp => (Below.heap_setCell w' a u b (by rintro rfl; omega)).trans (h.block b hb hp)⟩
theorem Dr.grown {row : Option Nat} (h : Dr p w w') (hg : w'.grownBy w'' row) (hr : ∀ k, row = some k → w.heap.size ≤ k) : Dr p w w'' := by
  have hb := (Below.refl w.heap.size w').grown hg h.size hr
  exact ⟨hb.os.trans h.os, hb.tape.trans h.tape, hb.output.trans h.output, Nat.le_trans h.size hb.size, fun b hb2 hp => (hb.block b hb2).trans (h.block b hb2 hp)⟩
/-- .. and the row that grew may be an old one, where only what is below is spoken of. -/
theorem Dr.from (h : Dr p w w') (h0 : Below B w'' w) : B ≤ p → B ≤ w.heap.size → Below B w'' w' := fun h1 h2 => h0.trans (h.below h1 h2)
theorem own_dr (h : w.ownsRow base E sz v n xs) (ho : Dr p w w') (hb : ∀ g, v.ownBlock = some g → g ≠ p) : w'.ownsRow base E sz v n xs := by
  obtain ⟨h1, h2⟩ := h
  refine ⟨h1, ?_⟩
  rcases h2 with h2 | ⟨g, c, cur, a1, a2, a3, a4⟩
  · exact .inl h2
  · refine .inr ⟨g, c, cur, a1, a2, (ho.block g ?_ (hb g (by rw [a1]; rfl))).trans a3, a4⟩
    rcases Nat.lt_or_ge g w.heap.size with h5 | h5
    · exact h5
    · rw [Array.getElem?_eq_none h5] at a3; cases a3
/-- A row from beyond p on. -/
theorem own_dr_past (h : w.ownsRow base E sz v n xs) (ho : Dr p w w') (hb : p < base) : w'.ownsRow base E sz v n xs := own_dr h ho fun g hg => by have := (h.lt g hg).1; omega
theorem Row.dr {g : Nat} (h : Row w g E xs) (ho : Dr p w w') (hg : g ≠ p) : Row w' g E xs := ⟨(ho.block g h.lt hg).trans h.is⟩
theorem Dr.cell {b o : Nat} {u : Value} (ho : Dr p w w') (h : w.cell? ⟨b, o, none⟩ = some u) (hb : b ≠ p) : w'.cell? ⟨b, o, none⟩ = some u := by
  rw [World.cell?_of_block (w := w) (ho.block b (World.block_lt_of_cell? w _ h) hb)]; exact h
theorem Dr.sl {α : Type} {R : Rep α} {c : Nat} {A : Option Addr} {l : List α} (ho : Dr p w w') (K : Keeps R) (h : Sl R sz w B A n c l) (h1 : B ≤ p) (h2 : B ≤ w.heap.size) : Sl R sz w' B A n c l := h.below K (ho.below h1 h2)
end
end Go.Proofs.Ytgjghpaenliliaa.M

namespace Go.Proofs.Ytgjghpaenliliaa.M
open Go Go.RowKit
set_option linter.unusedVariables false

/-- Elements with their cells. -/
def gcs {α : Type} (qs : List (α × List Value)) : List Value := qs.flatMap (·.2)
/-- An element that reads by R as long as its own rows stand. -/
structure El {α : Type} (R : Rep α) (sz : Nat) (w : World) (base : Nat) (p : α × List Value) : Prop where
  len : p.2.length = sz
  one : ∀ u ∈ p.2, u.oneCell' = true
  at_ : ∀ u ∈ p.2, ∀ g, u.ownBlock = some g → base ≤ g ∧ g < w.heap.size
  rd : ∀ w' : World, w.heap.size ≤ w'.heap.size → (∀ u ∈ p.2, ∀ g, u.ownBlock = some g → w'.heap[g]? = w.heap[g]?) → R w' w'.heap.size p.1 p.2
structure PartG {α : Type} (R : Rep α) (sz : Nat) (w : World) (base E : Nat) (v : Value) (qs : List (α × List Value)) : Prop where
  row : w.ownsRow base E sz v qs.length (gcs qs)
  el : ∀ p ∈ qs, El R sz w base p
  far : ∀ p ∈ qs, ∀ u ∈ p.2, ∀ g, u.ownBlock = some g → v.ownBlock ≠ some g
section
variable {α : Type} {R : Rep α} {sz p base base' E m : Nat} {w w' : World} {v v' : Value} {q : α × List Value} {qs rs : List (α × List Value)}
theorem gcs_app : gcs (qs ++ rs) = gcs qs ++ gcs rs := by unfold gcs; rw [List.flatMap_append]
theorem gcs_one (q : α × List Value) : gcs [q] = q.2 := by unfold gcs; simp
theorem gcs_len : ∀ {qs : List (α × List Value)}, (∀ p ∈ qs, p.2.length = sz) → (gcs qs).length = qs.length * sz
  | [], _ => by simp [gcs]
  | a :: t, h => by
    have h1 := h a (by simp)
    have h2 := gcs_len (qs := t) (fun p hp => h p (List.mem_cons_of_mem _ hp))
    unfold gcs at *
    rw [List.flatMap_cons, List.length_append, h1, h2, List.length_cons, Nat.add_mul]
    omega
theorem own_same {n : Nat} {xs : List Value} (h : w.ownsRow base E sz v n xs) (ho : ∀ g, v.ownBlock = some g → w'.heap[g]? = w.heap[g]?) : w'.ownsRow base E sz v n xs := by
  obtain ⟨h1, h2⟩ := h
  refine ⟨h1, ?_⟩
  rcases h2 with h2 | ⟨g, c, cur, a1, a2, a3, a4⟩
  · exact .inl h2
  · exact .inr ⟨g, c, cur, a1, a2, (ho g (by rw [a1]; rfl)).trans a3, a4⟩
theorem El.on (h : El R sz w base q) (hs : w.heap.size ≤ w'.heap.size) (ho : ∀ u ∈ q.2, ∀ g, u.ownBlock = some g → w'.heap[g]? = w.heap[g]?) : El R sz w' base q :=
  ⟨h.len, h.one, fun u hu g hg => ⟨(h.at_ u hu g hg).1, Nat.lt_of_lt_of_le (h.at_ u hu g hg).2 hs⟩, fun w'' hs2 h2 => h.rd w'' (Nat.le_trans hs hs2) fun u hu g hg => (h2 u hu g hg).trans (ho u hu g hg)⟩
theorem El.dr (h : El R sz w base q) (hd : Dr p w w') (hp : p < base) : El R sz w' base q :=
  h.on hd.size fun u hu g hg => by have := h.at_ u hu g hg; exact hd.block g this.2 (by omega)
theorem El.below (h : El R sz w base q) (hb : Below w.heap.size w w') : El R sz w' base q := h.on hb.size fun u hu g hg => hb.block g (h.at_ u hu g hg).2
theorem El.mono (h : El R sz w base q) (hb : base' ≤ base) : El R sz w base' q := ⟨h.len, h.one, fun u hu g hg => by have := h.at_ u hu g hg; omega, h.rd⟩
theorem PartG.nil (w : World) (E : Nat) : PartG (α := α) R sz (w.alloc (.cells #[] E)) w.heap.size E (.slice (some ⟨w.heap.size, 0, none⟩) 0 0) [] := ⟨own_emptyS w E sz, fun p hp => absurd hp (by simp), fun p hp => absurd hp (by simp)⟩
theorem PartG.dr (h : PartG R sz w base E v qs) (hd : Dr p w w') (hp : p < base) : PartG R sz w' base E v qs := ⟨own_dr_past h.row hd hp, fun q hq => (h.el q hq).dr hd hp, h.far⟩
theorem PartG.below (h : PartG R sz w base E v qs) (hb : Below w.heap.size w w') : PartG R sz w' base E v qs := ⟨own_below h.row hb, fun q hq => (h.el q hq).below hb, h.far⟩
theorem PartG.mono (h : PartG R sz w base E v qs) (hb : base' ≤ base) : PartG R sz w base' E v qs := ⟨own_mono h.row hb, fun q hq => (h.el q hq).mono hb, h.far⟩
theorem PartG.len (h : PartG R sz w base E v qs) : (gcs qs).length = qs.length * sz := gcs_len fun p hp => (h.el p hp).len
theorem PartG.one (h : PartG R sz w base E v qs) : ∀ u ∈ gcs qs, u.oneCell' = true := by
  intro u hu
  unfold gcs at hu
  obtain ⟨p, hp, hup⟩ := List.mem_flatMap.1 hu
  exact (h.el p hp).one u hup
/-- Others are laid behind. -/
theorem PartG.join (h : PartG R sz w base E v qs) (g : ∀ p ∈ rs, El R sz w base p) (hf : ∀ p ∈ rs, ∀ u ∈ p.2, ∀ g, u.ownBlock = some g → v.ownBlock ≠ some g) (hm : rs.length = m)
    (hg : w.grownBy w' v.ownBlock) (hown : w'.ownsRow base E sz v' (qs.length + m) (gcs qs ++ gcs rs)) (hat : v'.ownBlock = v.ownBlock ∨ v'.ownBlock = some w.heap.size) : PartG R sz w' base E v' (qs ++ rs) := by
  have key : ∀ p ∈ qs ++ rs, El R sz w base p ∧ ∀ u ∈ p.2, ∀ g, u.ownBlock = some g → v.ownBlock ≠ some g := by
    intro p hp
    rcases List.mem_append.1 hp with hp | hp
    · exact ⟨h.el p hp, h.far p hp⟩
    · exact ⟨g p hp, hf p hp⟩
  refine ⟨?_, fun p hp => ?_, fun p hp u hu k hk => ?_⟩
  · rw [gcs_app, List.length_append, hm]; exact hown
  · obtain ⟨k1, k2⟩ := key p hp
    exact k1.on hg.size fun u hu k hk => hg.block k (k1.at_ u hu k hk).2 fun e => k2 u hu k hk e.symm
  · obtain ⟨k1, k2⟩ := key p hp
    rcases hat with e | e
    · rw [e]; exact k2 u hu k hk
    · rw [e]
      intro e2
      injection e2 with e2
      have := (k1.at_ u hu k hk).2
      omega
theorem PartG.V (h : PartG R sz w base E v qs) : V R sz w w.heap.size v (qs.map (·.1)) := by
  refine own_V (css := qs.map (·.2)) (by rw [List.length_map, ← List.flatMap_def]; exact h.row) (by simp) (fun i x cs hx hc => ?_)
  rw [List.getElem?_map] at hx hc
  cases hp : qs[i]? with
  | none => rw [hp] at hx; cases hx
  | some q =>
    rw [hp] at hx hc
    simp at hx hc
    subst hx hc
    have := h.el q (List.mem_of_getElem? hp)
    exact ⟨this.len, this.rd w (Nat.le_refl _) fun _ _ _ _ => rfl⟩
/-- One element in a block of its own. -/
theorem PartG.new (h : El R sz w base q) (hb : base ≤ w.heap.size) : PartG R sz (w.alloc (.cells q.2.toArray E)) base E (.slice (some ⟨w.heap.size, 0, none⟩) 1 1) [q] := by
  refine ⟨?_, fun p hp => ?_, fun p hp u hu k hk e => ?_⟩
  · have := (Row.new w E q.2).own (sz := sz) (m := 1) hb (by rw [h.len, Nat.one_mul]) (by unfold maxLen; omega)
    rw [gcs_one]; exact this
  · simp at hp; subst hp
    exact h.below ((Below.refl w.heap.size w).alloc (Nat.le_refl _) _)
  · simp at hp; subst hp
    have := (h.at_ u hu k hk).2
    simp [Value.ownBlock] at e
    omega
/-- Another row has grown. -/
theorem PartG.grown {row : Option Nat} (h : PartG R sz w base E v qs) (hg : w.grownBy w' row) (hne : ∀ k, row = some k → k < base ∨ w.heap.size ≤ k) : PartG R sz w' base E v qs := by
  have ne : ∀ g, base ≤ g → g < w.heap.size → some g ≠ row := fun g h1 h2 e => by have := hne g e.symm; omega
  exact ⟨own_same h.row fun g hg2 => hg.block g (h.row.lt g hg2).2 (ne g (h.row.lt g hg2).1 (h.row.lt g hg2).2), fun q hq => (h.el q hq).on hg.size fun u hu g hg2 => by
    obtain ⟨h1, h2⟩ := (h.el q hq).at_ u hu g hg2
    exact hg.block g h2 (ne g h1 h2), h.far⟩
theorem PartG.block (h : PartG R sz w base E v qs) {k : Nat} (hk : v.ownBlock = some k) : base ≤ k ∧ k < w.heap.size := h.row.lt k hk
end
/-! ### the elements -/
theorem elNode {w : World} {base E EP : Nat} {x : Nd} {u v : Value} (h : OwnW w base E EP x.wish u v) (hf : FitN x) : El RN 6 w base (x, nd6 (x, u, v)) := by
  obtain ⟨h1, h2, _⟩ := h
  obtain ⟨f0, f1, f2, f3, f4, f5⟩ := hf
  obtain ⟨A, c, e1, _, _⟩ := own_form h1
  obtain ⟨D, d, e2, _, _⟩ := own_form h2
  refine ⟨rfl, ?_, ?_, fun w' hs ho => ?_⟩
  · intro z hz
    simp [nd6] at hz
    rcases hz with rfl | rfl | rfl | rfl | rfl | rfl
    · rfl
    · rfl
    · rfl
    · rfl
    · rw [e1]; rfl
    · rw [e2]; rfl
  · intro z hz g hg
    simp [nd6] at hz
    rcases hz with rfl | rfl | rfl | rfl | rfl | rfl
    · cases hg
    · cases hg
    · cases hg
    · cases hg
    · exact h1.lt g hg
    · exact h2.lt g hg
  · have k1 := own_same h1 (fun g hg => ho u (by simp [nd6]) g hg)
    have k2 := own_same h2 (fun g hg => ho v (by simp [nd6]) g hg)
    exact ⟨_, rfl, f0, _, _, rfl, f1, f2, f3, own_ints k1 f4, own_pairs k2 f5⟩
/-- A node that holds no wish. -/
theorem elBare (w : World) (base E EP : Nat) {x : Nd} (hx : x.wish = ⟨0, 0, 0, [], []⟩) (ho : Fit x.op) : El RN 6 w base (x, [.int .i64 x.op, .int .i64 0, .int .i64 0, .int .i64 0, .slice none 0 0, .slice none 0 0]) := by
  have := elNode (w := w) (base := base) (E := E) (EP := EP) (x := x) (u := .slice none 0 0) (v := .slice none 0 0) (by rw [hx]; exact ⟨World.ownsRow_nil w base E 1, World.ownsRow_nil w base EP 2, .inl rfl⟩) ⟨ho, by rw [hx]; exact ⟨by unfold Fit; simp, by unfold Fit; simp, by unfold Fit; simp, by simp, by simp⟩⟩
  unfold nd6 at this
  rw [hx] at this
  exact this
theorem elItem {w : World} {base E : Nat} {x : It} {u : Value} (h : w.ownsRow base E 1 u x.vals.length (x.vals.map (Value.int .i64))) (hf : Fit x.id ∧ ∀ y ∈ x.vals, Fit y) : El RIt 2 w base (x, [.int .i64 x.id, u]) := by
  obtain ⟨A, c, e1, _, _⟩ := own_form h
  refine ⟨rfl, ?_, ?_, fun w' hs ho => ?_⟩
  · intro z hz
    simp at hz
    rcases hz with rfl | rfl
    · rfl
    · rw [e1]; rfl
  · intro z hz g hg
    simp at hz
    rcases hz with rfl | rfl
    · cases hg
    · exact h.lt g hg
  · have k1 := own_same h (fun g hg => ho u (by simp) g hg)
    exact ⟨_, rfl, hf.1, own_ints k1 hf.2⟩
/-- What reads as a list, whatever becomes of the blocks below base. -/
def DrV {α : Type} (R : Rep α) (sz base : Nat) (w : World) (v : Value) (l : List α) : Prop := ∀ w' : World, w.heap.size ≤ w'.heap.size → (∀ b, base ≤ b → b < w.heap.size → w'.heap[b]? = w.heap[b]?) → V R sz w' w'.heap.size v l
section
variable {α : Type} {R : Rep α} {sz p base base' E : Nat} {w w' : World} {v : Value} {l : List α} {qs : List (α × List Value)}
theorem DrV.on (h : DrV R sz base w v l) (hs : w.heap.size ≤ w'.heap.size) (ho : ∀ b, base ≤ b → b < w.heap.size → w'.heap[b]? = w.heap[b]?) : DrV R sz base w' v l :=
  fun w'' h1 h2 => h w'' (Nat.le_trans hs h1) fun b h3 h4 => (h2 b h3 (Nat.lt_of_lt_of_le h4 hs)).trans (ho b h3 h4)
theorem DrV.dr (h : DrV R sz base w v l) (hd : Dr p w w') (hp : p < base) : DrV R sz base w' v l := h.on hd.size fun b h1 h2 => hd.block b h2 (by omega)
theorem DrV.set (h : DrV R sz base w v l) {a : Addr} (ha : a.block < base) (u : Value) : DrV R sz base (w.setCell a u) v l := h.on (by simp) fun b h1 _ => Below.heap_setCell w a u b (by rintro rfl; omega)
theorem DrV.below (h : DrV R sz base w v l) (hb : Below w.heap.size w w') : DrV R sz base w' v l := h.on hb.size fun b _ h2 => hb.block b h2
theorem DrV.mono (h : DrV R sz base w v l) (hb : base' ≤ base) : DrV R sz base' w v l := fun w' h1 h2 => h w' h1 fun b h3 h4 => h2 b (by omega) h4
theorem DrV.now (h : DrV R sz base w v l) : V R sz w w.heap.size v l := h w (Nat.le_refl _) fun _ _ _ => rfl
theorem PartG.on (h : PartG R sz w base E v qs) (hs : w.heap.size ≤ w'.heap.size) (ho : ∀ b, base ≤ b → b < w.heap.size → w'.heap[b]? = w.heap[b]?) : PartG R sz w' base E v qs :=
  ⟨own_same h.row fun g hg => ho g (h.row.lt g hg).1 (h.row.lt g hg).2, fun q hq => (h.el q hq).on hs fun u hu g hg => ho g ((h.el q hq).at_ u hu g hg).1 ((h.el q hq).at_ u hu g hg).2, h.far⟩
theorem PartG.drV (h : PartG R sz w base E v qs) : DrV R sz base w v (qs.map (·.1)) := fun w' h1 h2 => (h.on h1 h2).V
end
end Go.Proofs.Ytgjghpaenliliaa.M

namespace Go.Proofs.Ytgjghpaenliliaa.P
open Go.Proofs.Ytgjghpaenliliaa.M
set_option linter.unusedVariables false

/-- What becomes of the whole when a rule is tried at node a. -/
noncomputable def ruO (l : List Nd) (r : Int) (a : Nat) : Option (List Nd) := (ruleR l r a).bind fun p => if (putR l a p).length ≤ 9 then some (putR l a p) else none
section
variable {l : List Nd} {r : Int} {a : Nat}
theorem putR_len {p : List Nd} (ha : a < l.length) : (putR l a p).length + (a + 1) = startE l a + p.length + l.length := by
  have := startE_le l a
  unfold putR
  simp
  omega
theorem ruO_of {p : List Nd} (h : ruleR l r a = some p) (hl : (putR l a p).length ≤ 9) : ruO l r a = some (putR l a p) := by unfold ruO; rw [h]; simp [hl]
theorem ruO_long {p : List Nd} (h : ruleR l r a = some p) (hl : ¬ (putR l a p).length ≤ 9) : ruO l r a = none := by unfold ruO; rw [h]; simp; omega
theorem ruO_none (h : ruleR l r a = none) : ruO l r a = none := by unfold ruO; rw [h]; rfl
theorem ruO_short {p : List Nd} (hE : okE l = true) (ha : a < l.length) (h : ruleR l r a = some p) (hl : startE l a + p.length ≤ a + 1) : ruO l r a = some (putR l a p) := by
  refine ruO_of h ?_
  have := putR_len (p := p) ha
  have := (okE_len hE).1
  omega
theorem ruO_len {q : List Nd} (h : ruO l r a = some q) : q.length ≤ 9 := by
  unfold ruO at h
  obtain ⟨p, hp, e⟩ := Option.bind_eq_some_iff.1 h
  split at e
  · injection e with e; subst e; assumption
  · cases e
/-! ### the rules -/
theorem r1_yes (h1 : opA l a = 3) (h2 : opA l (a - 1) = 3) : ruleR l 1 a = some (seg l (startE l a) (a - 1)) := by unfold ruleR; rw [if_pos rfl, if_pos ⟨h1, h2⟩]
theorem r1_no (h : ¬ (opA l a = 3 ∧ opA l (a - 1) = 3)) : ruleR l 1 a = none := by unfold ruleR; rw [if_pos rfl, if_neg h]
theorem r2_yes (h1 : opA l a = 3) (h2 : two (opA l (a - 1))) : ruleR l 2 a = some (seg l (startE l a) (startE l (a - 2)) ++ [⟨3, noWi⟩] ++ seg l (startE l (a - 2)) (a - 1) ++ [⟨3, noWi⟩, ⟨opA l (a - 1), noWi⟩]) := by unfold ruleR; rw [if_neg (by decide), if_pos rfl, if_pos ⟨h1, h2⟩]
theorem r2_no (h : ¬ (opA l a = 3 ∧ two (opA l (a - 1)))) : ruleR l 2 a = none := by unfold ruleR; rw [if_neg (by decide), if_pos rfl, if_neg h]
theorem r3_yes (h1 : two (opA l a)) (h2 : seg l (startE l a) (startE l (a - 1)) = seg l (startE l (a - 1)) a) : ruleR l 3 a = some (seg l (startE l a) (startE l (a - 1))) := by unfold ruleR; rw [if_neg (by decide), if_neg (by decide), if_pos rfl, if_pos ⟨h1, h2⟩]
theorem r3_no (h : ¬ (two (opA l a) ∧ seg l (startE l a) (startE l (a - 1)) = seg l (startE l (a - 1)) a)) : ruleR l 3 a = none := by unfold ruleR; rw [if_neg (by decide), if_neg (by decide), if_pos rfl, if_neg h]
theorem r4_yes (h : opA l a = 1 ∨ opA l a = 4) : ruleR l 4 a = some (seg l (startE l (a - 1)) a ++ seg l (startE l a) (startE l (a - 1)) ++ [⟨opA l a, noWi⟩]) := by unfold ruleR; rw [if_neg (by decide), if_neg (by decide), if_neg (by decide), if_pos rfl, if_pos h]
theorem r4_no (h : ¬ (opA l a = 1 ∨ opA l a = 4)) : ruleR l 4 a = none := by unfold ruleR; rw [if_neg (by decide), if_neg (by decide), if_neg (by decide), if_pos rfl, if_neg h]
theorem rn_no (h1 : r ≠ 1) (h2 : r ≠ 2) (h3 : r ≠ 3) (h4 : r ≠ 4) : ruleR l r a = none := by unfold ruleR; rw [if_neg h1, if_neg h2, if_neg h3, if_neg h4]
theorem r0_no (h : opA l a = 0) : ruleR l r a = none := by
  unfold ruleR two
  rw [h]
  simp
theorem op_bd (hE : okE l = true) {x : Nd} (hx : l[a]? = some x) : 0 ≤ x.op ∧ x.op ≤ 4 := by
  have h := (okE_at hE hx).1
  unfold okN at h
  rw [Bool.and_eq_true] at h
  exact inR_t h.1
/-- The end of a node with a part of it put in its place by nothing longer. -/
theorem seg_one (h : startE l a ≤ a) : (seg l (startE l a) a).length ≤ a - startE l a := by unfold seg; simp; omega
theorem len_le (l : List Nd) (i j : Nat) : (seg l i j).length ≤ j - i := by unfold seg; simp; omega
theorem seg_le9 (hE : okE l = true) (i j : Nat) : (seg l i j).length ≤ 9 := by
  have h := (okE_len hE).1
  unfold seg
  rw [List.length_take, List.length_drop]
  omega
theorem ruleR_len {p : List Nd} (hE : okE l = true) (h : ruleR l r a = some p) : p.length ≤ 21 := by
  have s9 := seg_le9 hE
  unfold ruleR at h
  repeat' split at h
  all_goals (first | (cases h; done) | injection h with h)
  all_goals subst h
  · have := s9 (startE l a) (a - 1); omega
  · have := s9 (startE l a) (startE l (a - 2)); have := s9 (startE l (a - 2)) (a - 1); simp only [List.length_append, List.length_cons, List.length_nil]; omega
  · have := s9 (startE l a) (startE l (a - 1)); omega
  · have := s9 (startE l a) (startE l (a - 1)); have := s9 (startE l (a - 1)) a; simp only [List.length_append, List.length_cons, List.length_nil]; omega
end
end Go.Proofs.Ytgjghpaenliliaa.P

namespace Go.Proofs.Ytgjghpaenliliaa.Wk
open Go.RowKit Go.Proofs.Ytgjghpaenliliaa.M
set_option linter.unusedVariables false
set_option linter.unusedSimpArgs false
attribute [local go_sem] cell_grow

theorem partG_of {w : World} {lo : Nat} {v : Value} {ps : List NdC} (h : PartN w lo 55 3 92 v ps) (hf : ∀ x ∈ ps.map (·.1), FitN x) : PartG RN 6 w lo 55 v (ps.map fun p => (p.1, nd6 p)) := by
  have e : gcs (ps.map fun p => (p.1, nd6 p)) = ndc ps := by unfold gcs ndc; rw [List.flatMap_map]
  refine ⟨by rw [e, List.length_map]; exact h.out, fun q hq => ?_, fun q hq u hu g hg hv => ?_⟩
  · obtain ⟨p, hp, rfl⟩ := List.mem_map.1 hq
    exact elNode (x := p.1) (u := p.2.1) (v := p.2.2) (h.rows.each p hp) (hf _ (List.mem_map.2 ⟨p, hp, rfl⟩))
  · obtain ⟨p, hp, rfl⟩ := List.mem_map.1 hq
    have hm : u ∈ ndv ps := by
      unfold nd6 at hu
      simp at hu
      rcases hu with rfl | rfl | rfl | rfl | rfl | rfl
      · cases hg
      · cases hg
      · cases hg
      · cases hg
      · exact List.mem_flatMap.2 ⟨p, hp, by simp⟩
      · exact List.mem_flatMap.2 ⟨p, hp, by simp⟩
    rcases h.far u hm with h1 | h1
    · rw [hg] at h1; cases h1
    · exact h1 (hg.trans hv.symm)
theorem fit_seg {w : World} {B n c i k : Nat} {A : Option Addr} {l : List Nd} (h : Sl RN 6 w B A n c l) : ∀ x ∈ (l.drop i).take k, FitN x := fun x hx => fitNs h x (List.mem_of_mem_drop (List.mem_of_mem_take hx))
theorem l5CopyG {A : Option Addr} {n c : Nat} {l : List Nd} (w : World) (h : Sl RN 6 w w.heap.size A n c l) (hn : n ≤ 1048576) (hfit : ∀ x ∈ l, x.wish.list.length ≤ 1048576 ∧ x.wish.pairs.length ≤ 1048576) : Calls Try.prog 40 #[.slice A n c] w fun e w' => ∃ (A2 : Option Addr) (c2 : Nat) (qs : List (Nd × List Value)), e = .returned (.slice A2 qs.length c2) ∧ Hid (qs.map (·.1) = l) ∧ Hid (PartG RN 6 w' w.heap.size 55 (.slice A2 qs.length c2) qs) ∧ Below w.heap.size w w' :=
  (l5CopyE w h hn hfit).mono fun e w' ⟨A2, c2, ps, he, M, L, Q, hb⟩ => by
    have hm : (ps.map fun p => (p.1, nd6 p)).map (·.1) = l := by rw [List.map_map]; exact M.out
    have hG := partG_of Q.out (fun x hx => fitNs h x (by rw [← M.out]; exact hx))
    have hl : (ps.map fun p => (p.1, nd6 p)).length = ps.length := List.length_map ..
    rw [← hl] at he hG
    exact ⟨A2, c2, _, he, hm, hG, hb⟩
/-- Both operands, each in rows of the call's own, the first below the second. -/
def RetPt (w : World) (l r : List Nd) (e : Ending) (w' : World) : Prop := ∃ (A1 : Option Addr) (c1 : Nat) (ps : List (Nd × List Value)) (A2 : Option Addr) (c2 : Nat) (qs : List (Nd × List Value)) (H : Nat), e = .returned (.tuple #[.slice A1 ps.length c1, .slice A2 qs.length c2]) ∧ Hid (ps.map (·.1) = l) ∧ Hid (qs.map (·.1) = r) ∧ Hid (PartG RN 6 w' w.heap.size 55 (.slice A1 ps.length c1) ps) ∧ Hid (PartG RN 6 w' H 55 (.slice A2 qs.length c2) qs) ∧ Hid ((∀ g, (Value.slice A1 ps.length c1).ownBlock = some g → g < H) ∧ ∀ p ∈ ps, ∀ u ∈ p.2, ∀ g, u.ownBlock = some g → g < H) ∧ (w.heap.size ≤ H ∧ H ≤ w'.heap.size) ∧ Below w.heap.size w w'
set_option maxHeartbeats 1600000 in
set_option maxRecDepth 100000 in
theorem l6Parts {A : Option Addr} {n c b : Nat} {x : Int} {l : List Nd} (w : World) (h : Sl RN 6 w w.heap.size A n c l) (hE : P.okE l = true) (hx : x = (b : Int) + 1) (hb : b + 1 < n) (hs : P.startE l (b + 1) ≤ P.startE l b) : Calls Try.prog 77 #[.slice A n c, .int .i64 x] w (RetPt w (P.seg l (P.startE l (b + 1)) (P.startE l b)) (P.seg l (P.startE l b) (b + 1))) := by
  have HL := Lib.hid h.len
  have HK := Lib.hid hE
  have hle := h.le
  have hmx := h.max
  unfold maxLen at hmx
  have hn9 : n ≤ 9 := by have := (P.okE_len hE).1; have := HL.out; omega
  have HFI := Lib.hid (okE_fit HK.out)
  obtain ⟨f, hf⟩ : ∃ f, P.startE l (b + 1) = f := ⟨_, rfl⟩
  obtain ⟨m, hm⟩ : ∃ m, P.startE l b = m := ⟨_, rfl⟩
  have hmb : m ≤ b := by rw [← hm]; exact P.startE_le l b
  rw [hf, hm] at hs ⊢
  have HSF := Lib.hid hf
  have HSM := Lib.hid hm
  have bd : Below w.heap.size w w.drew := (Below.refl _ _).drew
  have hD := h.on RN.keeps bd
  have HD := Lib.hid hD
  have hcf : c ≠ f := by omega
  have hcm : c ≠ m := by omega
  have P1 := Lib.hid (by have := partAt hD (i := f) (j := m) hs (by omega); rwa [if_neg hcf] at this)
  have P2 := Lib.hid (by have := partAt hD (i := m) (j := b + 1) (by omega) (by omega); rwa [if_neg hcm] at this)
  have S0 : Hid (∀ w : World, Sl RN 6 w w.heap.size A n c l → Calls Try.prog 76 #[.slice A n c, .int .i64 (b : Int)] w fun e w' => e = .returned (.int .i64 (m : Int)) ∧ w = w') := fun w h => by rw [← HSM.out]; exact l6Start w h HK.out (by omega)
  have S1 : Hid (∀ w : World, Sl RN 6 w w.heap.size A n c l → Calls Try.prog 76 #[.slice A n c, .int .i64 x] w fun e w' => e = .returned (.int .i64 (f : Int)) ∧ w = w') := fun w h => by rw [← HSF.out, hx]; exact l6Start (a := b + 1) w h HK.out hb
  have C1 := Lib.hid (l5CopyG _ P1.out (by omega) (fun y hy => HFI.out y (List.mem_of_mem_drop (List.mem_of_mem_take hy))))
  have C2 : Hid (∀ w2 : World, Below w.drew.heap.size w.drew w2 → Calls Try.prog 40 #[.slice (A.map fun y => y.add (m * 6)) (b + 1 - m) (c - m)] w2 fun e w' => ∃ (A2 : Option Addr) (c2 : Nat) (qs : List (Nd × List Value)), e = .returned (.slice A2 qs.length c2) ∧ Hid (qs.map (·.1) = P.seg l m (b + 1)) ∧ Hid (PartG RN 6 w' w2.heap.size 55 (.slice A2 qs.length c2) qs) ∧ Below w2.heap.size w2 w') := fun w2 h2 => l5CopyG _ (P2.out.on RN.keeps h2) (by omega) (fun y hy => HFI.out y (List.mem_of_mem_drop (List.mem_of_mem_take hy)))
  have hx1 : x - 1 = (b : Int) := by omega
  have hx2 : x.toNat = b + 1 := by omega
  have q1 : (f : Int) ≤ (m : Int) := by omega
  have q2 : (m : Int) ≤ x := by omega
  have q3 : x ≤ (n : Int) := by omega
  have q4 : (m : Int) ≤ (n : Int) := by omega
  have q5 : (n : Int) ≤ (c : Int) := by omega
  have q6 : x ≤ (c : Int) := by omega
  have q7 : (m : Int) ≤ (c : Int) := by omega
  have HH := Lib.hid h
  clear hx hf hm h hD bd hmx
  go_enter Try.func77, Try.ntmps77
  go_wp2_with fail
  refine (S0.out _ HH.out).mono ?_
  rintro e w9 ⟨rfl, rfl⟩
  go_wp2_with fail
  go_region_held3 (fun _ => True) (trivial) (first | (go_simp; go_at_call 76; with_reducible (refine (S1.out _ HD.out).mono ?_); rintro e w9 ⟨rfl, rfl⟩) | (go_simp; go_at_call 40; with_reducible (refine C1.out.mono ?_); rintro e w4 ⟨A1, c1, ps, rfl, M1, G1, b4⟩) | (go_simp; go_at_call 40; with_reducible (refine (C2.out _ b4).mono ?_); rintro e w5 ⟨A2, c2, qs, rfl, M2, G2, b5⟩))
  have G3 := (G1.out.below b5)
  have z4 := b4.size
  have z5 := b5.size
  have B5 : Below w.heap.size w w5 := ((Below.refl w.heap.size w).drew).trans (b4.trans (b5.mono b4.size))
  have SEP : Hid ((∀ g, (Value.slice A1 ps.length c1).ownBlock = some g → g < w4.heap.size) ∧ ∀ p ∈ ps, ∀ u ∈ p.2, ∀ g, u.ownBlock = some g → g < w4.heap.size) := ⟨fun g hg => (G1.out.block hg).2, fun p hp u hu g hg => ((G1.out.el p hp).at_ u hu g hg).2⟩
  go_wp2
  go_ret2
  exact ⟨A1, c1, ps, A2, c2, qs, w4.heap.size, rfl, M1, M2, G3, G2, SEP, ⟨z4, z5⟩, B5⟩
end Go.Proofs.Ytgjghpaenliliaa.Wk

namespace Go.Proofs.Ytgjghpaenliliaa.Wk
open Go.RowKit Go.Proofs.Ytgjghpaenliliaa.M
set_option linter.unusedVariables false
set_option linter.unusedSimpArgs false
attribute [local go_sem] cell_grow

theorem newCells (w : World) (E : TypeId) (xs : List Value) : ∀ j u, xs[j]? = some u → (w.alloc (.cells xs.toArray E)).cell? ((⟨w.heap.size, 0, none⟩ : Addr).add j) = some u := fun j u hu => by
  rw [addr_add, Nat.zero_add]; exact ((Row.new w E xs).cell j).trans hu
theorem ones12 (p q : Int) : ∀ u ∈ [Value.int .i64 p, .int .i64 0, .int .i64 0, .int .i64 0, .slice none 0 0, .slice none 0 0, .int .i64 q, .int .i64 0, .int .i64 0, .int .i64 0, .slice none 0 0, .slice none 0 0], u.oneCell' = true := by
  intro u hu
  simp at hu
  rcases hu with rfl | rfl | rfl | rfl | rfl | rfl | rfl | rfl | rfl | rfl | rfl | rfl <;> rfl
/-- A node without a wish, with its cells. -/
def bN (op : Int) : Nd × List Value := (⟨op, noWi⟩, [.int .i64 op, .int .i64 0, .int .i64 0, .int .i64 0, .slice none 0 0, .slice none 0 0])
theorem elB (w : World) (base : Nat) {op : Int} (ho : Fit op) : El RN 6 w base (bN op) := elBare w base 3 92 (x := ⟨op, noWi⟩) rfl ho
theorem farB (op : Int) {v : Value} : ∀ u ∈ (bN op).2, ∀ g, u.ownBlock = some g → v.ownBlock ≠ some g := fun u hu g hg => by
  unfold bN at hu
  simp at hu
  rcases hu with rfl | rfl | rfl | rfl | rfl | rfl <;> cases hg
section
variable {w w' : World} {base : Nat} {v v' : Value} {qs : List (Nd × List Value)} {op op2 : Int}
theorem addB (P : PartG RN 6 w base 55 v qs) (ho : Fit op) {o : Obj} (hg : (w.alloc o).grownBy w' v.ownBlock) (hown : w'.ownsRow base 55 6 v' (qs.length + 1) (gcs qs ++ (bN op).2)) (hat : v'.ownBlock = v.ownBlock ∨ v'.ownBlock = some (w.heap.size + 1)) : PartG RN 6 w' base 55 v' (qs ++ [bN op]) :=
  (P.below ((Below.refl w.heap.size w).alloc (Nat.le_refl _) o)).join (rs := [bN op]) (fun q hq => by simp at hq; subst hq; exact elB _ _ ho) (fun q hq => by simp at hq; subst hq; exact farB op) rfl hg (by rw [gcs_one]; exact hown) (by rw [World.size_alloc]; exact hat)
theorem addB2 (P : PartG RN 6 w base 55 v qs) (ho : Fit op) (ho2 : Fit op2) {o : Obj} (hg : (w.alloc o).grownBy w' v.ownBlock) (hown : w'.ownsRow base 55 6 v' (qs.length + 2) (gcs qs ++ ((bN op).2 ++ (bN op2).2))) (hat : v'.ownBlock = v.ownBlock ∨ v'.ownBlock = some (w.heap.size + 1)) : PartG RN 6 w' base 55 v' (qs ++ [bN op, bN op2]) :=
  (P.below ((Below.refl w.heap.size w).alloc (Nat.le_refl _) o)).join (rs := [bN op, bN op2]) (fun q hq => by simp at hq; rcases hq with rfl | rfl; exact elB _ _ ho; exact elB _ _ ho2) (fun q hq => by simp at hq; rcases hq with rfl | rfl; exact farB op; exact farB op2) rfl hg (by rw [show gcs [bN op, bN op2] = (bN op).2 ++ (bN op2).2 by unfold gcs; simp]; exact hown) (by rw [World.size_alloc]; exact hat)
theorem slG {A : Option Addr} {c : Nat} (P : PartG RN 6 w base 55 (.slice A qs.length c) qs) : Sl RN 6 w w.heap.size A qs.length c (qs.map (·.1)) := by
  obtain ⟨A', n', c', e, hS⟩ := P.V
  injection e with e1 e2 e3
  subst e1 e2 e3
  exact hS
end
/-- What a rule tried answers. -/
def RuRet (w : World) (o : Option (List Nd)) (e : Ending) (w' : World) : Prop := match o with
  | none => (∃ v, e = .returned (.tuple #[v, .bool false])) ∧ Below w.heap.size w w'
  | some q => ∃ v, e = .returned (.tuple #[v, .bool true]) ∧ OwnNd w' w.heap.size w'.heap.size v q ∧ Below w.heap.size w w'
theorem partS {w : World} {b o n c i j : Nat} {l : List Nd} (h : Sl RN 6 w w.heap.size (some ⟨b, o, none⟩) n c l) (hij : i ≤ j) (hj : j ≤ n) (hc : c ≠ i) : Sl RN 6 w w.heap.size (some ⟨b, o + i * 6, none⟩) (j - i) (c - i) (P.seg l i j) := by
  have := partAt h hij hj
  rwa [if_neg hc, Option.map_some, addr_add] at this
theorem mem_fit {l p : List Nd} (hl : ∀ x ∈ l, x.wish.list.length ≤ 1048576 ∧ x.wish.pairs.length ≤ 1048576) (hp : ∀ x ∈ p, x ∈ l ∨ x.wish = noWi) : ∀ x ∈ p, x.wish.list.length ≤ 1048576 ∧ x.wish.pairs.length ≤ 1048576 := fun x hx => by
  rcases hp x hx with h | h
  · exact hl x h
  · rw [h]; simp [noWi]
theorem seg_mem {l : List Nd} {i j : Nat} : ∀ x ∈ P.seg l i j, x ∈ l := fun x hx => List.mem_of_mem_drop (List.mem_of_mem_take hx)
section
variable {A : Option Addr} {n c a : Nat} {l : List Nd} {r : Int}
set_option maxHeartbeats 1600000 in
set_option maxRecDepth 100000 in
theorem l6Rule1 (w : World) (h : Sl RN 6 w w.heap.size A n c l) (hE : P.okE l = true) (ha : a < n) : Calls Try.prog 41 #[.slice A n c, .int .i64 1, .int .i64 a] w (RuRet w (P.ruO l 1 a)) := by
  obtain ⟨i0, hi, hz0, hz1, hz2⟩ := info_parts info_node
  have HL := Lib.hid h.len
  have HK := Lib.hid hE
  have hle := h.le
  have hmx := h.max
  unfold maxLen at hmx
  have hn9 : n ≤ 9 := by have := (P.okE_len hE).1; have := HL.out; omega
  obtain ⟨b, o, x, A1, n1, d1, E1, m1, d2, eA, hb, hx, hf, hs, ht1, g0, g1, g2, g3, g4, g5⟩ := nodeAt h ha
  have HOP : Hid (P.opA l a = x.op) := P.opA_of hx
  have HX := Lib.hid hx
  obtain ⟨ob0, ob1⟩ := P.op_bd hE hx
  have hal : a < l.length := by have := HL.out; omega
  have hac : (a : Int) < (n : Int) := by omega
  have hnc : (n : Int) ≤ (c : Int) := by omega
  have HFI := Lib.hid (okE_fit HK.out)
  have HH := Lib.hid h
  subst eA
  clear g1 g2 g3 g4 g5 hs ht1 hf hx hE h hmx
  by_cases h3 : x.op = 3
  · have t3 : (x.op == 3) = true := by simpa using h3
    obtain ⟨hs1, hs2⟩ := P.start_one HK.out HX.out (by rw [h3]; rfl)
    have ha1 : 1 ≤ a := hs1
    obtain ⟨b', o', y, _, _, _, _, _, _, eB, _, hy, _, _, _, k0, _, _, _, _, _⟩ := nodeAt HH.out (show a - 1 < n by omega)
    injection eB with eB
    injection eB with eB1 eB2 _
    subst eB1 eB2
    have HOY : Hid (P.opA l (a - 1) = y.op) := P.opA_of hy
    have HY := Lib.hid hy
    obtain ⟨oy0, oy1⟩ := P.op_bd HK.out hy
    have hi1 : ((a : Int) - 1).toNat = a - 1 := by omega
    have hi2 : (0 : Int) ≤ (a : Int) - 1 := by omega
    have hi3 : (a : Int) - 1 < (n : Int) := by omega
    clear hy
    by_cases h4 : y.op = 3
    · have t4 : (y.op == 3) = true := by simpa using h4
      obtain ⟨f, hf⟩ : ∃ f, P.startE l a = f := ⟨_, rfl⟩
      have HSF := Lib.hid hf
      have S1 : Hid (∀ w : World, Sl RN 6 w w.heap.size (some ⟨b, o, none⟩) n c l → Calls Try.prog 76 #[.slice (some ⟨b, o, none⟩) n c, .int .i64 (a : Int)] w fun e w' => e = .returned (.int .i64 (f : Int)) ∧ w = w') := fun w h => by rw [← HSF.out]; exact l6Start w h HK.out ha
      have hfa : f ≤ a - 1 := by rw [← hf, hs2]; exact P.startE_le _ _
      have HO : Hid (P.ruO l 1 a = some (P.putR l a (P.seg l f (a - 1)))) := by
        show _ = _
        rw [← hf]
        refine P.ruO_short HK.out hal (P.r1_yes (HOP.out.trans h3) (HOY.out.trans h4)) ?_
        have := P.len_le l (P.startE l a) (a - 1)
        omega
      have q1 : (f : Int) ≤ (a : Int) - 1 := by omega
      have q2 : (a : Int) - 1 ≤ (c : Int) := by omega
      have hcf : c ≠ f := by omega
      have GP := Lib.hid (partS HH.out hfa (show a - 1 ≤ n by omega) hcf)
      clear h3 h4 hs2 hf HY HX HOP HOY
      go_enter Try.func41, Try.ntmps41
      go_wp2_with (go_at_call 76; refine (S1.out _ HH.out).mono ?_; rintro e w9 ⟨rfl, rfl⟩)
      with_reducible refine (l6Replace _ HH.out HK.out ha GP.out (by omega) (mem_fit HFI.out (fun x hx => .inl (seg_mem x hx)))).mono ?_
      rintro e w2 ⟨v, rfl, ho, b2⟩
      go_wp2
      go_ret2
      rw [HO.out]
      exact ⟨v, rfl, ho, b2⟩
    · have t4 : (y.op == 3) = false := by simpa using h4
      have HO : Hid (P.ruO l 1 a = none) := P.ruO_none (P.r1_no (fun e => h4 (HOY.out.symm.trans e.2)))
      go_enter Try.func41, Try.ntmps41
      go_wp2
      go_ret2
      rw [HO.out]
      exact ⟨⟨_, rfl⟩, Below.refl _ _⟩
  · have t3 : (x.op == 3) = false := by simpa using h3
    have HO : Hid (P.ruO l 1 a = none) := P.ruO_none (P.r1_no (fun e => h3 (HOP.out.symm.trans e.1)))
    go_enter Try.func41, Try.ntmps41
    go_wp2
    go_ret2
    rw [HO.out]
    exact ⟨⟨_, rfl⟩, Below.refl _ _⟩
set_option maxHeartbeats 1600000 in
set_option maxRecDepth 100000 in
theorem l6Rule2 (w : World) (h : Sl RN 6 w w.heap.size A n c l) (hE : P.okE l = true) (ha : a < n) : Calls Try.prog 41 #[.slice A n c, .int .i64 2, .int .i64 a] w (RuRet w (P.ruO l 2 a)) := by
  obtain ⟨i0, hi, hz0, hz1, hz2⟩ := info_parts info_node
  have HL := Lib.hid h.len
  have HK := Lib.hid hE
  have hle := h.le
  have hmx := h.max
  unfold maxLen at hmx
  have hn9 : n ≤ 9 := by have := (P.okE_len hE).1; have := HL.out; omega
  obtain ⟨b, o, x, A1, n1, d1, E1, m1, d2, eA, hb, hx, hf, hs, ht1, g0, g1, g2, g3, g4, g5⟩ := nodeAt h ha
  have HOP : Hid (P.opA l a = x.op) := P.opA_of hx
  have HX := Lib.hid hx
  obtain ⟨ob0, ob1⟩ := P.op_bd hE hx
  have hal : a < l.length := by have := HL.out; omega
  have hac : (a : Int) < (n : Int) := by omega
  have hnc : (n : Int) ≤ (c : Int) := by omega
  have HFI := Lib.hid (okE_fit HK.out)
  have HH := Lib.hid h
  subst eA
  clear g1 g2 g3 g4 g5 hs ht1 hf hx hE h hmx
  by_cases h3 : x.op = 3
  · have t3 : (x.op == 3) = true := by simpa using h3
    obtain ⟨hs1, hs2⟩ := P.start_one HK.out HX.out (by rw [h3]; rfl)
    have ha1 : 1 ≤ a := hs1
    obtain ⟨b', o', y, _, _, _, _, _, _, eB, _, hy, _, _, _, k0, _, _, _, _, _⟩ := nodeAt HH.out (show a - 1 < n by omega)
    injection eB with eB
    injection eB with eB1 eB2 _
    subst eB1 eB2
    have HOY : Hid (P.opA l (a - 1) = y.op) := P.opA_of hy
    have HY := Lib.hid hy
    obtain ⟨oy0, oy1⟩ := P.op_bd HK.out hy
    have hi1 : ((a : Int) - 1).toNat = a - 1 := by omega
    have hi2 : (0 : Int) ≤ (a : Int) - 1 := by omega
    have hi3 : (a : Int) - 1 < (n : Int) := by omega
    clear hy
    by_cases h4 : P.two y.op
    · have t4 : (y.op != 0) = true := by simpa using h4.1
      have t5 : (y.op != 3) = true := by simpa using h4.2
      have HE1 := HOP.out.trans h3
      have HE2 := HOY.out
      obtain ⟨hq1, hq2⟩ := P.start_two HK.out HY.out (P.opnds_two h4)
      have ha2 : 2 ≤ a := by omega
      obtain ⟨f, hf⟩ : ∃ f, P.startE l a = f := ⟨_, rfl⟩
      obtain ⟨s, hs⟩ : ∃ s, P.startE l (a - 2) = s := ⟨_, rfl⟩
      have hsa : s ≤ a - 2 := by rw [← hs]; exact P.startE_le _ _
      have hfs : f ≤ s := by rw [← hf, ← hs, hs2]; exact hq2
      have HRR : Hid (P.ruleR l 2 a = some (P.seg l f s ++ [⟨3, noWi⟩] ++ P.seg l s (a - 1) ++ [⟨3, noWi⟩, ⟨y.op, noWi⟩])) := by
        show _ = _
        rw [P.r2_yes HE1 (by rw [HE2]; exact h4), hf, hs, HE2]
      have PT : Hid (∀ w : World, Sl RN 6 w w.heap.size (some ⟨b, o, none⟩) n c l → Calls Try.prog 77 #[.slice (some ⟨b, o, none⟩) n c, .int .i64 ((a : Int) - 1)] w (RetPt w (P.seg l f s) (P.seg l s (a - 1)))) := fun w h => by
        have := l6Parts (x := (a : Int) - 1) (b := a - 2) w h HK.out (by omega) (by omega) (by rw [show a - 2 + 1 = a - 1 by omega]; exact hq2)
        rwa [show a - 2 + 1 = a - 1 by omega, ← hs2, hf, hs] at this
      have fy : Fit y.op := by unfold Fit; omega
      have f3 : Fit 3 := by unfold Fit; omega
      have hfl : (P.seg l f s).length + (P.seg l s (a - 1)).length ≤ 9 := by have := P.len_le l f s; have := P.len_le l s (a - 1); omega
      clear h3 h4 hs2 hf hs HX HOP HOY HE1 HE2 HY hq1 hq2
      go_enter Try.func41, Try.ntmps41
      go_wp2_with fail
      with_reducible refine (PT.out _ HH.out).mono ?_
      rintro e w2 ⟨E1, e1, ps, E2, e2, qs, H, rfl, M1, M2, G1, G2, SEP, HB, b2⟩
      have hps : ps.length = (P.seg l f s).length := by rw [← M1.out, List.length_map]
      have hqs : qs.length = (P.seg l s (a - 1)).length := by rw [← M2.out, List.length_map]
      have hl2 : ps.length + qs.length ≤ 9 := by omega
      have h63 : ps.length + 1 ≤ maxLen := by unfold maxLen; omega
      have hby : (ps.length + 1) * 80 ≤ 140737488355328 := by omega
      have hb2 : ∀ o : Obj, w.heap.size ≤ (w2.alloc o).heap.size := fun o => by rw [World.size_alloc]; have := b2.size; omega
      have hB2 := Lib.hid b2
      clear b2 hps hqs hfl
      go_wp2_with (at_builtin; refine append_at rfl _ _ 25 rfl w.heap.size 55 i0 _ 6 80 Try.underlying25 hi hz0 hz1 hz2 rfl (Nat.zero_lt_succ 5) _ _ _ rfl (G1.out.row.alloc _) (some ⟨w2.heap.size, 0, none⟩) 1 1 [.int .i64 3, .int .i64 0, .int .i64 0, .int .i64 0, .slice none 0 0, .slice none 0 0] rfl rfl (fun _ => by simp) (fun ad hA => by injection hA with hA; subst hA; exact newCells _ _ _) (ones6 rfl rfl rfl rfl rfl rfl) h63 hby (hb2 _) ?_)
      intro v3 w3 ho3 hg3 ha3
      have X3 := Lib.hid (addB G1.out f3 hg3 ho3 ha3)
      have R3 := Lib.hid ((G2.out.below ((Below.refl w2.heap.size w2).alloc (Nat.le_refl _) _)).grown hg3 (fun k hk => .inl (SEP.out.1 k hk)))
      have B3 := Lib.hid ((hB2.out.alloc hB2.out.size _).grown hg3 (hb2 _) (fun k hk => (G1.out.block hk).1))
      have F3 : Hid (∀ p ∈ qs, ∀ u ∈ p.2, ∀ g, u.ownBlock = some g → v3.ownBlock ≠ some g) := fun p hp u hu g hg e => by
        have k1 := (G2.out.el p hp).at_ u hu g hg
        rcases ha3 with ha3 | ha3
        · have := SEP.out.1 g (ha3.symm.trans e); omega
        · rw [ha3] at e; injection e with e; omega
      obtain ⟨ts, hts⟩ : ∃ ts, Hid (ts = ps ++ [bN 3]) := ⟨_, rfl⟩
      have htl : ps.length + 1 = ts.length := by rw [hts.out]; simp
      rw [← hts.out] at X3
      rw [htl] at ho3
      obtain ⟨A3, c3, rfl, _, _⟩ := own_form ho3
      have h63b : ts.length + qs.length ≤ maxLen := by unfold maxLen; omega
      have hbyb : (ts.length + qs.length) * 80 ≤ 140737488355328 := by omega
      have hb3 : w.heap.size ≤ w3.heap.size := B3.out.size
      have hH : w.heap.size ≤ H := HB.1
      clear ho3 hg3 ha3 h63 hby hb2 G1 G2 SEP hB2
      go_wp2_with (at_builtin; refine append_at rfl _ _ 25 rfl w.heap.size 55 i0 _ 6 80 Try.underlying25 hi hz0 hz1 hz2 rfl (Nat.zero_lt_succ 5) _ _ _ rfl X3.out.row E2 qs.length e2 (gcs qs) rfl R3.out.len (own_cells R3.out.row).1 (own_cells R3.out.row).2 R3.out.one h63b hbyb hb3 ?_)
      intro v4 w4 ho4 hg4 ha4
      have X4 := Lib.hid (X3.out.join (fun p hp => (R3.out.el p hp).mono hH) F3.out rfl hg4 ho4 ha4)
      have B4 := Lib.hid (B3.out.grown hg4 hb3 (fun k hk => (X3.out.block hk).1))
      obtain ⟨us, hus⟩ : ∃ us, Hid (us = ts ++ qs) := ⟨_, rfl⟩
      have hul : ts.length + qs.length = us.length := by rw [hus.out]; simp
      rw [← hus.out] at X4
      rw [hul] at ho4
      obtain ⟨A4, c4, rfl, _, _⟩ := own_form ho4
      have h63c : us.length + 2 ≤ maxLen := by unfold maxLen; omega
      have hbyc : (us.length + 2) * 80 ≤ 140737488355328 := by omega
      have hb4 : ∀ o : Obj, w.heap.size ≤ (w4.alloc o).heap.size := fun o => by rw [World.size_alloc]; have := B4.out.size; omega
      have k4 := (cell_of B4.out b (o + (a - 1) * 6) hb).trans k0
      have hbw4 : b < w4.heap.size := by have := B4.out.size; omega
      clear ho4 hg4 ha4 h63b hbyb hb3 X3 R3 F3 B3
      go_wp2_with (at_builtin; refine append_at rfl _ _ 25 rfl w.heap.size 55 i0 _ 6 80 Try.underlying25 hi hz0 hz1 hz2 rfl (Nat.zero_lt_succ 5) _ _ _ rfl (X4.out.row.alloc _) (some ⟨w4.heap.size, 0, none⟩) 2 2 [.int .i64 3, .int .i64 0, .int .i64 0, .int .i64 0, .slice none 0 0, .slice none 0 0, .int .i64 y.op, .int .i64 0, .int .i64 0, .int .i64 0, .slice none 0 0, .slice none 0 0] rfl rfl (fun _ => by simp) (fun ad hA => by injection hA with hA; subst hA; exact newCells _ _ _) (ones12 _ _) h63c hbyc (hb4 _) ?_)
      intro v5 w5 ho5 hg5 ha5
      have X5 := Lib.hid (addB2 X4.out f3 fy hg5 ho5 ha5)
      have B5 := Lib.hid ((B4.out.alloc B4.out.size _).grown hg5 (hb4 _) (fun k hk => (X4.out.block hk).1))
      obtain ⟨zs, hzs⟩ : ∃ zs, Hid (zs = us ++ [bN 3, bN y.op]) := ⟨_, rfl⟩
      have hzl : us.length + 2 = zs.length := by rw [hzs.out]; simp
      rw [← hzs.out] at X5
      rw [hzl] at ho5
      obtain ⟨A5, c5, rfl, _, _⟩ := own_form ho5
      have HP : Hid (zs.map (·.1) = P.seg l f s ++ [⟨3, noWi⟩] ++ P.seg l s (a - 1) ++ [⟨3, noWi⟩, ⟨y.op, noWi⟩]) := by
        show _ = _
        rw [hzs.out, hus.out, hts.out, List.map_append, List.map_append, List.map_append, M1.out, M2.out]
        rfl
      have hzn : zs.length ≤ 20 := by omega
      have h5 := HH.out.on RN.keeps B5.out
      clear ho5 hg5 ha5 h63c hbyc hb4 X4 B4 hts hus hzs M1 M2
      go_wp2_with fail
      with_reducible refine (l6Replace _ h5 HK.out ha (slG X5.out) hzn (by
        rw [HP.out]
        refine mem_fit HFI.out (fun z hz => ?_)
        simp only [List.mem_append, List.mem_cons, List.not_mem_nil, or_false] at hz
        rcases hz with ((hz | hz) | hz) | hz | hz
        · exact .inl (seg_mem z hz)
        · exact .inr (by rw [hz])
        · exact .inl (seg_mem z hz)
        · exact .inr (by rw [hz])
        · exact .inr (by rw [hz]))).mono ?_
      rw [HP.out]
      rintro e w6 ⟨v, rfl, ho, b6⟩
      obtain ⟨q0, hP⟩ : ∃ q0 : List Nd, Hid (P.putR l a (P.seg l f s ++ [(⟨3, noWi⟩ : Nd)] ++ P.seg l s (a - 1) ++ [(⟨3, noWi⟩ : Nd), (⟨y.op, noWi⟩ : Nd)]) = q0) := ⟨_, rfl⟩
      rw [hP.out] at ho
      have B6 := B5.out.trans (b6.mono B5.out.size)
      have hov := ownNd_mono ho (B5.out.size)
      obtain ⟨ks, hk1, hk2, hk3⟩ := ownNd_part ho
      obtain ⟨A6, c6, rfl, _, _⟩ := own_form hk3.out
      by_cases hlen : q0.length ≤ 9
      · have t9 : (ks.length : Int) ≤ 9 := by omega
        have HO : Hid (P.ruO l 2 a = some q0) := by
          show _ = _
          rw [← hP.out]
          exact P.ruO_of HRR.out (by rw [hP.out]; exact hlen)
        clear ho hk1 hk2 hk3
        go_wp2
        go_ret2
        rw [HO.out]
        exact ⟨.slice A6 ks.length c6, by first | rfl | (simp [t9]; done), hov, B6⟩
      · have t9 : ¬ (ks.length : Int) ≤ 9 := by omega
        have HO : Hid (P.ruO l 2 a = none) := P.ruO_long HRR.out (by rw [hP.out]; exact hlen)
        clear ho hk1 hk2 hk3
        go_wp2
        go_ret2
        rw [HO.out]
        exact ⟨⟨.slice A6 ks.length c6, by first | rfl | (simp [t9]; done)⟩, B6⟩
    · by_cases h5 : y.op = 0
      · have t4 : (y.op != 0) = false := by simp [h5]
        have HO : Hid (P.ruO l 2 a = none) := P.ruO_none (P.r2_no (fun e => h4 (by rw [← HOY.out]; exact e.2)))
        go_enter Try.func41, Try.ntmps41
        go_wp2
        go_ret2
        rw [HO.out]
        exact ⟨⟨_, rfl⟩, Below.refl _ _⟩
      · have h6 : y.op = 3 := Classical.byContradiction fun e => h4 ⟨h5, e⟩
        have t4 : (y.op != 0) = true := by simpa using h5
        have t5 : (y.op != 3) = false := by simp [h6]
        have HO : Hid (P.ruO l 2 a = none) := P.ruO_none (P.r2_no (fun e => h4 (by rw [← HOY.out]; exact e.2)))
        go_enter Try.func41, Try.ntmps41
        go_wp2
        go_ret2
        rw [HO.out]
        exact ⟨⟨_, rfl⟩, Below.refl _ _⟩
  · have t3 : (x.op == 3) = false := by simpa using h3
    have HO : Hid (P.ruO l 2 a = none) := P.ruO_none (P.r2_no (fun e => h3 (HOP.out.symm.trans e.1)))
    go_enter Try.func41, Try.ntmps41
    go_wp2
    go_ret2
    rw [HO.out]
    exact ⟨⟨_, rfl⟩, Below.refl _ _⟩
end
end Go.Proofs.Ytgjghpaenliliaa.Wk

namespace Go.Proofs.Ytgjghpaenliliaa.Wk
open Go.RowKit Go.Proofs.Ytgjghpaenliliaa.M
set_option linter.unusedVariables false
set_option linter.unusedSimpArgs false
attribute [local go_sem] cell_grow

theorem part_up2 {w w' : World} {lo hi : Nat} {v : Value} {l : List Nd} (h : OwnNd w lo hi v l) (hb : Below w.heap.size w w') : OwnNd w' lo w'.heap.size v l := by
  obtain ⟨ps, h1, _, h3⟩ := ownNd_part h
  rw [← h1]
  exact part_ownNd (h3.below hb)
section
variable {A : Option Addr} {n c a : Nat} {l : List Nd} {r : Int}
set_option maxHeartbeats 1600000 in
set_option maxRecDepth 100000 in
theorem l6Rule3 (w : World) (h : Sl RN 6 w w.heap.size A n c l) (hE : P.okE l = true) (ha : a < n) : Calls Try.prog 41 #[.slice A n c, .int .i64 3, .int .i64 a] w (RuRet w (P.ruO l 3 a)) := by
  obtain ⟨i0, hi, hz0, hz1, hz2⟩ := info_parts info_node
  have HL := Lib.hid h.len
  have HK := Lib.hid hE
  have hle := h.le
  have hmx := h.max
  unfold maxLen at hmx
  have hn9 : n ≤ 9 := by have := (P.okE_len hE).1; have := HL.out; omega
  obtain ⟨b, o, x, A1, n1, d1, E1, m1, d2, eA, hb, hx, hf, hs, ht1, g0, g1, g2, g3, g4, g5⟩ := nodeAt h ha
  have HOP : Hid (P.opA l a = x.op) := P.opA_of hx
  have HX := Lib.hid hx
  obtain ⟨ob0, ob1⟩ := P.op_bd hE hx
  have hal : a < l.length := by have := HL.out; omega
  have hac : (a : Int) < (n : Int) := by omega
  have hnc : (n : Int) ≤ (c : Int) := by omega
  have HFI := Lib.hid (okE_fit HK.out)
  have HH := Lib.hid h
  subst eA
  clear g1 g2 g3 g4 g5 hs ht1 hf hx hE h hmx
  by_cases h2 : P.two x.op
  · obtain ⟨hs1, hq2⟩ := P.start_two HK.out HX.out (P.opnds_two h2)
    obtain ⟨f, hf⟩ : ∃ f, P.startE l a = f := ⟨_, rfl⟩
    obtain ⟨s, hs⟩ : ∃ s, P.startE l (a - 1) = s := ⟨_, rfl⟩
    have hsa : s ≤ a - 1 := by rw [← hs]; exact P.startE_le _ _
    have hfs : f ≤ s := by rw [← hf, ← hs]; exact hq2
    have PT : Hid (∀ w : World, Sl RN 6 w w.heap.size (some ⟨b, o, none⟩) n c l → Calls Try.prog 77 #[.slice (some ⟨b, o, none⟩) n c, .int .i64 (a : Int)] w (RetPt w (P.seg l f s) (P.seg l s a))) := fun w h => by
      have := l6Parts (x := (a : Int)) (b := a - 1) w h HK.out (by omega) (by omega) (by rw [show a - 1 + 1 = a by omega]; exact hq2)
      rwa [show a - 1 + 1 = a by omega, hf, hs] at this
    have HE1 : Hid (P.two (P.opA l a)) := by show P.two _; rw [HOP.out]; exact h2
    have HSF := Lib.hid hf
    have HSS := Lib.hid hs
    have h124 : x.op = 1 ∨ x.op = 2 ∨ x.op = 4 := by have e1 := h2.1; have e2 := h2.2; omega
    have hf1 : (P.seg l f s).length ≤ 9 := by have := P.len_le l f s; omega
    clear hf hs h2 HX HOP hq2
    by_cases heq : P.seg l f s = P.seg l s a
    · have HO : Hid (P.ruO l 3 a = some (P.putR l a (P.seg l f s))) := by
        show _ = _
        have e1 := HSF.out
        have e2 := HSS.out
        subst e1 e2
        refine P.ruO_short HK.out hal (P.r3_yes HE1.out heq) ?_
        have := P.len_le l (P.startE l a) (P.startE l (a - 1))
        omega
      have hdq : decide (P.seg l f s = P.seg l s a) = true := by simpa using heq
      have HDQ := Lib.hid hdq
      clear heq hdq
      rcases h124 with h | h | h
      · have t1 : (x.op == 1) = true := by simpa using h
        clear h
        go_enter Try.func41, Try.ntmps41
        go_wp2_with fail
        with_reducible refine (PT.out _ HH.out).mono ?_
        rintro e w2 ⟨E1, e1, ps, E2, e2, qs, H, rfl, M1, M2, G1, G2, SEP, HB, b2⟩
        have hps : ps.length ≤ 9 := by rw [← List.length_map (f := (·.1)), M1.out]; exact hf1
        have h2 := HH.out.on RN.keeps b2
        have V1 : Hid (Sl RN 6 w2 w2.heap.size E1 ps.length e1 (P.seg l f s)) := by
          show Sl _ _ _ _ _ _ _ _
          rw [← M1.out]
          exact slG G1.out
        have V2 : Hid (Sl RN 6 w2 w2.heap.size E2 qs.length e2 (P.seg l s a)) := by
          show Sl _ _ _ _ _ _ _ _
          rw [← M2.out]
          exact slG G2.out
        clear M1 M2 G1 G2 SEP
        go_wp2_with fail
        with_reducible refine (l6Replace _ h2 HK.out ha V1.out (by omega) (mem_fit HFI.out (fun z hz => .inl (seg_mem z hz)))).mono ?_
        rintro e w3 ⟨v, rfl, ho, b3⟩
        have B3 := b2.trans (b3.mono b2.size)
        have W1 := Lib.hid (V1.out.on RN.keeps b3)
        have W2 := Lib.hid (V2.out.on RN.keeps b3)
        clear h2 V1 V2
        go_wp2_with fail
        with_reducible refine (specEqualExpressions _ W1.out W2.out).mono ?_
        rintro e w4 ⟨rfl, b4⟩
        rw [HDQ.out]
        have B4 := B3.trans (b4.mono B3.size)
        have ho4 := ownNd_mono (part_up2 ho b4) b2.size
        clear ho W1 W2
        go_wp2
        go_ret2
        rw [HO.out]
        exact ⟨v, rfl, ho4, B4⟩
      · have t1 : (x.op == 1) = false := by simp; omega
        have t2 : (x.op == 2) = true := by simpa using h
        clear h
        go_enter Try.func41, Try.ntmps41
        go_wp2_with fail
        with_reducible refine (PT.out _ HH.out).mono ?_
        rintro e w2 ⟨E1, e1, ps, E2, e2, qs, H, rfl, M1, M2, G1, G2, SEP, HB, b2⟩
        have hps : ps.length ≤ 9 := by rw [← List.length_map (f := (·.1)), M1.out]; exact hf1
        have h2 := HH.out.on RN.keeps b2
        have V1 : Hid (Sl RN 6 w2 w2.heap.size E1 ps.length e1 (P.seg l f s)) := by
          show Sl _ _ _ _ _ _ _ _
          rw [← M1.out]
          exact slG G1.out
        have V2 : Hid (Sl RN 6 w2 w2.heap.size E2 qs.length e2 (P.seg l s a)) := by
          show Sl _ _ _ _ _ _ _ _
          rw [← M2.out]
          exact slG G2.out
        clear M1 M2 G1 G2 SEP
        go_wp2_with fail
        with_reducible refine (l6Replace _ h2 HK.out ha V1.out (by omega) (mem_fit HFI.out (fun z hz => .inl (seg_mem z hz)))).mono ?_
        rintro e w3 ⟨v, rfl, ho, b3⟩
        have B3 := b2.trans (b3.mono b2.size)
        have W1 := Lib.hid (V1.out.on RN.keeps b3)
        have W2 := Lib.hid (V2.out.on RN.keeps b3)
        clear h2 V1 V2
        go_wp2_with fail
        with_reducible refine (specEqualExpressions _ W1.out W2.out).mono ?_
        rintro e w4 ⟨rfl, b4⟩
        rw [HDQ.out]
        have B4 := B3.trans (b4.mono B3.size)
        have ho4 := ownNd_mono (part_up2 ho b4) b2.size
        clear ho W1 W2
        go_wp2
        go_ret2
        rw [HO.out]
        exact ⟨v, rfl, ho4, B4⟩
      · have t1 : (x.op == 1) = false := by simp; omega
        have t2 : (x.op == 2) = false := by simp; omega
        have t4 : (x.op == 4) = true := by simpa using h
        clear h
        go_enter Try.func41, Try.ntmps41
        go_wp2_with fail
        with_reducible refine (PT.out _ HH.out).mono ?_
        rintro e w2 ⟨E1, e1, ps, E2, e2, qs, H, rfl, M1, M2, G1, G2, SEP, HB, b2⟩
        have hps : ps.length ≤ 9 := by rw [← List.length_map (f := (·.1)), M1.out]; exact hf1
        have h2 := HH.out.on RN.keeps b2
        have V1 : Hid (Sl RN 6 w2 w2.heap.size E1 ps.length e1 (P.seg l f s)) := by
          show Sl _ _ _ _ _ _ _ _
          rw [← M1.out]
          exact slG G1.out
        have V2 : Hid (Sl RN 6 w2 w2.heap.size E2 qs.length e2 (P.seg l s a)) := by
          show Sl _ _ _ _ _ _ _ _
          rw [← M2.out]
          exact slG G2.out
        clear M1 M2 G1 G2 SEP
        go_wp2_with fail
        with_reducible refine (l6Replace _ h2 HK.out ha V1.out (by omega) (mem_fit HFI.out (fun z hz => .inl (seg_mem z hz)))).mono ?_
        rintro e w3 ⟨v, rfl, ho, b3⟩
        have B3 := b2.trans (b3.mono b2.size)
        have W1 := Lib.hid (V1.out.on RN.keeps b3)
        have W2 := Lib.hid (V2.out.on RN.keeps b3)
        clear h2 V1 V2
        go_wp2_with fail
        with_reducible refine (specEqualExpressions _ W1.out W2.out).mono ?_
        rintro e w4 ⟨rfl, b4⟩
        rw [HDQ.out]
        have B4 := B3.trans (b4.mono B3.size)
        have ho4 := ownNd_mono (part_up2 ho b4) b2.size
        clear ho W1 W2
        go_wp2
        go_ret2
        rw [HO.out]
        exact ⟨v, rfl, ho4, B4⟩
    · have HO : Hid (P.ruO l 3 a = none) := by
        show _ = _
        have e1 := HSF.out
        have e2 := HSS.out
        subst e1 e2
        exact P.ruO_none (P.r3_no (fun e => heq e.2))
      have hdq : decide (P.seg l f s = P.seg l s a) = false := by simpa using heq
      have HDQ := Lib.hid hdq
      clear heq hdq
      rcases h124 with h | h | h
      · have t1 : (x.op == 1) = true := by simpa using h
        clear h
        go_enter Try.func41, Try.ntmps41
        go_wp2_with fail
        with_reducible refine (PT.out _ HH.out).mono ?_
        rintro e w2 ⟨E1, e1, ps, E2, e2, qs, H, rfl, M1, M2, G1, G2, SEP, HB, b2⟩
        have hps : ps.length ≤ 9 := by rw [← List.length_map (f := (·.1)), M1.out]; exact hf1
        have h2 := HH.out.on RN.keeps b2
        have V1 : Hid (Sl RN 6 w2 w2.heap.size E1 ps.length e1 (P.seg l f s)) := by
          show Sl _ _ _ _ _ _ _ _
          rw [← M1.out]
          exact slG G1.out
        have V2 : Hid (Sl RN 6 w2 w2.heap.size E2 qs.length e2 (P.seg l s a)) := by
          show Sl _ _ _ _ _ _ _ _
          rw [← M2.out]
          exact slG G2.out
        clear M1 M2 G1 G2 SEP
        go_wp2_with fail
        with_reducible refine (l6Replace _ h2 HK.out ha V1.out (by omega) (mem_fit HFI.out (fun z hz => .inl (seg_mem z hz)))).mono ?_
        rintro e w3 ⟨v, rfl, ho, b3⟩
        have B3 := b2.trans (b3.mono b2.size)
        have W1 := Lib.hid (V1.out.on RN.keeps b3)
        have W2 := Lib.hid (V2.out.on RN.keeps b3)
        clear h2 V1 V2
        go_wp2_with fail
        with_reducible refine (specEqualExpressions _ W1.out W2.out).mono ?_
        rintro e w4 ⟨rfl, b4⟩
        rw [HDQ.out]
        have B4 := B3.trans (b4.mono B3.size)
        have ho4 := ownNd_mono (part_up2 ho b4) b2.size
        clear ho W1 W2
        go_wp2
        go_ret2
        rw [HO.out]
        exact ⟨⟨v, rfl⟩, B4⟩
      · have t1 : (x.op == 1) = false := by simp; omega
        have t2 : (x.op == 2) = true := by simpa using h
        clear h
        go_enter Try.func41, Try.ntmps41
        go_wp2_with fail
        with_reducible refine (PT.out _ HH.out).mono ?_
        rintro e w2 ⟨E1, e1, ps, E2, e2, qs, H, rfl, M1, M2, G1, G2, SEP, HB, b2⟩
        have hps : ps.length ≤ 9 := by rw [← List.length_map (f := (·.1)), M1.out]; exact hf1
        have h2 := HH.out.on RN.keeps b2
        have V1 : Hid (Sl RN 6 w2 w2.heap.size E1 ps.length e1 (P.seg l f s)) := by
          show Sl _ _ _ _ _ _ _ _
          rw [← M1.out]
          exact slG G1.out
        have V2 : Hid (Sl RN 6 w2 w2.heap.size E2 qs.length e2 (P.seg l s a)) := by
          show Sl _ _ _ _ _ _ _ _
          rw [← M2.out]
          exact slG G2.out
        clear M1 M2 G1 G2 SEP
        go_wp2_with fail
        with_reducible refine (l6Replace _ h2 HK.out ha V1.out (by omega) (mem_fit HFI.out (fun z hz => .inl (seg_mem z hz)))).mono ?_
        rintro e w3 ⟨v, rfl, ho, b3⟩
        have B3 := b2.trans (b3.mono b2.size)
        have W1 := Lib.hid (V1.out.on RN.keeps b3)
        have W2 := Lib.hid (V2.out.on RN.keeps b3)
        clear h2 V1 V2
        go_wp2_with fail
        with_reducible refine (specEqualExpressions _ W1.out W2.out).mono ?_
        rintro e w4 ⟨rfl, b4⟩
        rw [HDQ.out]
        have B4 := B3.trans (b4.mono B3.size)
        have ho4 := ownNd_mono (part_up2 ho b4) b2.size
        clear ho W1 W2
        go_wp2
        go_ret2
        rw [HO.out]
        exact ⟨⟨v, rfl⟩, B4⟩
      · have t1 : (x.op == 1) = false := by simp; omega
        have t2 : (x.op == 2) = false := by simp; omega
        have t4 : (x.op == 4) = true := by simpa using h
        clear h
        go_enter Try.func41, Try.ntmps41
        go_wp2_with fail
        with_reducible refine (PT.out _ HH.out).mono ?_
        rintro e w2 ⟨E1, e1, ps, E2, e2, qs, H, rfl, M1, M2, G1, G2, SEP, HB, b2⟩
        have hps : ps.length ≤ 9 := by rw [← List.length_map (f := (·.1)), M1.out]; exact hf1
        have h2 := HH.out.on RN.keeps b2
        have V1 : Hid (Sl RN 6 w2 w2.heap.size E1 ps.length e1 (P.seg l f s)) := by
          show Sl _ _ _ _ _ _ _ _
          rw [← M1.out]
          exact slG G1.out
        have V2 : Hid (Sl RN 6 w2 w2.heap.size E2 qs.length e2 (P.seg l s a)) := by
          show Sl _ _ _ _ _ _ _ _
          rw [← M2.out]
          exact slG G2.out
        clear M1 M2 G1 G2 SEP
        go_wp2_with fail
        with_reducible refine (l6Replace _ h2 HK.out ha V1.out (by omega) (mem_fit HFI.out (fun z hz => .inl (seg_mem z hz)))).mono ?_
        rintro e w3 ⟨v, rfl, ho, b3⟩
        have B3 := b2.trans (b3.mono b2.size)
        have W1 := Lib.hid (V1.out.on RN.keeps b3)
        have W2 := Lib.hid (V2.out.on RN.keeps b3)
        clear h2 V1 V2
        go_wp2_with fail
        with_reducible refine (specEqualExpressions _ W1.out W2.out).mono ?_
        rintro e w4 ⟨rfl, b4⟩
        rw [HDQ.out]
        have B4 := B3.trans (b4.mono B3.size)
        have ho4 := ownNd_mono (part_up2 ho b4) b2.size
        clear ho W1 W2
        go_wp2
        go_ret2
        rw [HO.out]
        exact ⟨⟨v, rfl⟩, B4⟩
  · have h03 : x.op = 0 ∨ x.op = 3 := by
      unfold P.two at h2
      omega
    have HE1 : Hid (¬ P.two (P.opA l a)) := by show ¬ P.two _; rw [HOP.out]; exact h2
    have t1 : (x.op == 1) = false := by simp; omega
    have t2 : (x.op == 2) = false := by simp; omega
    have t4 : (x.op == 4) = false := by simp; omega
    clear h2 h03
    have HO : Hid (P.ruO l 3 a = none) := P.ruO_none (P.r3_no (fun e => HE1.out e.1))
    go_enter Try.func41, Try.ntmps41
    go_wp2
    go_ret2
    rw [HO.out]
    exact ⟨⟨_, rfl⟩, Below.refl _ _⟩
set_option maxHeartbeats 1600000 in
set_option maxRecDepth 100000 in
theorem l6Rule4 (w : World) (h : Sl RN 6 w w.heap.size A n c l) (hE : P.okE l = true) (ha : a < n) : Calls Try.prog 41 #[.slice A n c, .int .i64 4, .int .i64 a] w (RuRet w (P.ruO l 4 a)) := by
  obtain ⟨i0, hi, hz0, hz1, hz2⟩ := info_parts info_node
  have HL := Lib.hid h.len
  have HK := Lib.hid hE
  have hle := h.le
  have hmx := h.max
  unfold maxLen at hmx
  have hn9 : n ≤ 9 := by have := (P.okE_len hE).1; have := HL.out; omega
  obtain ⟨b, o, x, A1, n1, d1, E1, m1, d2, eA, hb, hx, hf, hs, ht1, g0, g1, g2, g3, g4, g5⟩ := nodeAt h ha
  have HOP : Hid (P.opA l a = x.op) := P.opA_of hx
  have HX := Lib.hid hx
  obtain ⟨ob0, ob1⟩ := P.op_bd hE hx
  have hal : a < l.length := by have := HL.out; omega
  have hac : (a : Int) < (n : Int) := by omega
  have hnc : (n : Int) ≤ (c : Int) := by omega
  have HFI := Lib.hid (okE_fit HK.out)
  have HH := Lib.hid h
  subst eA
  clear g1 g2 g3 g4 g5 hs ht1 hf hx hE h hmx
  by_cases h14 : x.op = 1 ∨ x.op = 4
  · have h2 : P.two x.op := by unfold P.two; omega
    obtain ⟨hs1, hq2⟩ := P.start_two HK.out HX.out (P.opnds_two h2)
    obtain ⟨f, hf⟩ : ∃ f, P.startE l a = f := ⟨_, rfl⟩
    obtain ⟨s, hs⟩ : ∃ s, P.startE l (a - 1) = s := ⟨_, rfl⟩
    have hsa : s ≤ a - 1 := by rw [← hs]; exact P.startE_le _ _
    have hfs : f ≤ s := by rw [← hf, ← hs]; exact hq2
    have PT : Hid (∀ w : World, Sl RN 6 w w.heap.size (some ⟨b, o, none⟩) n c l → Calls Try.prog 77 #[.slice (some ⟨b, o, none⟩) n c, .int .i64 (a : Int)] w (RetPt w (P.seg l f s) (P.seg l s a))) := fun w h => by
      have := l6Parts (x := (a : Int)) (b := a - 1) w h HK.out (by omega) (by omega) (by rw [show a - 1 + 1 = a by omega]; exact hq2)
      rwa [show a - 1 + 1 = a by omega, hf, hs] at this
    have HE1 : Hid (P.opA l a = 1 ∨ P.opA l a = 4) := by show _ ∨ _; rw [HOP.out]; exact h14
    have HRR : Hid (P.ruleR l 4 a = some (P.seg l s a ++ P.seg l f s ++ [(⟨x.op, noWi⟩ : Nd)])) := by
      show _ = _
      rw [P.r4_yes HE1.out, hf, hs, HOP.out]
    have hfl : (P.seg l f s).length + (P.seg l s a).length + f ≤ a := by have := P.len_le l f s; have := P.len_le l s a; omega
    have HO : Hid (P.ruO l 4 a = some (P.putR l a (P.seg l s a ++ P.seg l f s ++ [(⟨x.op, noWi⟩ : Nd)]))) := by
      show _ = _
      refine P.ruO_short HK.out hal HRR.out ?_
      rw [hf]
      simp only [List.length_append, List.length_cons, List.length_nil]
      omega
    have fx : Fit x.op := by unfold Fit; omega
    clear hf hs h2 HX HOP hq2 HRR HE1
    rcases h14 with h | h
    · have t1 : (x.op == 1) = true := by simpa using h
      clear h
      go_enter Try.func41, Try.ntmps41
      go_wp2_with fail
      with_reducible refine (PT.out _ HH.out).mono ?_
      rintro e w2 ⟨E1, e1, ps, E2, e2, qs, H, rfl, M1, M2, G1, G2, SEP, HB, b2⟩
      have hps : ps.length = (P.seg l f s).length := by rw [← M1.out, List.length_map]
      have hqs : qs.length = (P.seg l s a).length := by rw [← M2.out, List.length_map]
      have hl2 : ps.length + qs.length ≤ 9 := by omega
      have h63 : qs.length + ps.length ≤ maxLen := by unfold maxLen; omega
      have hby : (qs.length + ps.length) * 80 ≤ 140737488355328 := by omega
      have hb2 : w.heap.size ≤ w2.heap.size := b2.size
      have R2 := Lib.hid (G2.out.mono HB.1)
      have F2 : Hid (∀ p ∈ ps, ∀ u ∈ p.2, ∀ g, u.ownBlock = some g → (Value.slice E2 qs.length e2).ownBlock ≠ some g) := fun p hp u hu g hg e => by
        have := (G2.out.block e).1
        have := SEP.out.2 p hp u hu g hg
        omega
      have hB2 := Lib.hid b2
      clear b2 hps hqs hfl G2 SEP
      go_wp2_with (at_builtin; refine append_at rfl _ _ 25 rfl w.heap.size 55 i0 _ 6 80 Try.underlying25 hi hz0 hz1 hz2 rfl (Nat.zero_lt_succ 5) _ _ _ rfl R2.out.row E1 ps.length e1 (gcs ps) rfl G1.out.len (own_cells G1.out.row).1 (own_cells G1.out.row).2 G1.out.one h63 hby hb2 ?_)
      intro v4 w4 ho4 hg4 ha4
      have X4 := Lib.hid (R2.out.join G1.out.el F2.out rfl hg4 ho4 ha4)
      have B4 := Lib.hid (hB2.out.grown hg4 hb2 (fun k hk => (R2.out.block hk).1))
      obtain ⟨us, hus⟩ : ∃ us, Hid (us = qs ++ ps) := ⟨_, rfl⟩
      have hul : qs.length + ps.length = us.length := by rw [hus.out]; simp
      rw [← hus.out] at X4
      rw [hul] at ho4
      obtain ⟨A4, c4, rfl, _, _⟩ := own_form ho4
      have h63c : us.length + 1 ≤ maxLen := by unfold maxLen; omega
      have hbyc : (us.length + 1) * 80 ≤ 140737488355328 := by omega
      have hb4 : ∀ o : Obj, w.heap.size ≤ (w4.alloc o).heap.size := fun o => by rw [World.size_alloc]; have := B4.out.size; omega
      clear ho4 hg4 ha4 h63 hby hb2 R2 F2 hB2 G1
      go_wp2_with (at_builtin; refine append_at rfl _ _ 25 rfl w.heap.size 55 i0 _ 6 80 Try.underlying25 hi hz0 hz1 hz2 rfl (Nat.zero_lt_succ 5) _ _ _ rfl (X4.out.row.alloc _) (some ⟨w4.heap.size, 0, none⟩) 1 1 [.int .i64 x.op, .int .i64 0, .int .i64 0, .int .i64 0, .slice none 0 0, .slice none 0 0] rfl rfl (fun _ => by simp) (fun ad hA => by injection hA with hA; subst hA; exact newCells _ _ _) (ones6 rfl rfl rfl rfl rfl rfl) h63c hbyc (hb4 _) ?_)
      intro v5 w5 ho5 hg5 ha5
      have X5 := Lib.hid (addB X4.out fx hg5 ho5 ha5)
      have B5 := Lib.hid ((B4.out.alloc B4.out.size _).grown hg5 (hb4 _) (fun k hk => (X4.out.block hk).1))
      obtain ⟨zs, hzs⟩ : ∃ zs, Hid (zs = us ++ [bN x.op]) := ⟨_, rfl⟩
      have hzl : us.length + 1 = zs.length := by rw [hzs.out]; simp
      rw [← hzs.out] at X5
      rw [hzl] at ho5
      obtain ⟨A5, c5, rfl, _, _⟩ := own_form ho5
      have HP : Hid (zs.map (·.1) = P.seg l s a ++ P.seg l f s ++ [(⟨x.op, noWi⟩ : Nd)]) := by
        show _ = _
        rw [hzs.out, hus.out, List.map_append, List.map_append, M1.out, M2.out]
        rfl
      have hzn : zs.length ≤ 20 := by omega
      have h5 := HH.out.on RN.keeps B5.out
      clear ho5 hg5 ha5 h63c hbyc hb4 X4 B4 hus hzs M1 M2
      go_wp2_with fail
      with_reducible refine (l6Replace _ h5 HK.out ha (slG X5.out) hzn (by
        rw [HP.out]
        refine mem_fit HFI.out (fun z hz => ?_)
        simp only [List.mem_append, List.mem_cons, List.not_mem_nil, or_false] at hz
        rcases hz with (hz | hz) | hz
        · exact .inl (seg_mem z hz)
        · exact .inl (seg_mem z hz)
        · exact .inr (by rw [hz]))).mono ?_
      rw [HP.out]
      rintro e w6 ⟨v, rfl, ho, b6⟩
      have B6 := B5.out.trans (b6.mono B5.out.size)
      have hov := ownNd_mono ho (B5.out.size)
      go_wp2
      go_ret2
      rw [HO.out]
      exact ⟨v, rfl, hov, B6⟩
    · have t1 : (x.op == 1) = false := by simp; omega
      have t4 : (x.op == 4) = true := by simpa using h
      clear h
      go_enter Try.func41, Try.ntmps41
      go_wp2_with fail
      with_reducible refine (PT.out _ HH.out).mono ?_
      rintro e w2 ⟨E1, e1, ps, E2, e2, qs, H, rfl, M1, M2, G1, G2, SEP, HB, b2⟩
      have hps : ps.length = (P.seg l f s).length := by rw [← M1.out, List.length_map]
      have hqs : qs.length = (P.seg l s a).length := by rw [← M2.out, List.length_map]
      have hl2 : ps.length + qs.length ≤ 9 := by omega
      have h63 : qs.length + ps.length ≤ maxLen := by unfold maxLen; omega
      have hby : (qs.length + ps.length) * 80 ≤ 140737488355328 := by omega
      have hb2 : w.heap.size ≤ w2.heap.size := b2.size
      have R2 := Lib.hid (G2.out.mono HB.1)
      have F2 : Hid (∀ p ∈ ps, ∀ u ∈ p.2, ∀ g, u.ownBlock = some g → (Value.slice E2 qs.length e2).ownBlock ≠ some g) := fun p hp u hu g hg e => by
        have := (G2.out.block e).1
        have := SEP.out.2 p hp u hu g hg
        omega
      have hB2 := Lib.hid b2
      clear b2 hps hqs hfl G2 SEP
      go_wp2_with (at_builtin; refine append_at rfl _ _ 25 rfl w.heap.size 55 i0 _ 6 80 Try.underlying25 hi hz0 hz1 hz2 rfl (Nat.zero_lt_succ 5) _ _ _ rfl R2.out.row E1 ps.length e1 (gcs ps) rfl G1.out.len (own_cells G1.out.row).1 (own_cells G1.out.row).2 G1.out.one h63 hby hb2 ?_)
      intro v4 w4 ho4 hg4 ha4
      have X4 := Lib.hid (R2.out.join G1.out.el F2.out rfl hg4 ho4 ha4)
      have B4 := Lib.hid (hB2.out.grown hg4 hb2 (fun k hk => (R2.out.block hk).1))
      obtain ⟨us, hus⟩ : ∃ us, Hid (us = qs ++ ps) := ⟨_, rfl⟩
      have hul : qs.length + ps.length = us.length := by rw [hus.out]; simp
      rw [← hus.out] at X4
      rw [hul] at ho4
      obtain ⟨A4, c4, rfl, _, _⟩ := own_form ho4
      have h63c : us.length + 1 ≤ maxLen := by unfold maxLen; omega
      have hbyc : (us.length + 1) * 80 ≤ 140737488355328 := by omega
      have hb4 : ∀ o : Obj, w.heap.size ≤ (w4.alloc o).heap.size := fun o => by rw [World.size_alloc]; have := B4.out.size; omega
      clear ho4 hg4 ha4 h63 hby hb2 R2 F2 hB2 G1
      go_wp2_with (at_builtin; refine append_at rfl _ _ 25 rfl w.heap.size 55 i0 _ 6 80 Try.underlying25 hi hz0 hz1 hz2 rfl (Nat.zero_lt_succ 5) _ _ _ rfl (X4.out.row.alloc _) (some ⟨w4.heap.size, 0, none⟩) 1 1 [.int .i64 x.op, .int .i64 0, .int .i64 0, .int .i64 0, .slice none 0 0, .slice none 0 0] rfl rfl (fun _ => by simp) (fun ad hA => by injection hA with hA; subst hA; exact newCells _ _ _) (ones6 rfl rfl rfl rfl rfl rfl) h63c hbyc (hb4 _) ?_)
      intro v5 w5 ho5 hg5 ha5
      have X5 := Lib.hid (addB X4.out fx hg5 ho5 ha5)
      have B5 := Lib.hid ((B4.out.alloc B4.out.size _).grown hg5 (hb4 _) (fun k hk => (X4.out.block hk).1))
      obtain ⟨zs, hzs⟩ : ∃ zs, Hid (zs = us ++ [bN x.op]) := ⟨_, rfl⟩
      have hzl : us.length + 1 = zs.length := by rw [hzs.out]; simp
      rw [← hzs.out] at X5
      rw [hzl] at ho5
      obtain ⟨A5, c5, rfl, _, _⟩ := own_form ho5
      have HP : Hid (zs.map (·.1) = P.seg l s a ++ P.seg l f s ++ [(⟨x.op, noWi⟩ : Nd)]) := by
        show _ = _
        rw [hzs.out, hus.out, List.map_append, List.map_append, M1.out, M2.out]
        rfl
      have hzn : zs.length ≤ 20 := by omega
      have h5 := HH.out.on RN.keeps B5.out
      clear ho5 hg5 ha5 h63c hbyc hb4 X4 B4 hus hzs M1 M2
      go_wp2_with fail
      with_reducible refine (l6Replace _ h5 HK.out ha (slG X5.out) hzn (by
        rw [HP.out]
        refine mem_fit HFI.out (fun z hz => ?_)
        simp only [List.mem_append, List.mem_cons, List.not_mem_nil, or_false] at hz
        rcases hz with (hz | hz) | hz
        · exact .inl (seg_mem z hz)
        · exact .inl (seg_mem z hz)
        · exact .inr (by rw [hz]))).mono ?_
      rw [HP.out]
      rintro e w6 ⟨v, rfl, ho, b6⟩
      have B6 := B5.out.trans (b6.mono B5.out.size)
      have hov := ownNd_mono ho (B5.out.size)
      go_wp2
      go_ret2
      rw [HO.out]
      exact ⟨v, rfl, hov, B6⟩
  · have t1 : (x.op == 1) = false := by simp; omega
    have t4 : (x.op == 4) = false := by simp; omega
    have HO : Hid (P.ruO l 4 a = none) := P.ruO_none (P.r4_no (by rw [HOP.out]; exact h14))
    go_enter Try.func41, Try.ntmps41
    go_wp2
    go_ret2
    rw [HO.out]
    exact ⟨⟨_, rfl⟩, Below.refl _ _⟩
set_option maxHeartbeats 1600000 in
set_option maxRecDepth 100000 in
theorem l6RuleN (w : World) (h : Sl RN 6 w w.heap.size A n c l) (hE : P.okE l = true) (ha : a < n) (r1 : r ≠ 1) (r2 : r ≠ 2) (r3 : r ≠ 3) (r4 : r ≠ 4) : Calls Try.prog 41 #[.slice A n c, .int .i64 r, .int .i64 a] w (RuRet w (P.ruO l r a)) := by
  obtain ⟨i0, hi, hz0, hz1, hz2⟩ := info_parts info_node
  have HL := Lib.hid h.len
  have HK := Lib.hid hE
  have hle := h.le
  have hmx := h.max
  unfold maxLen at hmx
  have hn9 : n ≤ 9 := by have := (P.okE_len hE).1; have := HL.out; omega
  obtain ⟨b, o, x, A1, n1, d1, E1, m1, d2, eA, hb, hx, hf, hs, ht1, g0, g1, g2, g3, g4, g5⟩ := nodeAt h ha
  have HOP : Hid (P.opA l a = x.op) := P.opA_of hx
  have HX := Lib.hid hx
  obtain ⟨ob0, ob1⟩ := P.op_bd hE hx
  have hal : a < l.length := by have := HL.out; omega
  have hac : (a : Int) < (n : Int) := by omega
  have hnc : (n : Int) ≤ (c : Int) := by omega
  have HFI := Lib.hid (okE_fit HK.out)
  have HH := Lib.hid h
  subst eA
  clear g1 g2 g3 g4 g5 hs ht1 hf hx hE h hmx
  have t1 : (r == 1) = false := by simpa using r1
  have t2 : (r == 2) = false := by simpa using r2
  have t3 : (r == 3) = false := by simpa using r3
  have t4 : (r == 4) = false := by simpa using r4
  have HO : Hid (P.ruO l r a = none) := P.ruO_none (P.rn_no r1 r2 r3 r4)
  go_enter Try.func41, Try.ntmps41
  go_wp2
  go_ret2
  rw [HO.out]
  exact ⟨⟨_, rfl⟩, Below.refl _ _⟩
theorem l6Rule (w : World) (h : Sl RN 6 w w.heap.size A n c l) (hE : P.okE l = true) (ha : a < n) : Calls Try.prog 41 #[.slice A n c, .int .i64 r, .int .i64 a] w (RuRet w (P.ruO l r a)) := by
  by_cases r1 : r = 1
  · subst r1; exact l6Rule1 w h hE ha
  by_cases r2 : r = 2
  · subst r2; exact l6Rule2 w h hE ha
  by_cases r3 : r = 3
  · subst r3; exact l6Rule3 w h hE ha
  by_cases r4 : r = 4
  · subst r4; exact l6Rule4 w h hE ha
  exact l6RuleN w h hE ha r1 r2 r3 r4
end
theorem applyO_in {l : List Nd} {r : Int} {k : Nat} (hE : P.okE l = true) (h : P.inR (k : Int) 0 ((l.length : Int) - 1) = true) : P.applyO l r k = P.ruO l r k := by unfold P.applyO P.ruO; rw [hE, h]; rfl
theorem applyO_out {l : List Nd} {r a : Int} (h : P.okE l = false ∨ P.inR a 0 ((l.length : Int) - 1) = false) : P.applyO l r a = none := by
  unfold P.applyO
  rw [if_neg]
  rcases h with h | h <;> rw [h] <;> simp
set_option maxHeartbeats 1600000 in
set_option maxRecDepth 100000 in
theorem specApplyRule {A : Option Addr} {n c : Nat} {l : List Nd} {r a : Int} (w : World) (h : Sl RN 6 w w.heap.size A n c l) (hn : n ≤ 1048576) (hfit : ∀ x ∈ l, x.wish.list.length ≤ 1048576 ∧ x.wish.pairs.length ≤ 1048576) (ha : Fit a) : Calls Try.prog 17 #[.slice A n c, .int .i64 r, .int .i64 a] w (RetNd2 w (P.applyR l r a) (P.applyB l r a)) := by
  have HL := Lib.hid h.len
  have hle := h.le
  have hmx := h.max
  unfold maxLen at hmx
  have HH := Lib.hid h
  have HFT := Lib.hid hfit
  cases hok : P.okE l with
  | false =>
    have HN : Hid (P.applyO l r a = none) := applyO_out (.inl hok)
    have HB : Hid (P.applyB l r a = false) := by show _ = _; unfold P.applyB; rw [HN.out]; rfl
    have HR : Hid (P.applyR l r a = l) := by show _ = _; unfold P.applyR; rw [HN.out]; rfl
    go_enter Try.func17, Try.ntmps17
    go_wp2_with (go_at_call 24; refine (specIsExpression _ h).mono ?_; rintro e w2 ⟨rfl, b2⟩; rw [hok])
    with_reducible refine (l5Copy _ (HH.out.on RN.keeps b2) hn HFT.out).mono ?_
    rintro e w3 ⟨v, rfl, ho, b3⟩
    go_wp2
    go_ret2
    refine ⟨v, by rw [HB.out]; rfl, ?_, b2.trans (b3.mono b2.size)⟩
    rw [HR.out]
    exact ownNd_mono ho b2.size
  | true =>
    have HK := Lib.hid hok
    cases hin : P.inR a 0 ((n : Int) - 1) with
    | false =>
      have HN : Hid (P.applyO l r a = none) := applyO_out (.inr (by rw [HL.out]; exact hin))
      have HB : Hid (P.applyB l r a = false) := by show _ = _; unfold P.applyB; rw [HN.out]; rfl
      have HR : Hid (P.applyR l r a = l) := by show _ = _; unfold P.applyR; rw [HN.out]; rfl
      go_enter Try.func17, Try.ntmps17
      go_wp2_with (first | (go_at_call 24; refine (specIsExpression _ h).mono ?_; rintro e w2 ⟨rfl, b2⟩; rw [hok]) | (go_at_call 39; refine (l1In _ _ _ _).mono ?_; rintro e w9 ⟨rfl, rfl⟩; rw [hin]))
      with_reducible refine (l5Copy _ (HH.out.on RN.keeps b2) hn HFT.out).mono ?_
      rintro e w3 ⟨v, rfl, ho, b3⟩
      go_wp2
      go_ret2
      refine ⟨v, by rw [HB.out]; rfl, ?_, b2.trans (b3.mono b2.size)⟩
      rw [HR.out]
      exact ownNd_mono ho b2.size
    | true =>
      obtain ⟨a0, a1⟩ := P.inR_t hin
      obtain ⟨k, rfl⟩ := Int.eq_ofNat_of_zero_le a0
      have hkn : k < n := by omega
      have HO : Hid (P.applyO l r k = P.ruO l r k) := applyO_in hok (by rw [HL.out]; exact hin)
      cases hru : P.ruO l r k with
      | none =>
        have HN : Hid (P.applyO l r k = none) := HO.out.trans hru
        have HRU := Lib.hid hru
        have HB : Hid (P.applyB l r k = false) := by show _ = _; unfold P.applyB; rw [HN.out]; rfl
        have HR : Hid (P.applyR l r k = l) := by show _ = _; unfold P.applyR; rw [HN.out]; rfl
        clear hru
        go_enter Try.func17, Try.ntmps17
        go_wp2_with (first | (go_at_call 24; refine (specIsExpression _ h).mono ?_; rintro e w2 ⟨rfl, b2⟩; rw [hok]) | (go_at_call 39; refine (l1In _ _ _ _).mono ?_; rintro e w9 ⟨rfl, rfl⟩; rw [hin]))
        with_reducible refine (l6Rule _ (HH.out.on RN.keeps b2) HK.out hkn).mono ?_
        rw [HRU.out]
        rintro e w3 ⟨⟨v0, rfl⟩, b3⟩
        have B3 := b2.trans (b3.mono b2.size)
        go_wp2_with fail
        with_reducible refine (l5Copy _ (HH.out.on RN.keeps B3) hn HFT.out).mono ?_
        rintro e w4 ⟨v, rfl, ho, b4⟩
        go_wp2
        go_ret2
        refine ⟨v, by rw [HB.out]; rfl, ?_, B3.trans (b4.mono B3.size)⟩
        rw [HR.out]
        exact ownNd_mono ho B3.size
      | some q =>
        have HN : Hid (P.applyO l r k = some q) := HO.out.trans hru
        have HRU := Lib.hid hru
        have HB : Hid (P.applyB l r k = true) := by show _ = _; unfold P.applyB; rw [HN.out]; rfl
        have HR : Hid (P.applyR l r k = q) := by show _ = _; unfold P.applyR; rw [HN.out]; rfl
        have HQ9 : Hid (q.length ≤ 9) := P.ruO_len hru
        have HQF : Hid (∀ x ∈ q, FitN x) := by
          have := P.applyR_fit (r := r) (at_ := k) (fitNs h)
          rw [HR.out] at this
          exact this
        have HQW : Hid (∀ x ∈ q, x.wish.list.length ≤ 1048576 ∧ x.wish.pairs.length ≤ 1048576) := by
          refine mem_fit hfit (fun x hx => ?_)
          rw [← HR.out] at hx
          rcases P.applyR_mem hx with hx | ⟨op, rfl, _⟩
          · exact .inl hx
          · exact .inr rfl
        clear hru
        go_enter Try.func17, Try.ntmps17
        go_wp2_with (first | (go_at_call 24; refine (specIsExpression _ h).mono ?_; rintro e w2 ⟨rfl, b2⟩; rw [hok]) | (go_at_call 39; refine (l1In _ _ _ _).mono ?_; rintro e w9 ⟨rfl, rfl⟩; rw [hin]))
        with_reducible refine (l6Rule _ (HH.out.on RN.keeps b2) HK.out hkn).mono ?_
        rw [HRU.out]
        rintro e w3 ⟨v0, rfl, ho3, b3⟩
        have B3 := b2.trans (b3.mono b2.size)
        obtain ⟨E, m, d, rfl, hS⟩ := ho3.read HQF.out
        have hm9 : m ≤ 9 := by have := HQ9.out; have := hS.len; omega
        go_wp2_with fail
        with_reducible refine (l5Copy _ hS (by omega) HQW.out).mono ?_
        rintro e w4 ⟨v, rfl, ho, b4⟩
        go_wp2
        go_ret2
        refine ⟨v, by rw [HB.out]; rfl, ?_, B3.trans (b4.mono B3.size)⟩
        rw [HR.out]
        exact ownNd_mono ho B3.size
end Go.Proofs.Ytgjghpaenliliaa.Wk

namespace Go.Proofs.Ytgjghpaenliliaa.Wk
open Go.RowKit Go.Proofs.Ytgjghpaenliliaa.M
set_option linter.unusedVariables false
set_option linter.unusedSimpArgs false
attribute [local go_sem] cell_grow

theorem srcL {w : World} {lo : Nat} {A : Option Addr} {m c : Nat} {qs : List NdR} (h : Src w lo A m c qs) : (rdc qs).length = m * 6 := by rw [h.rd.len, h.len]
theorem Sh0 (w : World) (lo : Nat) (hl : lo ≤ w.heap.size) : Sh (w.alloc (.cells #[] 55)) lo lo 55 (.slice (some ⟨w.heap.size, 0, none⟩) 0 0) [] := ⟨own_mono (own_emptyS w 55 6) hl, Rd.nil _ _⟩
theorem rdB (w : World) (lo : Nat) {op : Int} (ho : Fit op) : Rd w lo [bare op] := Rd.bare w lo ho
theorem rdB2 (w : World) (lo : Nat) {op op2 : Int} (ho : Fit op) (ho2 : Fit op2) : Rd w lo [bare op, bare op2] := Rd.app (rdB w lo ho) (rdB w lo ho2)
/-- What rewritten answers: a slice whose nodes read below the call's own memory. -/
def RwRet (w : World) (o : Option (List Nd)) (e : Ending) (w' : World) : Prop := match o with
  | none => (∃ v, e = .returned (.tuple #[v, .bool false])) ∧ Below w.heap.size w w'
  | some p => ∃ (A : Option Addr) (m c : Nat) (qs : List NdR), e = .returned (.tuple #[.slice A m c, .bool true]) ∧ Hid (qs.map (·.1) = p) ∧ Hid (Src w' w.heap.size A m c qs) ∧ Below w.heap.size w w'
theorem opsI {op : Int} {k : Nat} (h : P.opnds op = k) (w : World) : Calls Try.prog 62 #[.int .i64 op] w fun e w' => e = .returned (.int .i64 (k : Int)) ∧ w = w' := (operands op w).mono fun e w' ⟨h1, h2⟩ => ⟨by rw [h1, h], h2⟩
section
variable {A : Option Addr} {n c a : Nat} {l : List Nd} {r : Int}
set_option maxHeartbeats 1600000 in
set_option maxRecDepth 100000 in
theorem rw1 (w : World) (h : Sl RN 6 w w.heap.size A n c l) (hE : P.okE l = true) (ha : a < n) : Calls Try.prog 44 #[.slice A n c, .int .i64 1, .int .i64 a] w (RwRet w (P.ruleR l 1 a)) := by
  obtain ⟨i0, hi, hz0, hz1, hz2⟩ := info_parts info_node
  have HL := Lib.hid h.len
  have HK := Lib.hid hE
  have hle := h.le
  have hmx := h.max
  unfold maxLen at hmx
  have hn9 : n ≤ 9 := by have := (P.okE_len hE).1; have := HL.out; omega
  obtain ⟨b, o, x, A1, n1, d1, E1, m1, d2, eA, hb, hx, hf, hs, ht1, g0, g1, g2, g3, g4, g5⟩ := nodeAt h ha
  have HOP : Hid (P.opA l a = x.op) := P.opA_of hx
  have HX := Lib.hid hx
  obtain ⟨ob0, ob1⟩ := P.op_bd hE hx
  have hac : (a : Int) < (n : Int) := by omega
  have hnc : (n : Int) ≤ (c : Int) := by omega
  have HFI := Lib.hid (okE_fit HK.out)
  have HH := Lib.hid h
  subst eA
  clear g1 g2 g3 g4 g5 hs ht1 hf hx hE h hmx
  by_cases h0 : x.op = 0
  · have HO : Hid (P.ruleR l 1 a = none) := P.r0_no (HOP.out.trans h0)
    have hnz : (x.op == 0) = true := by simpa using h0
    clear h0
    go_enter Try.func44, Try.ntmps44
    go_wp2
    go_ret2
    rw [HO.out]
    exact ⟨⟨_, rfl⟩, Below.refl _ _⟩
  have hnz : (x.op == 0) = false := by simp; omega
  have ha1 : 1 ≤ a ∧ P.startE l a ≤ P.startE l (a - 1) := by
    by_cases h3 : x.op = 3
    · obtain ⟨k1, k2⟩ := P.start_one HK.out HX.out (by rw [h3]; rfl)
      exact ⟨k1, Nat.le_of_eq k2⟩
    · exact P.start_two HK.out HX.out (P.opnds_two ⟨h0, h3⟩)
  obtain ⟨ha1, hfs⟩ := ha1
  obtain ⟨b', o', y, _, _, _, _, _, _, eB, _, hy, _, _, _, k0, _, _, _, _, _⟩ := nodeAt HH.out (show a - 1 < n by omega)
  injection eB with eB
  injection eB with eB1 eB2 _
  subst eB1 eB2
  have HOY : Hid (P.opA l (a - 1) = y.op) := P.opA_of hy
  have HY := Lib.hid hy
  obtain ⟨oy0, oy1⟩ := P.op_bd HK.out hy
  have hi1 : ((a : Int) - 1).toNat = a - 1 := by omega
  have hi2 : (0 : Int) ≤ (a : Int) - 1 := by omega
  have hi3 : (a : Int) - 1 < (n : Int) := by omega
  obtain ⟨f, hf⟩ : ∃ f, P.startE l a = f := ⟨_, rfl⟩
  obtain ⟨s, hs⟩ : ∃ s, P.startE l (a - 1) = s := ⟨_, rfl⟩
  have hsa : s ≤ a - 1 := by rw [← hs]; exact P.startE_le _ _
  rw [hf, hs] at hfs
  have HSF := Lib.hid hf
  have HSS := Lib.hid hs
  have S1 : Hid (∀ w : World, Sl RN 6 w w.heap.size (some ⟨b, o, none⟩) n c l → Calls Try.prog 45 #[.slice (some ⟨b, o, none⟩) n c, .int .i64 (a : Int)] w fun e w' => e = .returned (.int .i64 (f : Int)) ∧ w = w') := fun w h => by rw [← HSF.out]; exact startI w h HK.out ha
  have S2 : Hid (∀ w : World, Sl RN 6 w w.heap.size (some ⟨b, o, none⟩) n c l → Calls Try.prog 45 #[.slice (some ⟨b, o, none⟩) n c, .int .i64 ((a : Int) - 1)] w fun e w' => e = .returned (.int .i64 (s : Int)) ∧ w = w') := fun w h => by rw [← HSS.out, show (a : Int) - 1 = ((a - 1 : Nat) : Int) by omega]; exact startI w h HK.out (by omega)
  clear hy hf hs
  by_cases h3 : x.op = 3
  · have t3 : (x.op == 3) = true := by simpa using h3
    by_cases h4 : y.op = 3
    · have t4 : (y.op == 3) = true := by simpa using h4
      have HO : Hid (P.ruleR l 1 a = some (P.seg l f (a - 1))) := by
        show _ = _
        rw [← HSF.out]
        exact P.r1_yes (HOP.out.trans h3) (HOY.out.trans h4)
      have q1 : (f : Int) ≤ (a : Int) - 1 := by omega
      have q2 : (a : Int) - 1 ≤ (c : Int) := by omega
      have hcf : c ≠ f := by omega
      obtain ⟨qs, M1, T1⟩ := (partS HH.out (show f ≤ a - 1 by omega) (show a - 1 ≤ n by omega) hcf).src
      have M1 := Lib.hid M1
      have T1 := Lib.hid T1
      clear h3 h4 HY HX HOP HOY h0
      go_enter Try.func44, Try.ntmps44
      go_wp2_with fail
      with_reducible refine (S1.out _ HH.out).mono ?_
      rintro e w9 ⟨rfl, rfl⟩
      go_wp2_with fail
      with_reducible refine (S2.out _ HH.out).mono ?_
      rintro e w9 ⟨rfl, rfl⟩
      go_wp2
      go_ret2
      rw [HO.out]
      exact ⟨_, _, _, qs, rfl, M1, T1, Below.refl _ _⟩
    · have t4 : (y.op == 3) = false := by simpa using h4
      clear HY HX h0
      have HO : Hid (P.ruleR l 1 a = none) := P.r1_no (fun e => h4 (HOY.out.symm.trans e.2))

      go_enter Try.func44, Try.ntmps44
      go_wp2_with fail
      with_reducible refine (S1.out _ HH.out).mono ?_
      rintro e w9 ⟨rfl, rfl⟩
      go_wp2_with fail
      with_reducible refine (S2.out _ HH.out).mono ?_
      rintro e w9 ⟨rfl, rfl⟩

      go_wp2_with fail
      refine wp_region_qb (by kernel_rfl) (by kernel_rfl) ?_; (repeat (go_big_quiet_step ((fail)))); refine wpQuiet_nil ?_; intro w8 hb8
      go_wp2
      go_ret2
      rw [HO.out]
      exact ⟨⟨_, rfl⟩, hb8⟩
  · have t3 : (x.op == 3) = false := by simpa using h3
    clear HY HX h0
    have HO : Hid (P.ruleR l 1 a = none) := P.r1_no (fun e => h3 (HOP.out.symm.trans e.1))

    go_enter Try.func44, Try.ntmps44
    go_wp2_with fail
    with_reducible refine (S1.out _ HH.out).mono ?_
    rintro e w9 ⟨rfl, rfl⟩
    go_wp2_with fail
    with_reducible refine (S2.out _ HH.out).mono ?_
    rintro e w9 ⟨rfl, rfl⟩

    go_wp2_with fail
    refine wp_region_qb (by kernel_rfl) (by kernel_rfl) ?_; (repeat (go_big_quiet_step ((fail)))); refine wpQuiet_nil ?_; intro w8 hb8
    go_wp2
    go_ret2
    rw [HO.out]
    exact ⟨⟨_, rfl⟩, hb8⟩
set_option maxHeartbeats 1600000 in
set_option maxRecDepth 100000 in
theorem rw2 (w : World) (h : Sl RN 6 w w.heap.size A n c l) (hE : P.okE l = true) (ha : a < n) : Calls Try.prog 44 #[.slice A n c, .int .i64 2, .int .i64 a] w (RwRet w (P.ruleR l 2 a)) := by
  obtain ⟨i0, hi, hz0, hz1, hz2⟩ := info_parts info_node
  have HL := Lib.hid h.len
  have HK := Lib.hid hE
  have hle := h.le
  have hmx := h.max
  unfold maxLen at hmx
  have hn9 : n ≤ 9 := by have := (P.okE_len hE).1; have := HL.out; omega
  obtain ⟨b, o, x, A1, n1, d1, E1, m1, d2, eA, hb, hx, hf, hs, ht1, g0, g1, g2, g3, g4, g5⟩ := nodeAt h ha
  have HOP : Hid (P.opA l a = x.op) := P.opA_of hx
  have HX := Lib.hid hx
  obtain ⟨ob0, ob1⟩ := P.op_bd hE hx
  have hac : (a : Int) < (n : Int) := by omega
  have hnc : (n : Int) ≤ (c : Int) := by omega
  have HFI := Lib.hid (okE_fit HK.out)
  have HH := Lib.hid h
  subst eA
  clear g1 g2 g3 g4 g5 hs ht1 hf hx hE h hmx
  by_cases h0 : x.op = 0
  · have HO : Hid (P.ruleR l 2 a = none) := P.r0_no (HOP.out.trans h0)
    have hnz : (x.op == 0) = true := by simpa using h0
    clear h0
    go_enter Try.func44, Try.ntmps44
    go_wp2
    go_ret2
    rw [HO.out]
    exact ⟨⟨_, rfl⟩, Below.refl _ _⟩
  have hnz : (x.op == 0) = false := by simp; omega
  have ha1 : 1 ≤ a ∧ P.startE l a ≤ P.startE l (a - 1) := by
    by_cases h3 : x.op = 3
    · obtain ⟨k1, k2⟩ := P.start_one HK.out HX.out (by rw [h3]; rfl)
      exact ⟨k1, Nat.le_of_eq k2⟩
    · exact P.start_two HK.out HX.out (P.opnds_two ⟨h0, h3⟩)
  obtain ⟨ha1, hfs⟩ := ha1
  obtain ⟨b', o', y, _, _, _, _, _, _, eB, _, hy, _, _, _, k0, _, _, _, _, _⟩ := nodeAt HH.out (show a - 1 < n by omega)
  injection eB with eB
  injection eB with eB1 eB2 _
  subst eB1 eB2
  have HOY : Hid (P.opA l (a - 1) = y.op) := P.opA_of hy
  have HY := Lib.hid hy
  obtain ⟨oy0, oy1⟩ := P.op_bd HK.out hy
  have hi1 : ((a : Int) - 1).toNat = a - 1 := by omega
  have hi2 : (0 : Int) ≤ (a : Int) - 1 := by omega
  have hi3 : (a : Int) - 1 < (n : Int) := by omega
  obtain ⟨f, hf⟩ : ∃ f, P.startE l a = f := ⟨_, rfl⟩
  obtain ⟨s, hs⟩ : ∃ s, P.startE l (a - 1) = s := ⟨_, rfl⟩
  have hsa : s ≤ a - 1 := by rw [← hs]; exact P.startE_le _ _
  rw [hf, hs] at hfs
  have HSF := Lib.hid hf
  have HSS := Lib.hid hs
  have S1 : Hid (∀ w : World, Sl RN 6 w w.heap.size (some ⟨b, o, none⟩) n c l → Calls Try.prog 45 #[.slice (some ⟨b, o, none⟩) n c, .int .i64 (a : Int)] w fun e w' => e = .returned (.int .i64 (f : Int)) ∧ w = w') := fun w h => by rw [← HSF.out]; exact startI w h HK.out ha
  have S2 : Hid (∀ w : World, Sl RN 6 w w.heap.size (some ⟨b, o, none⟩) n c l → Calls Try.prog 45 #[.slice (some ⟨b, o, none⟩) n c, .int .i64 ((a : Int) - 1)] w fun e w' => e = .returned (.int .i64 (s : Int)) ∧ w = w') := fun w h => by rw [← HSS.out, show (a : Int) - 1 = ((a - 1 : Nat) : Int) by omega]; exact startI w h HK.out (by omega)
  clear hy hf hs
  by_cases h3 : x.op = 3
  · have t3 : (x.op == 3) = true := by simpa using h3
    obtain ⟨k, hk⟩ : ∃ k, P.opnds y.op = k := ⟨_, rfl⟩
    have OY := Lib.hid (opsI hk)
    by_cases h4 : P.two y.op
    · have hk2 : k = 2 := by rw [← hk]; exact P.opnds_two h4
      subst hk2
      obtain ⟨hs1, hs2⟩ := P.start_one HK.out HX.out (by rw [h3]; rfl)
      obtain ⟨hq1, hq2⟩ := P.start_two HK.out HY.out (P.opnds_two h4)
      have ha2 : 2 ≤ a := by omega
      obtain ⟨u, hu⟩ : ∃ u, P.startE l (a - 2) = u := ⟨_, rfl⟩
      have HSU := Lib.hid hu
      have hua : u ≤ a - 2 := by rw [← hu]; exact P.startE_le _ _
      have hfu : f ≤ u := by rw [← HSF.out, ← hu, hs2]; exact hq2
      have HO : Hid (P.ruleR l 2 a = some (P.seg l f u ++ [(⟨3, noWi⟩ : Nd)] ++ P.seg l u (a - 1) ++ [(⟨3, noWi⟩ : Nd), (⟨y.op, noWi⟩ : Nd)])) := by
        show _ = _
        rw [P.r2_yes (HOP.out.trans h3) (by rw [HOY.out]; exact h4), HSF.out, hu, HOY.out]
      have S3 : Hid (∀ w : World, Sl RN 6 w w.heap.size (some ⟨b, o, none⟩) n c l → Calls Try.prog 45 #[.slice (some ⟨b, o, none⟩) n c, .int .i64 ((a : Int) - 2)] w fun e w' => e = .returned (.int .i64 (u : Int)) ∧ w = w') := fun w h => by rw [← HSU.out, show (a : Int) - 2 = ((a - 2 : Nat) : Int) by omega]; exact startI w h HK.out (by omega)
      have q0 : (2 : Int) ≤ (a : Int) := by omega
      have q1 : (f : Int) ≤ (u : Int) := by omega
      have q2 : (u : Int) ≤ (a : Int) - 1 := by omega
      have q3 : (a : Int) - 1 ≤ (c : Int) := by omega
      have q4 : (u : Int) ≤ (c : Int) := by omega
      have hcf : c ≠ f := by omega
      have hcu : c ≠ u := by omega
      obtain ⟨q1s, M1, T1⟩ := (partS HH.out hfu (show u ≤ n by omega) hcf).src
      obtain ⟨q2s, M2, T2⟩ := (partS HH.out (show u ≤ a - 1 by omega) (show a - 1 ≤ n by omega) hcu).src
      have M1 := Lib.hid M1
      have M2 := Lib.hid M2
      have HT1 := Lib.hid T1
      have HT2 := Lib.hid T2
      have l1 : q1s.length = u - f := T1.len
      have l2 : q2s.length = a - 1 - u := T2.len
      have fy : Fit y.op := by unfold Fit; omega
      have f3 : Fit 3 := by unfold Fit; omega
      have L1 := Lib.hid l1
      have L2 := Lib.hid l2
      have b1 := (Below.refl w.heap.size w).alloc (Nat.le_refl _) (.cells #[] 55)
      have HB1 := Lib.hid b1
      have U1 := Lib.hid (T1.below b1 (Nat.le_refl _))
      have X0 := Lib.hid (Sh0 w w.heap.size (Nat.le_refl _))
      have h63a : ([] : List NdR).length + (u - f) ≤ maxLen := by unfold maxLen; simp; omega
      have hbya : (([] : List NdR).length + (u - f)) * 80 ≤ 140737488355328 := by simp; omega
      have hba : w.heap.size ≤ (w.alloc (.cells #[] 55)).heap.size := b1.size
      clear h3 h4 hk hs2 hu HX HOP HOY HY hq1 hq2 hs1 T1 T2 b1 l1 l2 h0
      go_enter Try.func44, Try.ntmps44
      go_wp2_with fail
      with_reducible refine (S1.out _ HH.out).mono ?_
      rintro e w9 ⟨rfl, rfl⟩
      go_wp2_with fail
      with_reducible refine (S2.out _ HH.out).mono ?_
      rintro e w9 ⟨rfl, rfl⟩
      go_wp2_with (go_at_call 62; with_reducible refine (OY.out _).mono ?_; rintro e w9 ⟨rfl, rfl⟩)
      with_reducible refine (S3.out _ HH.out).mono ?_
      rintro e w9 ⟨rfl, rfl⟩
      go_wp2_with (at_builtin; refine append_at rfl _ _ 25 rfl w.heap.size 55 i0 _ 6 80 Try.underlying25 hi hz0 hz1 hz2 rfl (Nat.zero_lt_succ 5) _ _ _ rfl X0.out.row (some ⟨b, o + f * 6, none⟩) (u - f) (c - f) (rdc q1s) rfl (srcL U1.out) U1.out.has U1.out.cells U1.out.rd.one h63a hbya hba ?_)
      intro v3 w3 ho3 hg3 ha3
      have X3 := X0.out.grow U1.out.rd (Nat.le_refl _) hba (by rw [List.length_nil, Nat.zero_add]; exact ho3) L1.out hg3
      have B3 := Lib.hid (HB1.out.trans (X3.2.mono (Nat.le_refl _)))
      have X3 := Lib.hid X3.1
      have hl3 : u - f = q1s.length := L1.out.symm
      rw [List.nil_append] at X3
      rw [hl3] at ho3
      obtain ⟨A3, c3, rfl, _, _⟩ := own_form ho3
      have hq1 : q1s.length ≤ 9 := by rw [L1.out]; omega
      have h63b : q1s.length + 1 ≤ maxLen := by unfold maxLen; omega
      have hbyb : (q1s.length + 1) * 80 ≤ 140737488355328 := by omega
      have hbb : ∀ o : Obj, w.heap.size ≤ (w3.alloc o).drew.heap.size := fun o => by show _ ≤ (w3.alloc o).heap.size; rw [World.size_alloc]; have := B3.out.size; omega
      have h63c : (q1s.length + 1) + (a - 1 - u) ≤ maxLen := by unfold maxLen; omega
      have hbyc : ((q1s.length + 1) + (a - 1 - u)) * 80 ≤ 140737488355328 := by omega
      have hwr : IntKind.i64.wrap ((a : Int) - 1) = (a : Int) - 1 := by rw [IntKind.wrap_i64]; omega
      clear ho3 hg3 ha3 h63a hbya hba U1 X0 HB1 hl3
      go_wp2_with fail
      go_region_held3 (fun _ => True) (trivial) (first | (refine step_append_slice _ (by rfl) _ _ 25 (by rfl) w.heap.size 55 i0 _ 6 80 Try.underlying25 hi hz0 hz1 hz2 rfl (Nat.zero_lt_succ 5) _ _ _ (by rfl) ((X3.out.row.alloc _).drew) (some ⟨w3.heap.size, 0, none⟩) 1 1 [.int .i64 3, .int .i64 0, .int .i64 0, .int .i64 0, .slice none 0 0, .slice none 0 0] (by rfl) rfl (fun _ => by simp) (fun ad hA => by injection hA with hA; subst hA; exact newCells _ _ _) (ones6 rfl rfl rfl rfl rfl rfl) h63b hbyb (hbb _) (w3.heap.size + 1) (by show (w3.alloc _).heap.size = _; rw [World.size_alloc]) ?_; intro v4 w4 ho4 hg4 ha4) | (refine step_append_slice _ (by rfl) _ _ 25 (by rfl) w.heap.size 55 i0 _ 6 80 Try.underlying25 hi hz0 hz1 hz2 rfl (Nat.zero_lt_succ 5) _ _ _ (by rfl) ho4 (some ⟨b, o + u * 6, none⟩) (a - 1 - u) (c - u) (rdc q2s) (by rfl) (srcL HT2.out) HT2.out.has (fun ad hA j z hz => by have := HT2.out.cells ad hA j z hz; exact ((((B3.out.alloc B3.out.size _).drew).grown hg4 (hbb _) (fun q hq => (X3.out.row.lt q hq).1)).cell (cell_lt this)).trans this) HT2.out.rd.one h63c hbyc (Nat.le_trans (hbb _) hg4.size) w4.heap.size rfl ?_; intro v5 w5 ho5 hg5 ha5))
      have bA := ((Below.refl w3.heap.size w3).alloc (Nat.le_refl _) (.cells #[.int .i64 3, .int .i64 0, .int .i64 0, .int .i64 0, .slice none 0 0, .slice none 0 0] 55)).drew
      have X4 := (X3.out.below bA B3.out.size).grow (rs := [bare 3]) (rdB _ _ f3) (Nat.le_refl _) (hbb _) (by exact ho4) rfl hg4
      have B4 := B3.out.trans ((bA.mono B3.out.size).trans X4.2)
      have hl4 : (q1s ++ [bare 3]).length = q1s.length + 1 := by simp
      have X5 := X4.1.grow (rs := q2s) (HT2.out.rd.below B4) (Nat.le_refl _) B4.size (by rw [hl4, rdc_app]; exact ho5) L2.out hg5
      have B5 := Lib.hid (B4.trans X5.2)
      have X5 := X5.1
      obtain ⟨ts, hts⟩ : ∃ ts, Hid (ts = q1s ++ [bare 3] ++ q2s) := ⟨_, rfl⟩
      rw [← hts.out] at X5
      have hl5 : Hid (ts.length = q1s.length + 1 + (a - 1 - u)) := by show _ = _; rw [hts.out, List.length_append, hl4, L2.out]
      obtain ⟨A5, c5, rfl, _, _⟩ := own_form X5.row
      have X5 := Lib.hid X5
      have htl : ts.length ≤ 20 := by have := hl5.out; omega
      have h63d : ts.length + 2 ≤ maxLen := by unfold maxLen; omega
      have hbyd : (ts.length + 2) * 80 ≤ 140737488355328 := by omega
      have hbd : ∀ o : Obj, w.heap.size ≤ (w5.alloc o).heap.size := fun o => by rw [World.size_alloc]; have := B5.out.size; omega
      have k5 := (cell_of B5.out b (o + (a - 1) * 6) hb).trans k0
      have hbw5 : b < w5.heap.size := by have := B5.out.size; omega
      clear ho4 hg4 ha4 ho5 hg5 ha5 bA X4 B4 X3 B3 hl4 h63b hbyb hbb h63c hbyc hwr
      go_wp2_with (at_builtin; refine append_at rfl _ _ 25 rfl w.heap.size 55 i0 _ 6 80 Try.underlying25 hi hz0 hz1 hz2 rfl (Nat.zero_lt_succ 5) _ _ _ rfl (X5.out.row.alloc _) (some ⟨w5.heap.size, 0, none⟩) 2 2 [.int .i64 3, .int .i64 0, .int .i64 0, .int .i64 0, .slice none 0 0, .slice none 0 0, .int .i64 y.op, .int .i64 0, .int .i64 0, .int .i64 0, .slice none 0 0, .slice none 0 0] rfl rfl (fun _ => by simp) (fun ad hA => by injection hA with hA; subst hA; exact newCells _ _ _) (ones12 _ _) h63d hbyd (hbd _) ?_)
      intro v6 w6 ho6 hg6 ha6
      have bB := (Below.refl w5.heap.size w5).alloc (Nat.le_refl _) (.cells #[.int .i64 3, .int .i64 0, .int .i64 0, .int .i64 0, .slice none 0 0, .slice none 0 0, .int .i64 y.op, .int .i64 0, .int .i64 0, .int .i64 0, .slice none 0 0, .slice none 0 0] 55)
      have X6 := (X5.out.below bB B5.out.size).grow (rs := [bare 3, bare y.op]) (rdB2 _ _ f3 fy) (Nat.le_refl _) (hbd _) (by exact ho6) rfl hg6
      have B6 := Lib.hid (B5.out.trans ((bB.mono B5.out.size).trans X6.2))
      have X6 := X6.1
      obtain ⟨zs, hzs⟩ : ∃ zs, Hid (zs = ts ++ [bare 3, bare y.op]) := ⟨_, rfl⟩
      rw [← hzs.out] at X6
      obtain ⟨A6, c6, rfl, _, _⟩ := own_form X6.row
      have R6 := Lib.hid X6.src
      have HM : Hid (zs.map (·.1) = P.seg l f u ++ [(⟨3, noWi⟩ : Nd)] ++ P.seg l u (a - 1) ++ [(⟨3, noWi⟩ : Nd), (⟨y.op, noWi⟩ : Nd)]) := by
        show _ = _
        rw [hzs.out, hts.out, List.map_append, List.map_append, List.map_append, M1.out, M2.out]
        rfl
      clear ho6 hg6 ha6 bB X6 X5 B5 hl5 hts hzs h63d hbyd hbd
      go_wp2
      go_ret2
      rw [HO.out]
      exact ⟨_, _, _, zs, rfl, HM, R6, B6.out⟩
    · have hk2 : k ≠ 2 := by
        rw [← hk]
        intro e
        unfold P.opnds at e
        unfold P.two at h4
        split at e
        · omega
        · split at e
          · omega
          · exact h4 ⟨by assumption, by assumption⟩
      have q2 : ((k : Int) == 2) = false := by simp; omega
      clear HX HY hk h0
      have HO : Hid (P.ruleR l 2 a = none) := P.r2_no (fun e => h4 (by rw [← HOY.out]; exact e.2))

      go_enter Try.func44, Try.ntmps44
      go_wp2_with fail
      with_reducible refine (S1.out _ HH.out).mono ?_
      rintro e w9 ⟨rfl, rfl⟩
      go_wp2_with fail
      with_reducible refine (S2.out _ HH.out).mono ?_
      rintro e w9 ⟨rfl, rfl⟩

      go_wp2_with (go_at_call 62; with_reducible refine (OY.out _).mono ?_; rintro e w9 ⟨rfl, rfl⟩)
      refine wp_region_qb (by kernel_rfl) (by kernel_rfl) ?_; (repeat (go_big_quiet_step ((fail)))); refine wpQuiet_nil ?_; intro w8 hb8
      go_wp2
      go_ret2
      rw [HO.out]
      exact ⟨⟨_, rfl⟩, hb8⟩
  · have t3 : (x.op == 3) = false := by simpa using h3
    clear HY HX h0
    have HO : Hid (P.ruleR l 2 a = none) := P.r2_no (fun e => h3 (HOP.out.symm.trans e.1))

    go_enter Try.func44, Try.ntmps44
    go_wp2_with fail
    with_reducible refine (S1.out _ HH.out).mono ?_
    rintro e w9 ⟨rfl, rfl⟩
    go_wp2_with fail
    with_reducible refine (S2.out _ HH.out).mono ?_
    rintro e w9 ⟨rfl, rfl⟩

    go_wp2_with fail
    refine wp_region_qb (by kernel_rfl) (by kernel_rfl) ?_; (repeat (go_big_quiet_step ((fail)))); refine wpQuiet_nil ?_; intro w8 hb8
    go_wp2
    go_ret2
    rw [HO.out]
    exact ⟨⟨_, rfl⟩, hb8⟩
set_option maxHeartbeats 1600000 in
set_option maxRecDepth 100000 in
theorem rw3 (w : World) (h : Sl RN 6 w w.heap.size A n c l) (hE : P.okE l = true) (ha : a < n) : Calls Try.prog 44 #[.slice A n c, .int .i64 3, .int .i64 a] w (RwRet w (P.ruleR l 3 a)) := by
  obtain ⟨i0, hi, hz0, hz1, hz2⟩ := info_parts info_node
  have HL := Lib.hid h.len
  have HK := Lib.hid hE
  have hle := h.le
  have hmx := h.max
  unfold maxLen at hmx
  have hn9 : n ≤ 9 := by have := (P.okE_len hE).1; have := HL.out; omega
  obtain ⟨b, o, x, A1, n1, d1, E1, m1, d2, eA, hb, hx, hf, hs, ht1, g0, g1, g2, g3, g4, g5⟩ := nodeAt h ha
  have HOP : Hid (P.opA l a = x.op) := P.opA_of hx
  have HX := Lib.hid hx
  obtain ⟨ob0, ob1⟩ := P.op_bd hE hx
  have hac : (a : Int) < (n : Int) := by omega
  have hnc : (n : Int) ≤ (c : Int) := by omega
  have HFI := Lib.hid (okE_fit HK.out)
  have HH := Lib.hid h
  subst eA
  clear g1 g2 g3 g4 g5 hs ht1 hf hx hE h hmx
  by_cases h0 : x.op = 0
  · have HO : Hid (P.ruleR l 3 a = none) := P.r0_no (HOP.out.trans h0)
    have hnz : (x.op == 0) = true := by simpa using h0
    clear h0
    go_enter Try.func44, Try.ntmps44
    go_wp2
    go_ret2
    rw [HO.out]
    exact ⟨⟨_, rfl⟩, Below.refl _ _⟩
  have hnz : (x.op == 0) = false := by simp; omega
  have ha1 : 1 ≤ a ∧ P.startE l a ≤ P.startE l (a - 1) := by
    by_cases h3 : x.op = 3
    · obtain ⟨k1, k2⟩ := P.start_one HK.out HX.out (by rw [h3]; rfl)
      exact ⟨k1, Nat.le_of_eq k2⟩
    · exact P.start_two HK.out HX.out (P.opnds_two ⟨h0, h3⟩)
  obtain ⟨ha1, hfs⟩ := ha1
  obtain ⟨b', o', y, _, _, _, _, _, _, eB, _, hy, _, _, _, k0, _, _, _, _, _⟩ := nodeAt HH.out (show a - 1 < n by omega)
  injection eB with eB
  injection eB with eB1 eB2 _
  subst eB1 eB2
  have HOY : Hid (P.opA l (a - 1) = y.op) := P.opA_of hy
  have HY := Lib.hid hy
  obtain ⟨oy0, oy1⟩ := P.op_bd HK.out hy
  have hi1 : ((a : Int) - 1).toNat = a - 1 := by omega
  have hi2 : (0 : Int) ≤ (a : Int) - 1 := by omega
  have hi3 : (a : Int) - 1 < (n : Int) := by omega
  obtain ⟨f, hf⟩ : ∃ f, P.startE l a = f := ⟨_, rfl⟩
  obtain ⟨s, hs⟩ : ∃ s, P.startE l (a - 1) = s := ⟨_, rfl⟩
  have hsa : s ≤ a - 1 := by rw [← hs]; exact P.startE_le _ _
  rw [hf, hs] at hfs
  have HSF := Lib.hid hf
  have HSS := Lib.hid hs
  have S1 : Hid (∀ w : World, Sl RN 6 w w.heap.size (some ⟨b, o, none⟩) n c l → Calls Try.prog 45 #[.slice (some ⟨b, o, none⟩) n c, .int .i64 (a : Int)] w fun e w' => e = .returned (.int .i64 (f : Int)) ∧ w = w') := fun w h => by rw [← HSF.out]; exact startI w h HK.out ha
  have S2 : Hid (∀ w : World, Sl RN 6 w w.heap.size (some ⟨b, o, none⟩) n c l → Calls Try.prog 45 #[.slice (some ⟨b, o, none⟩) n c, .int .i64 ((a : Int) - 1)] w fun e w' => e = .returned (.int .i64 (s : Int)) ∧ w = w') := fun w h => by rw [← HSS.out, show (a : Int) - 1 = ((a - 1 : Nat) : Int) by omega]; exact startI w h HK.out (by omega)
  clear hy hf hs
  obtain ⟨k, hk⟩ : ∃ k, P.opnds x.op = k := ⟨_, rfl⟩
  have OX := Lib.hid (opsI hk)
  by_cases h4 : P.two x.op
  · have hk2 : k = 2 := by rw [← hk]; exact P.opnds_two h4
    subst hk2
    have hcf : c ≠ f := by omega
    have hcs : c ≠ s := by omega
    have q1 : (f : Int) ≤ (s : Int) := by omega
    have q2 : (s : Int) ≤ (a : Int) := by omega
    have q3 : (a : Int) ≤ (c : Int) := by omega
    have q4 : (s : Int) ≤ (c : Int) := by omega
    have V1 := partS HH.out hfs (show s ≤ n by omega) hcf
    have V2 := partS HH.out (show s ≤ a by omega) (Nat.le_of_lt ha) hcs
    have HV1 := Lib.hid V1
    have HV2 := Lib.hid V2
    have HE1 : Hid (P.two (P.opA l a)) := by show P.two _; rw [HOP.out]; exact h4
    by_cases heq : P.seg l f s = P.seg l s a
    · have HO : Hid (P.ruleR l 3 a = some (P.seg l f s)) := by
        show _ = _
        have e1 := HSF.out
        have e2 := HSS.out
        subst e1 e2
        exact P.r3_yes HE1.out heq
      have HDQ : Hid (decide (P.seg l f s = P.seg l s a) = true) := by show _ = _; simpa using heq
      obtain ⟨qs, M1, T1⟩ := V1.src
      have M1 := Lib.hid M1
      have T1 := Lib.hid T1
      clear heq V1 V2 h4 hk HX HY h0
      go_enter Try.func44, Try.ntmps44
      go_wp2_with fail
      with_reducible refine (S1.out _ HH.out).mono ?_
      rintro e w9 ⟨rfl, rfl⟩
      go_wp2_with fail
      with_reducible refine (S2.out _ HH.out).mono ?_
      rintro e w9 ⟨rfl, rfl⟩
      go_wp2_with fail
      refine wp_region_qb (by kernel_rfl) (by kernel_rfl) ?_; (repeat (go_big_quiet_step ((first | (go_at_call 62; with_reducible exact quietS rfl (OX.out _)) | (go_at_call 80; with_reducible exact quietBb HDQ.out (implEqualExpressions _ (HV1.out.gr RN.keeps _ _) (HV2.out.gr RN.keeps _ _))))))); refine wpQuiet_nil ?_; intro w8 hb8
      have R8 := Lib.hid (T1.out.below hb8 (Nat.le_refl _))
      go_wp2
      go_ret2
      rw [HO.out]
      exact ⟨_, _, _, qs, rfl, M1, R8, hb8⟩
    · have HO : Hid (P.ruleR l 3 a = none) := by
        show _ = _
        have e1 := HSF.out
        have e2 := HSS.out
        subst e1 e2
        exact P.r3_no (fun e => heq e.2)
      have HDQ : Hid (decide (P.seg l f s = P.seg l s a) = false) := by show _ = _; simpa using heq
      clear heq V1 V2 h4 hk HX HY h0
      go_enter Try.func44, Try.ntmps44
      go_wp2_with fail
      with_reducible refine (S1.out _ HH.out).mono ?_
      rintro e w9 ⟨rfl, rfl⟩
      go_wp2_with fail
      with_reducible refine (S2.out _ HH.out).mono ?_
      rintro e w9 ⟨rfl, rfl⟩
      go_wp2_with fail
      refine wp_region_qb (by kernel_rfl) (by kernel_rfl) ?_; (repeat (go_big_quiet_step ((first | (go_at_call 62; with_reducible exact quietS rfl (OX.out _)) | (go_at_call 80; with_reducible exact quietBb HDQ.out (implEqualExpressions _ (HV1.out.gr RN.keeps _ _) (HV2.out.gr RN.keeps _ _))))))); refine wpQuiet_nil ?_; intro w8 hb8
      go_wp2
      go_ret2
      rw [HO.out]
      exact ⟨⟨_, rfl⟩, hb8⟩
  · have hk2 : k ≠ 2 := by
      rw [← hk]
      intro e
      unfold P.opnds at e
      unfold P.two at h4
      split at e
      · omega
      · split at e
        · omega
        · exact h4 ⟨by assumption, by assumption⟩
    have q2 : ((k : Int) == 2) = false := by simp; omega
    have HO : Hid (P.ruleR l 3 a = none) := P.r3_no (fun e => h4 (by rw [← HOP.out]; exact e.1))
    clear HX HY hk h0 h4
    go_enter Try.func44, Try.ntmps44
    go_wp2_with fail
    with_reducible refine (S1.out _ HH.out).mono ?_
    rintro e w9 ⟨rfl, rfl⟩
    go_wp2_with fail
    with_reducible refine (S2.out _ HH.out).mono ?_
    rintro e w9 ⟨rfl, rfl⟩
    go_wp2_with fail
    refine wp_region_qb (by kernel_rfl) (by kernel_rfl) ?_; (repeat (go_big_quiet_step ((go_at_call 62; with_reducible exact quietS rfl (OX.out _))))); refine wpQuiet_nil ?_; intro w8 hb8
    go_wp2
    go_ret2
    rw [HO.out]
    exact ⟨⟨_, rfl⟩, hb8⟩
set_option maxHeartbeats 1600000 in
set_option maxRecDepth 100000 in
theorem rw4 (w : World) (h : Sl RN 6 w w.heap.size A n c l) (hE : P.okE l = true) (ha : a < n) : Calls Try.prog 44 #[.slice A n c, .int .i64 4, .int .i64 a] w (RwRet w (P.ruleR l 4 a)) := by
  obtain ⟨i0, hi, hz0, hz1, hz2⟩ := info_parts info_node
  have HL := Lib.hid h.len
  have HK := Lib.hid hE
  have hle := h.le
  have hmx := h.max
  unfold maxLen at hmx
  have hn9 : n ≤ 9 := by have := (P.okE_len hE).1; have := HL.out; omega
  obtain ⟨b, o, x, A1, n1, d1, E1, m1, d2, eA, hb, hx, hf, hs, ht1, g0, g1, g2, g3, g4, g5⟩ := nodeAt h ha
  have HOP : Hid (P.opA l a = x.op) := P.opA_of hx
  have HX := Lib.hid hx
  obtain ⟨ob0, ob1⟩ := P.op_bd hE hx
  have hac : (a : Int) < (n : Int) := by omega
  have hnc : (n : Int) ≤ (c : Int) := by omega
  have HFI := Lib.hid (okE_fit HK.out)
  have HH := Lib.hid h
  subst eA
  clear g1 g2 g3 g4 g5 hs ht1 hf hx hE h hmx
  by_cases h0 : x.op = 0
  · have HO : Hid (P.ruleR l 4 a = none) := P.r0_no (HOP.out.trans h0)
    have hnz : (x.op == 0) = true := by simpa using h0
    clear h0
    go_enter Try.func44, Try.ntmps44
    go_wp2
    go_ret2
    rw [HO.out]
    exact ⟨⟨_, rfl⟩, Below.refl _ _⟩
  have hnz : (x.op == 0) = false := by simp; omega
  have ha1 : 1 ≤ a ∧ P.startE l a ≤ P.startE l (a - 1) := by
    by_cases h3 : x.op = 3
    · obtain ⟨k1, k2⟩ := P.start_one HK.out HX.out (by rw [h3]; rfl)
      exact ⟨k1, Nat.le_of_eq k2⟩
    · exact P.start_two HK.out HX.out (P.opnds_two ⟨h0, h3⟩)
  obtain ⟨ha1, hfs⟩ := ha1
  obtain ⟨b', o', y, _, _, _, _, _, _, eB, _, hy, _, _, _, k0, _, _, _, _, _⟩ := nodeAt HH.out (show a - 1 < n by omega)
  injection eB with eB
  injection eB with eB1 eB2 _
  subst eB1 eB2
  have HOY : Hid (P.opA l (a - 1) = y.op) := P.opA_of hy
  have HY := Lib.hid hy
  obtain ⟨oy0, oy1⟩ := P.op_bd HK.out hy
  have hi1 : ((a : Int) - 1).toNat = a - 1 := by omega
  have hi2 : (0 : Int) ≤ (a : Int) - 1 := by omega
  have hi3 : (a : Int) - 1 < (n : Int) := by omega
  obtain ⟨f, hf⟩ : ∃ f, P.startE l a = f := ⟨_, rfl⟩
  obtain ⟨s, hs⟩ : ∃ s, P.startE l (a - 1) = s := ⟨_, rfl⟩
  have hsa : s ≤ a - 1 := by rw [← hs]; exact P.startE_le _ _
  rw [hf, hs] at hfs
  have HSF := Lib.hid hf
  have HSS := Lib.hid hs
  have S1 : Hid (∀ w : World, Sl RN 6 w w.heap.size (some ⟨b, o, none⟩) n c l → Calls Try.prog 45 #[.slice (some ⟨b, o, none⟩) n c, .int .i64 (a : Int)] w fun e w' => e = .returned (.int .i64 (f : Int)) ∧ w = w') := fun w h => by rw [← HSF.out]; exact startI w h HK.out ha
  have S2 : Hid (∀ w : World, Sl RN 6 w w.heap.size (some ⟨b, o, none⟩) n c l → Calls Try.prog 45 #[.slice (some ⟨b, o, none⟩) n c, .int .i64 ((a : Int) - 1)] w fun e w' => e = .returned (.int .i64 (s : Int)) ∧ w = w') := fun w h => by rw [← HSS.out, show (a : Int) - 1 = ((a - 1 : Nat) : Int) by omega]; exact startI w h HK.out (by omega)
  clear hy hf hs
  by_cases h14 : x.op = 1 ∨ x.op = 4
  · have HO : Hid (P.ruleR l 4 a = some (P.seg l s a ++ P.seg l f s ++ [(⟨x.op, noWi⟩ : Nd)])) := by
      show _ = _
      rw [P.r4_yes (by rw [HOP.out]; exact h14), HSF.out, HSS.out, HOP.out]
    have hcf : c ≠ f := by omega
    have hcs : c ≠ s := by omega
    have q1 : (f : Int) ≤ (s : Int) := by omega
    have q2 : (s : Int) ≤ (a : Int) := by omega
    have q3 : (a : Int) ≤ (c : Int) := by omega
    have q4 : (s : Int) ≤ (c : Int) := by omega
    have V1 := partS HH.out hfs (show s ≤ n by omega) hcf
    have V2 := partS HH.out (show s ≤ a by omega) (Nat.le_of_lt ha) hcs
    have HV1 := Lib.hid V1
    have HV2 := Lib.hid V2
    obtain ⟨q1s, M1, T1⟩ := V1.src
    obtain ⟨q2s, M2, T2⟩ := V2.src
    have M1 := Lib.hid M1
    have M2 := Lib.hid M2
    have L1 : Hid (q1s.length = s - f) := T1.len
    have L2 : Hid (q2s.length = a - s) := T2.len
    have T1 := Lib.hid T1
    have T2 := Lib.hid T2
    have fx : Fit x.op := by unfold Fit; omega
    have h63a : ([] : List NdR).length + (a - s) ≤ maxLen := by unfold maxLen; simp; omega
    have hbya : (([] : List NdR).length + (a - s)) * 80 ≤ 140737488355328 := by simp; omega
    clear V1 V2 HX HY h0 HV1 HV2
    rcases h14 with h14 | h14
    · have t1 : (x.op == 1) = true := by simpa using h14
      clear h14
      go_enter Try.func44, Try.ntmps44
      go_wp2_with fail
      with_reducible refine (S1.out _ HH.out).mono ?_
      rintro e w9 ⟨rfl, rfl⟩
      go_wp2_with fail
      with_reducible refine (S2.out _ HH.out).mono ?_
      rintro e w9 ⟨rfl, rfl⟩
      go_wp2_with fail
      refine wp_region_qb (by kernel_rfl) (by kernel_rfl) ?_; (repeat (go_big_quiet_step ((fail)))); refine wpQuiet_nil ?_; intro w8 hb8
      have HB8 := Lib.hid hb8
      have b1 := (Below.refl w8.heap.size w8).alloc (Nat.le_refl _) (.cells #[] 55)
      have HB1 := Lib.hid (hb8.trans (b1.mono hb8.size))
      have U2 := Lib.hid (T2.out.below HB1.out (Nat.le_refl _))
      have X0 := Lib.hid (Sh0 w8 w.heap.size hb8.size)
      have hba : w.heap.size ≤ (w8.alloc (.cells #[] 55)).heap.size := HB1.out.size
      clear hb8 b1
      go_wp2_with (at_builtin; refine append_at rfl _ _ 25 rfl w.heap.size 55 i0 _ 6 80 Try.underlying25 hi hz0 hz1 hz2 rfl (Nat.zero_lt_succ 5) _ _ _ rfl X0.out.row (some ⟨b, o + s * 6, none⟩) (a - s) (c - s) (rdc q2s) rfl (srcL U2.out) U2.out.has U2.out.cells U2.out.rd.one h63a hbya hba ?_)
      intro v3 w3 ho3 hg3 ha3
      have X3 := X0.out.grow U2.out.rd (Nat.le_refl _) hba (by rw [List.length_nil, Nat.zero_add]; exact ho3) L2.out hg3
      have B3 := Lib.hid (HB1.out.trans (X3.2.mono (Nat.le_refl _)))
      have X3 := Lib.hid X3.1
      have hl3 : a - s = q2s.length := L2.out.symm
      rw [List.nil_append] at X3
      rw [hl3] at ho3
      obtain ⟨A3, c3, rfl, _, _⟩ := own_form ho3
      have hq1 : q2s.length ≤ 9 := by rw [L2.out]; omega
      have U3 := Lib.hid (T1.out.below B3.out (Nat.le_refl _))
      have h63b : q2s.length + (s - f) ≤ maxLen := by unfold maxLen; omega
      have hbyb : (q2s.length + (s - f)) * 80 ≤ 140737488355328 := by omega
      have hbb : w.heap.size ≤ w3.heap.size := B3.out.size
      clear ho3 hg3 ha3 h63a hbya hba U2 X0 HB1 hl3
      go_wp2_with (at_builtin; refine append_at rfl _ _ 25 rfl w.heap.size 55 i0 _ 6 80 Try.underlying25 hi hz0 hz1 hz2 rfl (Nat.zero_lt_succ 5) _ _ _ rfl X3.out.row (some ⟨b, o + f * 6, none⟩) (s - f) (c - f) (rdc q1s) rfl (srcL U3.out) U3.out.has U3.out.cells U3.out.rd.one h63b hbyb hbb ?_)
      intro v4 w4 ho4 hg4 ha4
      have X4 := X3.out.grow U3.out.rd (Nat.le_refl _) hbb ho4 L1.out hg4
      have B4 := Lib.hid (B3.out.trans X4.2)
      have X4 := X4.1
      obtain ⟨ts, hts⟩ : ∃ ts, Hid (ts = q2s ++ q1s) := ⟨_, rfl⟩
      rw [← hts.out] at X4
      have htl : Hid (ts.length = q2s.length + (s - f)) := by show _ = _; rw [hts.out, List.length_append, L1.out]
      obtain ⟨A4, c4, rfl, _, _⟩ := own_form X4.row
      have X4 := Lib.hid X4
      have hl4 : ts.length ≤ 20 := by have := htl.out; omega
      have h63c : ts.length + 1 ≤ maxLen := by unfold maxLen; omega
      have hbyc : (ts.length + 1) * 80 ≤ 140737488355328 := by omega
      have hbc : ∀ o : Obj, w.heap.size ≤ (w4.alloc o).heap.size := fun o => by rw [World.size_alloc]; have := B4.out.size; omega
      clear ho4 hg4 ha4 X3 B3 U3 h63b hbyb hbb
      go_wp2_with (at_builtin; refine append_at rfl _ _ 25 rfl w.heap.size 55 i0 _ 6 80 Try.underlying25 hi hz0 hz1 hz2 rfl (Nat.zero_lt_succ 5) _ _ _ rfl (X4.out.row.alloc _) (some ⟨w4.heap.size, 0, none⟩) 1 1 [.int .i64 x.op, .int .i64 0, .int .i64 0, .int .i64 0, .slice none 0 0, .slice none 0 0] rfl rfl (fun _ => by simp) (fun ad hA => by injection hA with hA; subst hA; exact newCells _ _ _) (ones6 rfl rfl rfl rfl rfl rfl) h63c hbyc (hbc _) ?_)
      intro v6 w6 ho6 hg6 ha6
      have bB := (Below.refl w4.heap.size w4).alloc (Nat.le_refl _) (.cells #[.int .i64 x.op, .int .i64 0, .int .i64 0, .int .i64 0, .slice none 0 0, .slice none 0 0] 55)
      have X6 := (X4.out.below bB B4.out.size).grow (rs := [bare x.op]) (rdB _ _ fx) (Nat.le_refl _) (hbc _) (by exact ho6) rfl hg6
      have B6 := Lib.hid (B4.out.trans ((bB.mono B4.out.size).trans X6.2))
      have X6 := X6.1
      obtain ⟨zs, hzs⟩ : ∃ zs, Hid (zs = ts ++ [bare x.op]) := ⟨_, rfl⟩
      rw [← hzs.out] at X6
      obtain ⟨A6, c6, rfl, _, _⟩ := own_form X6.row
      have R6 := Lib.hid X6.src
      have HM : Hid (zs.map (·.1) = P.seg l s a ++ P.seg l f s ++ [(⟨x.op, noWi⟩ : Nd)]) := by
        show _ = _
        rw [hzs.out, hts.out, List.map_append, List.map_append, M1.out, M2.out]
        rfl
      clear ho6 hg6 ha6 bB X6 X4 B4 htl hts hzs h63c hbyc hbc
      go_wp2
      go_ret2
      rw [HO.out]
      exact ⟨_, _, _, zs, rfl, HM, R6, B6.out⟩
    · have t1 : (x.op == 1) = false := by simp; omega
      have t4 : (x.op == 4) = true := by simpa using h14
      clear h14
      go_enter Try.func44, Try.ntmps44
      go_wp2_with fail
      with_reducible refine (S1.out _ HH.out).mono ?_
      rintro e w9 ⟨rfl, rfl⟩
      go_wp2_with fail
      with_reducible refine (S2.out _ HH.out).mono ?_
      rintro e w9 ⟨rfl, rfl⟩
      go_wp2_with fail
      refine wp_region_qb (by kernel_rfl) (by kernel_rfl) ?_; (repeat (go_big_quiet_step ((fail)))); refine wpQuiet_nil ?_; intro w8 hb8
      have HB8 := Lib.hid hb8
      have b1 := (Below.refl w8.heap.size w8).alloc (Nat.le_refl _) (.cells #[] 55)
      have HB1 := Lib.hid (hb8.trans (b1.mono hb8.size))
      have U2 := Lib.hid (T2.out.below HB1.out (Nat.le_refl _))
      have X0 := Lib.hid (Sh0 w8 w.heap.size hb8.size)
      have hba : w.heap.size ≤ (w8.alloc (.cells #[] 55)).heap.size := HB1.out.size
      clear hb8 b1
      go_wp2_with (at_builtin; refine append_at rfl _ _ 25 rfl w.heap.size 55 i0 _ 6 80 Try.underlying25 hi hz0 hz1 hz2 rfl (Nat.zero_lt_succ 5) _ _ _ rfl X0.out.row (some ⟨b, o + s * 6, none⟩) (a - s) (c - s) (rdc q2s) rfl (srcL U2.out) U2.out.has U2.out.cells U2.out.rd.one h63a hbya hba ?_)
      intro v3 w3 ho3 hg3 ha3
      have X3 := X0.out.grow U2.out.rd (Nat.le_refl _) hba (by rw [List.length_nil, Nat.zero_add]; exact ho3) L2.out hg3
      have B3 := Lib.hid (HB1.out.trans (X3.2.mono (Nat.le_refl _)))
      have X3 := Lib.hid X3.1
      have hl3 : a - s = q2s.length := L2.out.symm
      rw [List.nil_append] at X3
      rw [hl3] at ho3
      obtain ⟨A3, c3, rfl, _, _⟩ := own_form ho3
      have hq1 : q2s.length ≤ 9 := by rw [L2.out]; omega
      have U3 := Lib.hid (T1.out.below B3.out (Nat.le_refl _))
      have h63b : q2s.length + (s - f) ≤ maxLen := by unfold maxLen; omega
      have hbyb : (q2s.length + (s - f)) * 80 ≤ 140737488355328 := by omega
      have hbb : w.heap.size ≤ w3.heap.size := B3.out.size
      clear ho3 hg3 ha3 h63a hbya hba U2 X0 HB1 hl3
      go_wp2_with (at_builtin; refine append_at rfl _ _ 25 rfl w.heap.size 55 i0 _ 6 80 Try.underlying25 hi hz0 hz1 hz2 rfl (Nat.zero_lt_succ 5) _ _ _ rfl X3.out.row (some ⟨b, o + f * 6, none⟩) (s - f) (c - f) (rdc q1s) rfl (srcL U3.out) U3.out.has U3.out.cells U3.out.rd.one h63b hbyb hbb ?_)
      intro v4 w4 ho4 hg4 ha4
      have X4 := X3.out.grow U3.out.rd (Nat.le_refl _) hbb ho4 L1.out hg4
      have B4 := Lib.hid (B3.out.trans X4.2)
      have X4 := X4.1
      obtain ⟨ts, hts⟩ : ∃ ts, Hid (ts = q2s ++ q1s) := ⟨_, rfl⟩
      rw [← hts.out] at X4
      have htl : Hid (ts.length = q2s.length + (s - f)) := by show _ = _; rw [hts.out, List.length_append, L1.out]
      obtain ⟨A4, c4, rfl, _, _⟩ := own_form X4.row
      have X4 := Lib.hid X4
      have hl4 : ts.length ≤ 20 := by have := htl.out; omega
      have h63c : ts.length + 1 ≤ maxLen := by unfold maxLen; omega
      have hbyc : (ts.length + 1) * 80 ≤ 140737488355328 := by omega
      have hbc : ∀ o : Obj, w.heap.size ≤ (w4.alloc o).heap.size := fun o => by rw [World.size_alloc]; have := B4.out.size; omega
      clear ho4 hg4 ha4 X3 B3 U3 h63b hbyb hbb
      go_wp2_with (at_builtin; refine append_at rfl _ _ 25 rfl w.heap.size 55 i0 _ 6 80 Try.underlying25 hi hz0 hz1 hz2 rfl (Nat.zero_lt_succ 5) _ _ _ rfl (X4.out.row.alloc _) (some ⟨w4.heap.size, 0, none⟩) 1 1 [.int .i64 x.op, .int .i64 0, .int .i64 0, .int .i64 0, .slice none 0 0, .slice none 0 0] rfl rfl (fun _ => by simp) (fun ad hA => by injection hA with hA; subst hA; exact newCells _ _ _) (ones6 rfl rfl rfl rfl rfl rfl) h63c hbyc (hbc _) ?_)
      intro v6 w6 ho6 hg6 ha6
      have bB := (Below.refl w4.heap.size w4).alloc (Nat.le_refl _) (.cells #[.int .i64 x.op, .int .i64 0, .int .i64 0, .int .i64 0, .slice none 0 0, .slice none 0 0] 55)
      have X6 := (X4.out.below bB B4.out.size).grow (rs := [bare x.op]) (rdB _ _ fx) (Nat.le_refl _) (hbc _) (by exact ho6) rfl hg6
      have B6 := Lib.hid (B4.out.trans ((bB.mono B4.out.size).trans X6.2))
      have X6 := X6.1
      obtain ⟨zs, hzs⟩ : ∃ zs, Hid (zs = ts ++ [bare x.op]) := ⟨_, rfl⟩
      rw [← hzs.out] at X6
      obtain ⟨A6, c6, rfl, _, _⟩ := own_form X6.row
      have R6 := Lib.hid X6.src
      have HM : Hid (zs.map (·.1) = P.seg l s a ++ P.seg l f s ++ [(⟨x.op, noWi⟩ : Nd)]) := by
        show _ = _
        rw [hzs.out, hts.out, List.map_append, List.map_append, M1.out, M2.out]
        rfl
      clear ho6 hg6 ha6 bB X6 X4 B4 htl hts hzs h63c hbyc hbc
      go_wp2
      go_ret2
      rw [HO.out]
      exact ⟨_, _, _, zs, rfl, HM, R6, B6.out⟩
  · have t1 : (x.op == 1) = false := by simp; omega
    have t4 : (x.op == 4) = false := by simp; omega
    clear HX HY h0
    have HO : Hid (P.ruleR l 4 a = none) := P.r4_no (by rw [HOP.out]; exact h14)

    go_enter Try.func44, Try.ntmps44
    go_wp2_with fail
    with_reducible refine (S1.out _ HH.out).mono ?_
    rintro e w9 ⟨rfl, rfl⟩
    go_wp2_with fail
    with_reducible refine (S2.out _ HH.out).mono ?_
    rintro e w9 ⟨rfl, rfl⟩

    go_wp2_with fail
    refine wp_region_qb (by kernel_rfl) (by kernel_rfl) ?_; (repeat (go_big_quiet_step ((fail)))); refine wpQuiet_nil ?_; intro w8 hb8
    go_wp2
    go_ret2
    rw [HO.out]
    exact ⟨⟨_, rfl⟩, hb8⟩
set_option maxHeartbeats 1600000 in
set_option maxRecDepth 100000 in
theorem rwN (w : World) (h : Sl RN 6 w w.heap.size A n c l) (hE : P.okE l = true) (ha : a < n) (r1 : r ≠ 1) (r2 : r ≠ 2) (r3 : r ≠ 3) (r4 : r ≠ 4) : Calls Try.prog 44 #[.slice A n c, .int .i64 r, .int .i64 a] w (RwRet w (P.ruleR l r a)) := by
  obtain ⟨i0, hi, hz0, hz1, hz2⟩ := info_parts info_node
  have HL := Lib.hid h.len
  have HK := Lib.hid hE
  have hle := h.le
  have hmx := h.max
  unfold maxLen at hmx
  have hn9 : n ≤ 9 := by have := (P.okE_len hE).1; have := HL.out; omega
  obtain ⟨b, o, x, A1, n1, d1, E1, m1, d2, eA, hb, hx, hf, hs, ht1, g0, g1, g2, g3, g4, g5⟩ := nodeAt h ha
  have HOP : Hid (P.opA l a = x.op) := P.opA_of hx
  have HX := Lib.hid hx
  obtain ⟨ob0, ob1⟩ := P.op_bd hE hx
  have hac : (a : Int) < (n : Int) := by omega
  have hnc : (n : Int) ≤ (c : Int) := by omega
  have HFI := Lib.hid (okE_fit HK.out)
  have HH := Lib.hid h
  subst eA
  clear g1 g2 g3 g4 g5 hs ht1 hf hx hE h hmx
  by_cases h0 : x.op = 0
  · have HO : Hid (P.ruleR l r a = none) := P.r0_no (HOP.out.trans h0)
    have hnz : (x.op == 0) = true := by simpa using h0
    clear h0
    go_enter Try.func44, Try.ntmps44
    go_wp2
    go_ret2
    rw [HO.out]
    exact ⟨⟨_, rfl⟩, Below.refl _ _⟩
  have hnz : (x.op == 0) = false := by simp; omega
  have ha1 : 1 ≤ a ∧ P.startE l a ≤ P.startE l (a - 1) := by
    by_cases h3 : x.op = 3
    · obtain ⟨k1, k2⟩ := P.start_one HK.out HX.out (by rw [h3]; rfl)
      exact ⟨k1, Nat.le_of_eq k2⟩
    · exact P.start_two HK.out HX.out (P.opnds_two ⟨h0, h3⟩)
  obtain ⟨ha1, hfs⟩ := ha1
  obtain ⟨b', o', y, _, _, _, _, _, _, eB, _, hy, _, _, _, k0, _, _, _, _, _⟩ := nodeAt HH.out (show a - 1 < n by omega)
  injection eB with eB
  injection eB with eB1 eB2 _
  subst eB1 eB2
  have HOY : Hid (P.opA l (a - 1) = y.op) := P.opA_of hy
  have HY := Lib.hid hy
  obtain ⟨oy0, oy1⟩ := P.op_bd HK.out hy
  have hi1 : ((a : Int) - 1).toNat = a - 1 := by omega
  have hi2 : (0 : Int) ≤ (a : Int) - 1 := by omega
  have hi3 : (a : Int) - 1 < (n : Int) := by omega
  obtain ⟨f, hf⟩ : ∃ f, P.startE l a = f := ⟨_, rfl⟩
  obtain ⟨s, hs⟩ : ∃ s, P.startE l (a - 1) = s := ⟨_, rfl⟩
  have hsa : s ≤ a - 1 := by rw [← hs]; exact P.startE_le _ _
  rw [hf, hs] at hfs
  have HSF := Lib.hid hf
  have HSS := Lib.hid hs
  have S1 : Hid (∀ w : World, Sl RN 6 w w.heap.size (some ⟨b, o, none⟩) n c l → Calls Try.prog 45 #[.slice (some ⟨b, o, none⟩) n c, .int .i64 (a : Int)] w fun e w' => e = .returned (.int .i64 (f : Int)) ∧ w = w') := fun w h => by rw [← HSF.out]; exact startI w h HK.out ha
  have S2 : Hid (∀ w : World, Sl RN 6 w w.heap.size (some ⟨b, o, none⟩) n c l → Calls Try.prog 45 #[.slice (some ⟨b, o, none⟩) n c, .int .i64 ((a : Int) - 1)] w fun e w' => e = .returned (.int .i64 (s : Int)) ∧ w = w') := fun w h => by rw [← HSS.out, show (a : Int) - 1 = ((a - 1 : Nat) : Int) by omega]; exact startI w h HK.out (by omega)
  clear hy hf hs
  have t1 : (r == 1) = false := by simpa using r1
  have t2 : (r == 2) = false := by simpa using r2
  have t3 : (r == 3) = false := by simpa using r3
  have t4 : (r == 4) = false := by simpa using r4
  clear HX HY h0
  have HO : Hid (P.ruleR l r a = none) := P.rn_no r1 r2 r3 r4

  go_enter Try.func44, Try.ntmps44
  go_wp2_with fail
  with_reducible refine (S1.out _ HH.out).mono ?_
  rintro e w9 ⟨rfl, rfl⟩
  go_wp2_with fail
  with_reducible refine (S2.out _ HH.out).mono ?_
  rintro e w9 ⟨rfl, rfl⟩

  go_wp2_with fail
  refine wp_region_qb (by kernel_rfl) (by kernel_rfl) ?_; (repeat (go_big_quiet_step ((fail)))); refine wpQuiet_nil ?_; intro w8 hb8
  go_wp2
  go_ret2
  rw [HO.out]
  exact ⟨⟨_, rfl⟩, hb8⟩
theorem rewritten (w : World) (h : Sl RN 6 w w.heap.size A n c l) (hE : P.okE l = true) (ha : a < n) : Calls Try.prog 44 #[.slice A n c, .int .i64 r, .int .i64 a] w (RwRet w (P.ruleR l r a)) := by
  by_cases r1 : r = 1
  · subst r1; exact rw1 w h hE ha
  by_cases r2 : r = 2
  · subst r2; exact rw2 w h hE ha
  by_cases r3 : r = 3
  · subst r3; exact rw3 w h hE ha
  by_cases r4 : r = 4
  · subst r4; exact rw4 w h hE ha
  exact rwN w h hE ha r1 r2 r3 r4
end
end Go.Proofs.Ytgjghpaenliliaa.Wk

namespace Go.Proofs.Ytgjghpaenliliaa.Wk
open Go.RowKit Go.Proofs.Ytgjghpaenliliaa.M
set_option linter.unusedVariables false
set_option linter.unusedSimpArgs false
attribute [local go_sem] cell_grow

theorem nilSrc (w : World) (lo : Nat) (A : Option Addr) : Src w lo A 0 0 [] := ⟨rfl, Nat.le_refl _, Nat.zero_le _, Rd.nil _ _, fun h => absurd h (Nat.lt_irrefl 0), fun ad _ j u hu => by simp [rdc] at hu⟩
theorem rdMore {w : World} {lo lo2 : Nat} {qs : List NdR} (h : Rd w lo qs) (hl : lo ≤ lo2) : Rd w lo2 qs := fun p hp => ⟨(h p hp).1, RN.keeps.more (h p hp).2 hl⟩
theorem shSl {w : World} {lo base : Nat} {A : Option Addr} {c : Nat} {qs : List NdR} (h : Sh w lo base 55 (.slice A qs.length c) qs) (hl : lo ≤ w.heap.size) : Sl RN 6 w w.heap.size A qs.length c (qs.map (·.1)) := by
  obtain ⟨A', n', c', e, hS⟩ := h.V hl
  injection e with e1 e2 e3
  subst e1 e2 e3
  exact hS
set_option maxHeartbeats 1600000 in
set_option maxRecDepth 100000 in
theorem implApplyRule {A : Option Addr} {n c : Nat} {l : List Nd} {r a : Int} (w : World) (h : Sl RN 6 w w.heap.size A n c l) (hn : n ≤ 1048576) (hfit : ∀ x ∈ l, x.wish.list.length ≤ 1048576 ∧ x.wish.pairs.length ≤ 1048576) (ha : Fit a) : Calls Try.prog 18 #[.slice A n c, .int .i64 r, .int .i64 a] w (RetNd2 w (P.applyR l r a) (P.applyB l r a)) := by
  obtain ⟨i0, hi, hz0, hz1, hz2⟩ := info_parts info_node
  have HL := Lib.hid h.len
  have hle := h.le
  have hmx := h.max
  unfold maxLen at hmx
  have HH := Lib.hid h
  have HFT := Lib.hid hfit
  cases hok : P.okE l with
  | false =>
    have HN : Hid (P.applyO l r a = none) := applyO_out (.inl hok)
    have HB : Hid (P.applyB l r a = false) := by show _ = _; unfold P.applyB; rw [HN.out]; rfl
    have HR : Hid (P.applyR l r a = l) := by show _ = _; unfold P.applyR; rw [HN.out]; rfl
    go_enter Try.func18, Try.ntmps18
    go_wp2_with (go_at_call 28; refine (implIsExpression _ h).mono ?_; rintro e w2 ⟨rfl, b2⟩; rw [hok])
    with_reducible refine (copyNodes _ (HH.out.on RN.keeps b2) hn HFT.out).mono ?_
    rintro e w3 ⟨v, rfl, ho, b3⟩
    go_wp2
    go_ret2
    refine ⟨v, by rw [HB.out]; rfl, ?_, b2.trans (b3.mono b2.size)⟩
    rw [HR.out]
    exact ownNd_mono ho b2.size
  | true =>
    have HK := Lib.hid hok
    cases hin : P.inR a 0 ((n : Int) - 1) with
    | false =>
      have HN : Hid (P.applyO l r a = none) := applyO_out (.inr (by rw [HL.out]; exact hin))
      have HB : Hid (P.applyB l r a = false) := by show _ = _; unfold P.applyB; rw [HN.out]; rfl
      have HR : Hid (P.applyR l r a = l) := by show _ = _; unfold P.applyR; rw [HN.out]; rfl
      go_enter Try.func18, Try.ntmps18
      go_wp2_with (first | (go_at_call 28; refine (implIsExpression _ h).mono ?_; rintro e w2 ⟨rfl, b2⟩; rw [hok]) | (go_at_call 42; refine (within _ _ _ _).mono ?_; rintro e w9 ⟨rfl, rfl⟩; rw [hin]))
      with_reducible refine (copyNodes _ (HH.out.on RN.keeps b2) hn HFT.out).mono ?_
      rintro e w3 ⟨v, rfl, ho, b3⟩
      go_wp2
      go_ret2
      refine ⟨v, by rw [HB.out]; rfl, ?_, b2.trans (b3.mono b2.size)⟩
      rw [HR.out]
      exact ownNd_mono ho b2.size
    | true =>
      obtain ⟨a0, a1⟩ := P.inR_t hin
      obtain ⟨k, rfl⟩ := Int.eq_ofNat_of_zero_le a0
      have hkn : k < n := by omega
      have HO : Hid (P.applyO l r k = P.ruO l r k) := applyO_in hok (by rw [HL.out]; exact hin)
      cases hru : P.ruleR l r k with
      | none =>
        have HN : Hid (P.applyO l r k = none) := HO.out.trans (P.ruO_none hru)
        have HRU := Lib.hid hru
        have HB : Hid (P.applyB l r k = false) := by show _ = _; unfold P.applyB; rw [HN.out]; rfl
        have HR : Hid (P.applyR l r k = l) := by show _ = _; unfold P.applyR; rw [HN.out]; rfl
        clear hru
        go_enter Try.func18, Try.ntmps18
        go_wp2_with (first | (go_at_call 28; refine (implIsExpression _ h).mono ?_; rintro e w2 ⟨rfl, b2⟩; rw [hok]) | (go_at_call 42; refine (within _ _ _ _).mono ?_; rintro e w9 ⟨rfl, rfl⟩; rw [hin]))
        with_reducible refine (rewritten _ (HH.out.on RN.keeps b2) HK.out hkn).mono ?_
        rw [HRU.out]
        rintro e w3 ⟨⟨v0, rfl⟩, b3⟩
        have B3 := b2.trans (b3.mono b2.size)
        go_wp2_with fail
        with_reducible refine (copyNodes _ (HH.out.on RN.keeps B3) hn HFT.out).mono ?_
        rintro e w4 ⟨v, rfl, ho, b4⟩
        go_wp2
        go_ret2
        refine ⟨v, by rw [HB.out]; rfl, ?_, B3.trans (b4.mono B3.size)⟩
        rw [HR.out]
        exact ownNd_mono ho B3.size
      | some p =>
        have HRU := Lib.hid hru
        have hn9 : n ≤ 9 := by have := (P.okE_len HK.out).1; have := HL.out; omega
        have hp21 := P.ruleR_len HK.out hru
        have HPM := Lib.hid (P.ruleR_mem hru)
        obtain ⟨lo, hlo⟩ : ∃ lo, P.startE l k = lo := ⟨_, rfl⟩
        have hlk : lo ≤ k := by rw [← hlo]; exact P.startE_le l k
        have HSL := Lib.hid hlo
        have S1 : Hid (∀ w : World, Sl RN 6 w w.heap.size A n c l → Calls Try.prog 45 #[.slice A n c, .int .i64 (k : Int)] w fun e w' => e = .returned (.int .i64 (lo : Int)) ∧ w = w') := fun w h => by rw [← HSL.out]; exact startI w h HK.out hkn
        have HPU : Hid (P.putR l k p = l.take lo ++ p ++ l.drop (k + 1)) := by show _ = _; unfold P.putR; rw [hlo]
        have q1 : (lo : Int) ≤ (n : Int) := by omega
        have q2 : (n : Int) ≤ (c : Int) := by omega
        have q3 : (k : Int) + 1 ≤ (n : Int) := by omega
        have q4 : (lo : Int) ≤ (c : Int) := by omega
        obtain ⟨q1s, M1, T1⟩ := (headAt h (show lo ≤ n by omega)).src
        have L1 : Hid (q1s.length = lo) := T1.len
        have M1 := Lib.hid M1
        have T1 := Lib.hid T1
        have tail : ∃ (A5 : Option Addr) (q5s : List NdR), (c = k + 1 → A5 = A) ∧ (c ≠ k + 1 → A5 = A.map (·.add ((k + 1) * 6))) ∧ q5s.map (·.1) = l.drop (k + 1) ∧ Src w w.heap.size A5 (n - (k + 1)) (c - (k + 1)) q5s := by
          by_cases hca : c = k + 1
          · refine ⟨A, [], fun _ => rfl, fun e => absurd hca e, ?_, ?_⟩
            · rw [List.drop_eq_nil_of_le (by rw [HL.out]; omega)]; rfl
            · rw [show n - (k + 1) = 0 by omega, show c - (k + 1) = 0 by omega]; exact nilSrc _ _ _
          · obtain ⟨q5s, M5, T5⟩ := (partAt h (show k + 1 ≤ n by omega) (Nat.le_refl n)).src
            rw [if_neg hca] at T5
            refine ⟨_, q5s, fun e => absurd e hca, fun _ => rfl, ?_, T5⟩
            rw [M5, seg_end HL.out]
        obtain ⟨A5, q5s, hA1, hA2, M5, T5⟩ := tail
        have L5 : Hid (q5s.length = n - (k + 1)) := T5.len
        have M5 := Lib.hid M5
        have T5 := Lib.hid T5
        have HA1 := Lib.hid hA1
        have HA2 := Lib.hid hA2
        clear hru hlo hA1 hA2
        go_enter Try.func18, Try.ntmps18
        go_wp2_with (first | (go_at_call 28; refine (implIsExpression _ h).mono ?_; rintro e w2 ⟨rfl, b2⟩; rw [hok]) | (go_at_call 42; refine (within _ _ _ _).mono ?_; rintro e w9 ⟨rfl, rfl⟩; rw [hin]))
        have h2 := HH.out.on RN.keeps b2
        with_reducible refine (rewritten _ h2 HK.out hkn).mono ?_
        rw [HRU.out]
        rintro e w3 ⟨Ap, mp, cp, qp, rfl, Mp, Tp, b3⟩
        have B3 := Lib.hid (b2.trans (b3.mono b2.size))
        have z2 := b2.size
        have Lp : Hid (qp.length = mp) := Tp.out.len
        have hmp : mp ≤ 21 := by rw [← Lp.out, ← List.length_map (f := (·.1)), Mp.out]; exact hp21
        have Zp : Hid (w2.heap.size ≤ w3.heap.size) := b3.size
        clear b2 b3 h2
        have b1 := (Below.refl w3.heap.size w3).alloc (Nat.le_refl _) (.cells #[] 55)
        have HB1 := Lib.hid b1
        have U1 := Lib.hid (T1.out.below (B3.out.trans (b1.mono B3.out.size)) (Nat.le_refl _))
        have X0 := Lib.hid (Sh0 w3 w3.heap.size (Nat.le_refl _))
        have hba : w3.heap.size ≤ (w3.alloc (.cells #[] 55)).heap.size := b1.size
        have h63a : ([] : List NdR).length + lo ≤ maxLen := by unfold maxLen; simp; omega
        have hbya : (([] : List NdR).length + lo) * 80 ≤ 140737488355328 := by simp; omega
        have hS := HH.out.on RN.keeps (B3.out.trans (b1.mono B3.out.size))
        clear b1
        go_wp2_with fail
        with_reducible refine (S1.out _ hS).mono ?_
        rintro e w9 ⟨rfl, rfl⟩
        clear hS
        go_wp2_with (at_builtin; refine append_at rfl _ _ 25 rfl w3.heap.size 55 i0 _ 6 80 Try.underlying25 hi hz0 hz1 hz2 rfl (Nat.zero_lt_succ 5) _ _ _ rfl X0.out.row A lo c (rdc q1s) rfl (srcL U1.out) U1.out.has U1.out.cells U1.out.rd.one h63a hbya hba ?_)
        intro v4 w4 ho4 hg4 ha4
        have hB4 : Below w3.heap.size w3 w4 := HB1.out.trans ((Below.refl w3.heap.size _).grown hg4 hba (fun q hq => (X0.out.row.lt q hq).1))
        have BB4 := Lib.hid hB4
        have R4 : Hid (w4.ownsRow w3.heap.size 55 6 v4 lo (rdc q1s)) := by show World.ownsRow _ _ _ _ _ _ _; simpa [rdc] using ho4
        obtain ⟨A4, c4, rfl, _, _⟩ := own_form R4.out
        have D4 := (Below.refl w4.heap.size w4).drew
        have TP := Lib.hid (Tp.out.below (hB4.trans (D4.mono hB4.size)) Zp.out)
        have BD := Lib.hid (B3.out.trans ((hB4.trans (D4.mono hB4.size)).mono B3.out.size))
        have Z3 : Hid (w.heap.size ≤ w3.heap.size) := B3.out.size
        have h63b : lo + mp ≤ maxLen := by unfold maxLen; omega
        have hbyb : (lo + mp) * 80 ≤ 140737488355328 := by omega
        have hbb : w3.heap.size ≤ w4.drew.heap.size := hB4.size
        have hwr : IntKind.i64.wrap ((k : Int) + 1) = (k : Int) + 1 := by rw [IntKind.wrap_i64]; omega
        have FITQ : Hid (∀ x ∈ P.putR l k p, x.wish.list.length ≤ 1048576 ∧ x.wish.pairs.length ≤ 1048576) := mem_fit HFT.out (fun x hx => by
          rcases P.putR_mem hx with hx | hx
          · exact .inl hx
          · rcases HPM.out x hx with hx | hx | hx | hx
            · exact .inl hx
            · exact .inr (by rw [hx])
            · exact .inr (by rw [hx])
            · exact .inr (by rw [hx]))
        have HNo : Hid (¬ (P.putR l k p).length ≤ 9 → P.applyO l r k = none) := fun hl => HO.out.trans (P.ruO_long HRU.out hl)
        have HYes : Hid ((P.putR l k p).length ≤ 9 → P.applyO l r k = some (P.putR l k p)) := fun hl => HO.out.trans (P.ruO_of HRU.out hl)
        have hw0 : (0 : Int) ≤ (k : Int) + 1 := by omega
        have hw1 : ((k : Int) + 1).toNat = k + 1 := by omega
        clear ho4 hg4 ha4 X0 U1 HB1 h63a hbya hba hB4 D4 hp21
        by_cases hca : c = k + 1
        · have hnk : n = k + 1 := by omega
          have e5 := HA1.out hca
          have e6 : n - (k + 1) = 0 := by omega
          have e7 : c - (k + 1) = 0 := by omega
          rw [e5, e6, e7] at T5
          rw [e6] at L5
          have h63c : (lo + mp) + 0 ≤ maxLen := by unfold maxLen; omega
          have hbyc : ((lo + mp) + 0) * 80 ≤ 140737488355328 := by omega
          clear HA1 HA2 e5 e6 e7
          go_wp2_with fail
          go_region_held3 (fun _ => True) (trivial) (first | (refine step_append_slice _ (by rfl) _ _ 25 (by rfl) w3.heap.size 55 i0 _ 6 80 Try.underlying25 hi hz0 hz1 hz2 rfl (Nat.zero_lt_succ 5) _ _ _ (by rfl) (R4.out.drew) Ap mp cp (rdc qp) (by rfl) (srcL TP.out) TP.out.has TP.out.cells TP.out.rd.one h63b hbyb hbb w4.heap.size rfl ?_; intro v5 w5 ho5 hg5 ha5) | (refine step_append_slice _ (by rfl) _ _ 25 (by rfl) w3.heap.size 55 i0 _ 6 80 Try.underlying25 hi hz0 hz1 hz2 rfl (Nat.zero_lt_succ 5) _ _ _ (by rfl) ho5 A 0 0 (rdc q5s) (by rfl) (srcL T5.out) T5.out.has (T5.out.below (BD.out.trans (((Below.refl w3.heap.size w4.drew).grown hg5 hbb (fun q hq => (R4.out.lt q hq).1)).mono Z3.out)) (Nat.le_refl _)).cells T5.out.rd.one h63c hbyc (Nat.le_trans hbb hg5.size) w5.heap.size rfl ?_; intro v6 w6 ho6 hg6 ha6))
          have b5 := (Below.refl w3.heap.size w4.drew).grown hg5 hbb (fun q hq => (R4.out.lt q hq).1)
          have b6 := b5.grown hg6 (Nat.le_trans hbb hg5.size) (fun q hq => (ho5.lt q hq).1)
          have B6 := BD.out.trans (b6.mono Z3.out)
          have X6 : Hid (Sh w6 w2.heap.size w3.heap.size 55 v6 (q1s ++ qp ++ q5s)) := by
            refine ⟨?_, ?_⟩
            · rw [rdc_app, rdc_app, List.length_append, List.length_append, L1.out, Lp.out, L5.out]
              exact ho6
            · have r1 := rdMore (T1.out.below B6 (Nat.le_refl _)).rd z2
              have r2 := TP.out.rd.below (b6.mono Zp.out)
              have r3 := rdMore (T5.out.below B6 (Nat.le_refl _)).rd z2
              exact (r1.app r2).app r3
          obtain ⟨ts, hts⟩ : ∃ ts, Hid (ts = q1s ++ qp ++ q5s) := ⟨_, rfl⟩
          rw [← hts.out] at X6
          have HM : Hid (ts.map (·.1) = P.putR l k p) := by show _ = _; rw [hts.out, HPU.out, List.map_append, List.map_append, M1.out, Mp.out, M5.out]
          have htl : Hid (ts.length = lo + mp + 0) := by show _ = _; rw [hts.out, List.length_append, List.length_append, L1.out, Lp.out, L5.out]
          have hpl : Hid ((P.putR l k p).length = ts.length) := by show _ = _; rw [← HM.out, List.length_map]
          have Z6 : Hid (w2.heap.size ≤ w6.heap.size) := Nat.le_trans Zp.out (Nat.le_trans hbb b6.size)
          obtain ⟨A6, c6, rfl, hle6, hm6⟩ := own_form X6.out.row
          have V6 : Hid (Sl RN 6 w6 w6.heap.size A6 ts.length c6 (P.putR l k p)) := by
            show Sl _ _ _ _ _ _ _ _
            rw [← HM.out]
            exact shSl X6.out Z6.out
          have hB6 := Lib.hid B6
          have H6 := Lib.hid (show Sl RN 6 w6 w6.heap.size A (k + 1) (k + 1) l by have := HH.out.on RN.keeps B6; rwa [hnk, hca] at this)
          have hm40 : ts.length ≤ 40 := by have := htl.out; omega
          clear ho5 hg5 ha5 ho6 hg6 ha6 b5 b6 B6 X6 h63c hbyc h63b hbyb hbb hwr hw0 hw1 TP BD R4 hle6
          by_cases hlen : ts.length ≤ 9
          · have t9 : (ts.length : Int) ≤ 9 := by omega
            have t9' : ¬ (9 : Int) < (ts.length : Int) := by omega
            have HN : Hid (P.applyO l r k = some (P.putR l k p)) := HYes.out (by rw [hpl.out]; exact hlen)
            have HB : Hid (P.applyB l r k = true) := by show _ = _; unfold P.applyB; rw [HN.out]; rfl
            have HR : Hid (P.applyR l r k = P.putR l k p) := by show _ = _; unfold P.applyR; rw [HN.out]; rfl
            go_wp2_with fail
            with_reducible refine (copyNodes _ V6.out (by omega) FITQ.out).mono ?_
            rintro e w7 ⟨v, rfl, ho, b7⟩
            go_wp2
            go_ret2
            refine ⟨v, by rw [HB.out]; rfl, ?_, hB6.out.trans (b7.mono hB6.out.size)⟩
            rw [HR.out]
            exact ownNd_mono ho hB6.out.size
          · have t9 : ¬ (ts.length : Int) ≤ 9 := by omega
            have t9' : (9 : Int) < (ts.length : Int) := by omega
            have HN : Hid (P.applyO l r k = none) := HNo.out (by rw [hpl.out]; exact hlen)
            have HB : Hid (P.applyB l r k = false) := by show _ = _; unfold P.applyB; rw [HN.out]; rfl
            have HR : Hid (P.applyR l r k = l) := by show _ = _; unfold P.applyR; rw [HN.out]; rfl
            go_wp2_with fail
            with_reducible refine (copyNodes _ H6.out (by omega) HFT.out).mono ?_
            rintro e w7 ⟨v, rfl, ho, b7⟩
            go_wp2
            go_ret2
            refine ⟨v, by rw [HB.out]; rfl, ?_, hB6.out.trans (b7.mono hB6.out.size)⟩
            rw [HR.out]
            exact ownNd_mono ho hB6.out.size
        · have e5 := HA2.out hca
          rw [e5] at T5
          have h63c : (lo + mp) + (n - (k + 1)) ≤ maxLen := by unfold maxLen; omega
          have hbyc : ((lo + mp) + (n - (k + 1))) * 80 ≤ 140737488355328 := by omega
          clear HA1 HA2 e5
          go_wp2_with fail
          go_region_held3 (fun _ => True) (trivial) (first | (refine step_append_slice _ (by rfl) _ _ 25 (by rfl) w3.heap.size 55 i0 _ 6 80 Try.underlying25 hi hz0 hz1 hz2 rfl (Nat.zero_lt_succ 5) _ _ _ (by rfl) (R4.out.drew) Ap mp cp (rdc qp) (by rfl) (srcL TP.out) TP.out.has TP.out.cells TP.out.rd.one h63b hbyb hbb w4.heap.size rfl ?_; intro v5 w5 ho5 hg5 ha5) | (refine step_append_slice _ (by rfl) _ _ 25 (by rfl) w3.heap.size 55 i0 _ 6 80 Try.underlying25 hi hz0 hz1 hz2 rfl (Nat.zero_lt_succ 5) _ _ _ (by rfl) ho5 (A.map (·.add ((k + 1) * 6))) (n - (k + 1)) (c - (k + 1)) (rdc q5s) (by rfl) (srcL T5.out) T5.out.has (T5.out.below (BD.out.trans (((Below.refl w3.heap.size w4.drew).grown hg5 hbb (fun q hq => (R4.out.lt q hq).1)).mono Z3.out)) (Nat.le_refl _)).cells T5.out.rd.one h63c hbyc (Nat.le_trans hbb hg5.size) w5.heap.size rfl ?_; intro v6 w6 ho6 hg6 ha6))
          have b5 := (Below.refl w3.heap.size w4.drew).grown hg5 hbb (fun q hq => (R4.out.lt q hq).1)
          have b6 := b5.grown hg6 (Nat.le_trans hbb hg5.size) (fun q hq => (ho5.lt q hq).1)
          have B6 := BD.out.trans (b6.mono Z3.out)
          have X6 : Hid (Sh w6 w2.heap.size w3.heap.size 55 v6 (q1s ++ qp ++ q5s)) := by
            refine ⟨?_, ?_⟩
            · rw [rdc_app, rdc_app, List.length_append, List.length_append, L1.out, Lp.out, L5.out]
              exact ho6
            · have r1 := rdMore (T1.out.below B6 (Nat.le_refl _)).rd z2
              have r2 := TP.out.rd.below (b6.mono Zp.out)
              have r3 := rdMore (T5.out.below B6 (Nat.le_refl _)).rd z2
              exact (r1.app r2).app r3
          obtain ⟨ts, hts⟩ : ∃ ts, Hid (ts = q1s ++ qp ++ q5s) := ⟨_, rfl⟩
          rw [← hts.out] at X6
          have HM : Hid (ts.map (·.1) = P.putR l k p) := by show _ = _; rw [hts.out, HPU.out, List.map_append, List.map_append, M1.out, Mp.out, M5.out]
          have htl : Hid (ts.length = lo + mp + (n - (k + 1))) := by show _ = _; rw [hts.out, List.length_append, List.length_append, L1.out, Lp.out, L5.out]
          have hpl : Hid ((P.putR l k p).length = ts.length) := by show _ = _; rw [← HM.out, List.length_map]
          have Z6 : Hid (w2.heap.size ≤ w6.heap.size) := Nat.le_trans Zp.out (Nat.le_trans hbb b6.size)
          obtain ⟨A6, c6, rfl, hle6, hm6⟩ := own_form X6.out.row
          have V6 : Hid (Sl RN 6 w6 w6.heap.size A6 ts.length c6 (P.putR l k p)) := by
            show Sl _ _ _ _ _ _ _ _
            rw [← HM.out]
            exact shSl X6.out Z6.out
          have hB6 := Lib.hid B6
          have H6 := Lib.hid (HH.out.on RN.keeps B6)
          have hm40 : ts.length ≤ 40 := by have := htl.out; omega
          clear ho5 hg5 ha5 ho6 hg6 ha6 b5 b6 B6 X6 h63c hbyc h63b hbyb hbb hwr hw0 hw1 TP BD R4 hle6
          by_cases hlen : ts.length ≤ 9
          · have t9 : (ts.length : Int) ≤ 9 := by omega
            have t9' : ¬ (9 : Int) < (ts.length : Int) := by omega
            have HN : Hid (P.applyO l r k = some (P.putR l k p)) := HYes.out (by rw [hpl.out]; exact hlen)
            have HB : Hid (P.applyB l r k = true) := by show _ = _; unfold P.applyB; rw [HN.out]; rfl
            have HR : Hid (P.applyR l r k = P.putR l k p) := by show _ = _; unfold P.applyR; rw [HN.out]; rfl
            go_wp2_with fail
            with_reducible refine (copyNodes _ V6.out (by omega) FITQ.out).mono ?_
            rintro e w7 ⟨v, rfl, ho, b7⟩
            go_wp2
            go_ret2
            refine ⟨v, by rw [HB.out]; rfl, ?_, hB6.out.trans (b7.mono hB6.out.size)⟩
            rw [HR.out]
            exact ownNd_mono ho hB6.out.size
          · have t9 : ¬ (ts.length : Int) ≤ 9 := by omega
            have t9' : (9 : Int) < (ts.length : Int) := by omega
            have HN : Hid (P.applyO l r k = none) := HNo.out (by rw [hpl.out]; exact hlen)
            have HB : Hid (P.applyB l r k = false) := by show _ = _; unfold P.applyB; rw [HN.out]; rfl
            have HR : Hid (P.applyR l r k = l) := by show _ = _; unfold P.applyR; rw [HN.out]; rfl
            go_wp2_with fail
            with_reducible refine (copyNodes _ H6.out (by omega) HFT.out).mono ?_
            rintro e w7 ⟨v, rfl, ho, b7⟩
            go_wp2
            go_ret2
            refine ⟨v, by rw [HB.out]; rfl, ?_, hB6.out.trans (b7.mono hB6.out.size)⟩
            rw [HR.out]
            exact ownNd_mono ho hB6.out.size
end Go.Proofs.Ytgjghpaenliliaa.Wk

namespace Go.Proofs.Ytgjghpaenliliaa.Wk
open Go.RowKit Go.Proofs.Ytgjghpaenliliaa.M
set_option linter.unusedVariables false

theorem cnt_tot : ∀ (l : List Nd), cntN l ≤ 4 * totN l
  | [] => Nat.zero_le _
  | x :: t => by
    have := cnt_tot t
    simp only [cntN, totN, cnt1]
    omega
theorem cnt_drop (l : List Nd) (i : Nat) : cntN (l.drop i) ≤ cntN l := by
  have := cntN_app (l.take i) (l.drop i)
  rw [List.take_append_drop] at this; omega
theorem cnt_sub (l : List Nd) (a : Int) : cntN (subR l a) ≤ 4 * totN l := by
  refine Nat.le_trans ?_ (cnt_tot l)
  unfold subR
  split
  · exact Nat.le_trans (cntN_le _ _) (cnt_drop _ _)
  · exact Nat.zero_le _
end Go.Proofs.Ytgjghpaenliliaa.Wk

namespace Go.Proofs.Ytgjghpaenliliaa.Wk
open Go.RowKit Go.Proofs.Ytgjghpaenliliaa.M
set_option linter.unusedVariables false

theorem cnt1_30 {l : List Nd} (h : P.okE l = true) {x : Nd} (hx : x ∈ l) : cnt1 x ≤ 30 := by
  obtain ⟨i, hi⟩ := List.getElem?_of_mem hx
  have hok := (P.okE_at h hi).1
  unfold P.okN at hok
  rw [Bool.and_eq_true] at hok
  obtain ⟨_, h2⟩ := hok
  unfold cnt1
  split at h2
  · have h3 := P.okW_listlen h2
    have h4 := P.okW_pairslen h2
    omega
  · unfold P.noW at h2
    simp only [decide_eq_true_eq] at h2
    obtain ⟨_, _, _, h3, h4⟩ := h2
    rw [h3, h4]; simp
theorem cnt_all : ∀ (l : List Nd) (m : Nat), (∀ x ∈ l, cnt1 x ≤ m) → cntN l ≤ m * l.length
  | [], m, _ => by simp [cntN]
  | x :: t, m, h => by
    have h1 := h x (by simp)
    have h2 := cnt_all t m (fun y hy => h y (by simp [hy]))
    simp only [cntN, List.length_cons, Nat.mul_add]
    omega
theorem cnt_apply (l : List Nd) (r a : Int) : cntN (P.applyR l r a) ≤ 4 * totN l + 270 := by
  cases e : P.applyO l r a with
  | none =>
    have : P.applyR l r a = l := by unfold P.applyR; rw [e]; rfl
    rw [this]
    have := cnt_tot l
    omega
  | some q =>
    have hq : P.applyR l r a = q := by unfold P.applyR; rw [e]; rfl
    have hE : P.okE l = true := by
      cases h : P.okE l with
      | true => rfl
      | false => rw [applyO_out (.inl h)] at e; cases e
    have hl : q.length ≤ 9 := by
      unfold P.applyO at e
      split at e
      · exact P.ruO_len (r := r) (a := a.toNat) e
      · cases e
    have h30 : ∀ x ∈ q, cnt1 x ≤ 30 := by
      intro x hx
      rw [← hq] at hx
      rcases P.applyR_mem hx with hx | ⟨op, rfl, _⟩
      · exact cnt1_30 hE hx
      · simp [cnt1, noWi]
    rw [hq]
    have := cnt_all q 30 h30
    omega
theorem tot_len : ∀ (l : List Nd), l.length ≤ totN l ∧ ∀ x ∈ l, x.wish.list.length ≤ totN l ∧ x.wish.pairs.length ≤ totN l
  | [] => ⟨Nat.zero_le _, fun x hx => absurd hx (by simp)⟩
  | y :: t => by
    obtain ⟨h1, h2⟩ := tot_len t
    simp only [totN, List.length_cons]
    refine ⟨by omega, fun x hx => ?_⟩
    rcases List.mem_cons.1 hx with rfl | hx
    · omega
    · have := h2 x hx; omega
theorem specApplyRuleV {v : Value} {l : List Nd} {r a : Int} (w : World) (h : V RN 6 w w.heap.size v l) (fr : Fit r) (fa : Fit a) (ht : totN l ≤ 1048576) : Calls Try.prog 17 #[v, .int .i64 r, .int .i64 a] w (RetNd2 w (P.applyR l r a) (P.applyB l r a)) := by
  obtain ⟨A, n, c, rfl, h⟩ := h
  obtain ⟨h1, h2⟩ := tot_len l
  exact specApplyRule w h (by have := h.len; omega) (fun x hx => by have := h2 x hx; omega) fa
theorem implApplyRuleV {v : Value} {l : List Nd} {r a : Int} (w : World) (h : V RN 6 w w.heap.size v l) (fr : Fit r) (fa : Fit a) (ht : totN l ≤ 1048576) : Calls Try.prog 18 #[v, .int .i64 r, .int .i64 a] w (RetNd2 w (P.applyR l r a) (P.applyB l r a)) := by
  obtain ⟨A, n, c, rfl, h⟩ := h
  obtain ⟨h1, h2⟩ := tot_len l
  exact implApplyRule w h (by have := h.len; omega) (fun x hx => by have := h2 x hx; omega) fa
end Go.Proofs.Ytgjghpaenliliaa.Wk

namespace Go.Proofs.Ytgjghpaenliliaa.Wk
open Go.RowKit Go.Proofs.Ytgjghpaenliliaa.M
set_option linter.unusedVariables false

set_option maxHeartbeats 3200000 in
set_option maxRecDepth 100000 in
theorem FnExactApplyRule_no0 (w : World) (v0 : Value) (x0 : List Nd) (e0 : V RN 6 w w.heap.size v0 x0) (x1 : Int) (e1 : (Lit.int .i64 x1).wf = true) (x2 : Int) (e2 : (Lit.int .i64 x2).wf = true)  (hbad : 1048576 < totN x0) : Calls Try.prog 5 #[v0, .int .i64 x1, .int .i64 x2] w fun e w' => e = .returned (.bool true) ∧ Below w.heap.size w w' := by
  have B0 := Below.refl w.heap.size w
  have H0 := Lib.hid e0
  have FT0 := Lib.hid (fitNsV e0)
  have f1 := fit_wf e1
  have f2 := fit_wf e2
  clear e0
  go_enter Try.func5, Try.ntmps5
  have HB0 := B0.size
  go_wp2_with fail
  refine (szV_nodes _ (V_on RN.keeps H0.out B0) (by omega) (by omega)).mono ?_
  rintro e w1 ⟨rfl, b1⟩
  have z1 := b1.size
  have B1 := B0.trans (b1.mono B0.size)
  clear b1
  rw [less_no (left := 1048576) (t := totN x0) (by omega)]
  go_wp2_with fail
  go_ret
  exact ⟨rfl, B1⟩
set_option maxHeartbeats 3200000 in
set_option maxRecDepth 100000 in
theorem FnExactApplyRule_yes (w : World) (v0 : Value) (x0 : List Nd) (e0 : V RN 6 w w.heap.size v0 x0) (x1 : Int) (e1 : (Lit.int .i64 x1).wf = true) (x2 : Int) (e2 : (Lit.int .i64 x2).wf = true) (hfit : totN x0 ≤ 1048576) : Calls Try.prog 5 #[v0, .int .i64 x1, .int .i64 x2] w fun e w' => e = .returned (.bool true) ∧ Below w.heap.size w w' := by
  have B0 := Below.refl w.heap.size w
  have H0 := Lib.hid e0
  have FT0 := Lib.hid (fitNsV e0)
  have f1 := fit_wf e1
  have f2 := fit_wf e2
  clear e0
  have ct0 := cnt_tot x0
  have FR := Lib.hid (P.applyR_fit (r := x1) (at_ := x2) FT0.out)
  go_enter Try.func5, Try.ntmps5
  have HB0 := B0.size
  go_wp2_with fail
  refine (szV_nodes _ (V_on RN.keeps H0.out B0) (by omega) (by omega)).mono ?_
  rintro e w1 ⟨rfl, b1⟩
  have z1 := b1.size
  have B1 := B0.trans (b1.mono B0.size)
  clear b1
  rw [less_fit (left := 1048576) (t := totN x0) (by omega)]
  go_wp2_with fail
  refine (toO_nodes _ (V_on RN.keeps H0.out B1) (by omega)).mono ?_
  rintro e w2 ⟨ut0, rfl, Ot0, b2⟩
  have z2 := b2.size
  have B2 := B1.trans (b2.mono B1.size)
  clear b2
  go_wp2_with fail
  refine (specApplyRuleV _ (Ot0.read FT0.out) f1 f2 hfit).mono ?_
  rintro e w3 ⟨w0, rfl, Ow, b3⟩
  have z3 := b3.size
  have B3 := B2.trans (b3.mono B2.size)
  clear b3
  have W0 := Ow.read FR.out
  clear Ow Ot0
  go_wp2_with fail
  refine (toO_nodes _ (V_on RN.keeps H0.out B3) (by omega)).mono ?_
  rintro e w4 ⟨ux0, rfl, Ox0, b4⟩
  have z4 := b4.size
  have B4 := B3.trans (b4.mono B3.size)
  have W0 := W0.below RN.keeps (b4.mono (by omega))
  clear b4
  go_wp2_with fail
  refine (implApplyRuleV _ (Ox0.read FT0.out) f1 f2 hfit).mono ?_
  rintro e w5 ⟨g0, rfl, Og, b5⟩
  have z5 := b5.size
  have B5 := B4.trans (b5.mono B4.size)
  have W0 := W0.below RN.keeps (b5.mono (by omega))
  have Ox0 := Ox0.below b5
  clear b5
  go_wp2_with fail
  refine (eqO_nodes _ Og FR.out W0 (by omega)).mono ?_
  rintro e w6 ⟨rfl, b6⟩
  have z6 := b6.size
  have B6 := B5.trans (b6.mono B5.size)
  have W0 := W0.below RN.keeps (b6.mono (by omega))
  have Ox0 := Ox0.below b6
  have Og := Og.below b6
  clear b6
  go_wp2_with fail
  refine (toO_nodes _ (V_on RN.keeps H0.out B6) (by omega)).mono ?_
  rintro e w7 ⟨y0, rfl, Oy, b7⟩
  have z7 := b7.size
  have B7 := B6.trans (b7.mono B6.size)
  have W0 := W0.below RN.keeps (b7.mono (by omega))
  have Ox0 := Ox0.below b7
  have Og := Og.below b7
  clear b7
  have Vy := Oy.read FT0.out
  go_wp2_with fail
  refine (eqO_nodes _ Ox0 FT0.out Vy (by omega)).mono ?_
  clear Oy Vy
  rintro e w8 ⟨rfl, b8⟩
  have z8 := b8.size
  have B8 := B7.trans (b8.mono B7.size)
  have W0 := W0.below RN.keeps (b8.mono (by omega))
  have Ox0 := Ox0.below b8
  have Og := Og.below b8
  clear b8
  go_wp2_with fail
  refine (mark_nodes (k := 1) _ Ox0 (by omega) (by omega)).mono ?_
  clear Ox0
  rintro e w9 ⟨rfl, _, c9⟩
  have z9 := c9.size
  have B9 := B8.trans (below_chg c9 (by have := B8.size; omega))
  have W0 := W0.below RN.keeps (below_chg c9 (by omega))
  have Og := Og.rng c9 (by omega)
  clear c9
  have hk : ¬ (1 + ((cntN x0 : Nat) : Int) < 0) := by omega
  go_wp2_with fail
  refine (eqO_nodes _ Og FR.out W0 (by omega)).mono ?_
  rintro e w10 ⟨rfl, b10⟩
  have z10 := b10.size
  have B10 := B9.trans (b10.mono B9.size)
  have W0 := W0.below RN.keeps (b10.mono (by omega))
  have Og := Og.below b10
  clear b10
  go_wp2_with fail
  refine (mark_nodes (k := 1) _ Og (by omega) (by have := cnt_apply x0 x1 x2; omega)).mono ?_
  clear Og
  rintro e w11 ⟨rfl, Om, c11⟩
  have z11 := c11.size
  have B11 := B10.trans (below_chg c11 (by have := B10.size; omega))
  have W0 := W0.below RN.keeps (below_chg c11 (by omega))
  clear c11
  have hq : ¬ (1 + ((cntN (P.applyR x0 x1 x2) : Nat) : Int) < 0) := by omega
  have hm : ((1 + ((cntN (P.applyR x0 x1 x2) : Nat) : Int)) != (1 + ((cntN (P.applyR x0 x1 x2) : Nat) : Int))) = false := by simp
  go_wp2_with fail
  refine (held_nodes (k := 1) _ Om (by omega) (by have := cnt_apply x0 x1 x2; omega)).mono ?_
  rintro e wz ⟨rfl, rfl⟩
  go_wp2_with fail
  refine (toO_nodes _ (V_on RN.keeps H0.out B11) (by omega)).mono ?_
  rintro e w12 ⟨uh0, rfl, Oh0, b12⟩
  have z12 := b12.size
  have B12 := B11.trans (b12.mono B11.size)
  have W0 := W0.below RN.keeps (b12.mono (by omega))
  have Om := Om.below b12
  clear b12
  go_wp2_with fail
  refine (implApplyRuleV _ (Oh0.read FT0.out) f1 f2 hfit).mono ?_
  rintro e w13 ⟨h0, rfl, Oh, b13⟩
  have z13 := b13.size
  have B13 := B12.trans (b13.mono B12.size)
  have W0 := W0.below RN.keeps (b13.mono (by omega))
  have Om := Om.below b13
  clear b13
  clear Oh0
  go_wp2_with fail
  refine (eqO_nodes _ Oh FR.out W0 (by omega)).mono ?_
  rintro e w14 ⟨rfl, b14⟩
  have z14 := b14.size
  have B14 := B13.trans (b14.mono B13.size)
  have W0 := W0.below RN.keeps (b14.mono (by omega))
  have Om := Om.below b14
  have Oh := Oh.below b14
  clear b14
  clear Oh
  go_wp2_with fail
  refine (held_nodes (k := 1) _ Om (by omega) (by have := cnt_apply x0 x1 x2; omega)).mono ?_
  rintro e wz ⟨rfl, rfl⟩
  go_wp2_with fail
  go_ret
  exact ⟨rfl, B14⟩
theorem FnExactApplyRule (w : World) (v0 : Value) (x0 : List Nd) (e0 : V RN 6 w w.heap.size v0 x0) (x1 : Int) (e1 : (Lit.int .i64 x1).wf = true) (x2 : Int) (e2 : (Lit.int .i64 x2).wf = true) : Calls Try.prog 5 #[v0, .int .i64 x1, .int .i64 x2] w fun e w' => e = .returned (.bool true) ∧ Below w.heap.size w w' := by
  by_cases h0 : 1048576 < totN x0
  · exact FnExactApplyRule_no0 w v0 x0 e0 x1 e1 x2 e2  h0
  exact FnExactApplyRule_yes w v0 x0 e0 x1 e1 x2 e2 (by omega)
end Go.Proofs.Ytgjghpaenliliaa.Wk

namespace Go.Proofs.Ytgjghpaenliliaa
open Go Go.RowKit Go.ChangeShapes Go.WideShapes Go.Deep Go.Proofs.Ytgjghpaenliliaa.M

theorem op_node {H : Type} {enc : TypeId × Value → H} {W : World} {P : Program} {e ti tw : TypeId} {f0 f1 : Field} (hs : P.underlying e = some (.struct #[f0, f1])) (hi : P.underlying ti = some (.int .i64)) (hC : P.cellsOf e = 6) (hci : P.cellsOf ti = 1) (hcw : P.cellsOf tw = 5)
    (t0 : f0.type = ti) (t1 : f1.type = tw) (o0 : f0.offset = 0) (o1 : f1.offset = 1) (opw : ∀ fuel cs (x : DataW H × List MemPlace), DataW.trod enc P W 0 (fun _ => true) true fuel tw cs = some x → ∃ a, RW W W.heap.size a cs)
    {fuel : Nat} {cs : List Value} {x : DataW H × List MemPlace} (h : DataW.trod enc P W 0 (fun _ => true) true fuel e cs = some x) : ∃ a, RN W W.heap.size a cs := by
  obtain ⟨xs, n, _, _, hcl, hxl, hg⟩ := DataW.trod_struct hs h
  obtain ⟨y0, h0⟩ := field_at hxl hg 0 f0 rfl
  obtain ⟨y1, h1⟩ := field_at hxl hg 1 f1 rfl
  rw [hC] at hcl
  rw [t0, o0, hci] at h0
  rw [t1, o1, hcw] at h1
  match cs, hcl with
  | c0 :: rest, hcl =>
    have hr : rest.length = 5 := by simpa using hcl
    obtain ⟨a, e0, _, w0⟩ := DataW.trod_int hi h0
    have e1 : ((c0 :: rest).drop 1).take 5 = rest := by rw [List.drop_one, List.tail_cons]; exact List.take_of_length_le (Nat.le_of_eq hr)
    rw [e1] at h1
    obtain ⟨b, hb⟩ := opw _ _ _ h1
    simp at e0
    subst e0
    exact ⟨⟨a, b⟩, rest, rfl, fit_wf w0, hb⟩
theorem cells_node : Try.prog.cellsOf 49 = 6 := by kernel_rfl
set_option maxRecDepth 100000 in
theorem opN {H : Type} {enc : TypeId × Value → H} {W : World} {fuel : Nat} {cs : List Value} {x : DataW H × List MemPlace} (h : DataW.trod enc Try.prog W 0 (fun _ => true) true fuel 49 cs = some x) : ∃ a, RN W W.heap.size a cs :=
  op_node Try.underlying49 Try.underlying3 cells_node cells_int cells_wish rfl rfl rfl rfl (fun _ _ _ hh => opW hh) h
set_option maxRecDepth 100000 in
theorem open_nodes {H : Type} {enc : TypeId × Value → H} {W : World} {b0 : Nat} {v : Value} {d : DataW H} {p : List MemPlace} (hv : Value.okWide Try.prog W .any b0 22 v) (h : DataW.Trod enc Try.prog W 0 (fun _ => true) true 22 v d p) : ∃ l, V RN 6 W W.heap.size v l :=
  trod_slice_V Try.underlying22 cells_node (by omega) (fun _ _ _ hh => opN hh) hv h
end Go.Proofs.Ytgjghpaenliliaa

namespace Go.Proofs.Ytgjghpaenliliaa.LFnExactApplyRule
open Go.ChangeShapes Go.WideShapes Go.ChangeAt Go.RowKit
open Go.ChangeMaps (open_string shut_string)
set_option linter.unusedVariables false

theorem own : ownKnob Try.prog.godebug = none := by kernel_rfl
theorem laidOut : laidOutB Try.prog = true := by kernel_rfl

set_option maxRecDepth 100000 in
theorem lifted (os : Os) (started : os.Started) (H : Type) (enc : TypeId × Value → H) :
    ReturnsInHanded {} Try.checked os 5 .any (Rows.fnExactApplyRuleSpec.pre6 enc Try.prog Try.f5 Rows.fnExactApplyRuleRow.domain false) (Rows.fnExactApplyRuleSpec.post enc Try.prog Try.f5 false true false false) := by
  refine returnsInHanded_of_change (C := Try.checked) own started (by kernel_rfl) Try.func5
    (ChangeSpec.witness6 (enc := enc) (C := Try.checked) false ⟨#[], #[.slice none 0 0, .int .i64 0, .int .i64 0], []⟩ 8 (by kernel_rfl) (by kernel_rfl) (by kernel_rfl) (by kernel_rfl)) ?_
  intro W base args ds gs before hval0 hW hcnd _
  have hval : ∀ (j : Nat) t v, Try.f5.params[j]? = some t → args[j]? = some v → Value.okWide Try.prog W .any base t v := hval0
  have hW' := hW
  obtain ⟨p, q, hA0, hV, rfl, hfz, hnd⟩ := hW
  have hA : DataW.TrodAll enc Try.prog W 0 (fun _ => true) true Try.f5.params.toList args.toList ds p := hA0
  rw [Try.params5] at hA hval
  obtain ⟨v0, vs0, d0, ds0, p0, q0, hargs, rfl, rfl, h0, r0⟩ := trodAll_cons hA
  obtain ⟨v1, vs1, d1, ds1, p1, q1, rfl, rfl, rfl, h1, r1⟩ := trodAll_cons r0
  obtain ⟨v2, vs2, d2, ds2, p2, q2, rfl, rfl, rfl, h2, r2⟩ := trodAll_cons r1
  obtain ⟨rfl, rfl, rfl⟩ := trodAll_nil r2
  obtain rfl : args = #[v0, v1, v2] := by cases args; simp_all
  obtain ⟨rfl, rfl⟩ := trodVars_none hV
  have k0 := h0
  have lt0 : ∀ x ∈ p0, x.block < W.heap.size := by obtain ⟨m, hm⟩ := k0; exact DataW.trod_lt m _ _ _ hm
  obtain ⟨l0, w0⟩ := open_nodes (hval 0 22 v0 rfl rfl) h0
  have k1 := h1
  have lt1 : ∀ x ∈ p1, x.block < W.heap.size := by obtain ⟨m, hm⟩ := k1; exact DataW.trod_lt m _ _ _ hm
  obtain ⟨a1, e1, _, _, w1⟩ := open_int Try.underlying3 (hval 1 3 v1 rfl rfl) h1
  subst e1
  have k2 := h2
  have lt2 : ∀ x ∈ p2, x.block < W.heap.size := by obtain ⟨m, hm⟩ := k2; exact DataW.trod_lt m _ _ _ hm
  obtain ⟨a2, e2, _, _, w2⟩ := open_int Try.underlying3 (hval 2 3 v2 rfl rfl) h2
  subst e2
  clear hA0 hval0
  refine (Wk.FnExactApplyRule (w := W) v0 l0 w0 a1 w1 a2 w2).mono fun e W' ⟨he, bel⟩ => ?_
  subst he
  exact ⟨_, rfl, _, _, _, [], _, [], hW', trodAll_mk1 (shut_bool Try.underlying4 _), (trodAll_cons_mk (Below.trod laidOut (by kernel_rfl) (of_decide_eq_true (by kernel_rfl)) k0 bel lt0) (trodAll_cons_mk (Below.trod laidOut (by kernel_rfl) (of_decide_eq_true (by kernel_rfl)) k1 bel lt1) (trodAll_cons_mk (Below.trod laidOut (by kernel_rfl) (of_decide_eq_true (by kernel_rfl)) k2 bel lt2) trodAll_mk0))), rfl, bel.frame _, fun h => by cases h⟩

/-- The given statement. -/
theorem proved : Rows.FnExactApplyRuleSaid :=
  OpenClaim.holds_of_wide 5 Try.f5 rfl rfl rfl rfl rfl rfl rfl ⟨rfl, rfl, rfl, rfl, rfl⟩ rfl rfl rfl rfl rfl (by as_aux_lemma => kernel_rfl) Try.func5 (by as_aux_lemma => kernel_rfl)
    (of_decide_eq_true (by as_aux_lemma => kernel_rfl)) (by unfold Func.isWrapper; first | (rw [if_pos (by decide +kernel)]; kernel_rfl) | (rw [if_neg (by decide +kernel)]; exact ⟨rfl, rfl⟩))
    (fun os started H enc _ => lifted os started H enc)
#print axioms proved
end Go.Proofs.Ytgjghpaenliliaa.LFnExactApplyRule
