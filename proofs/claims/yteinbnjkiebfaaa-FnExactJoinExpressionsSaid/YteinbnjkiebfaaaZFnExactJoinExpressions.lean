/-
  The given statement on laws.FnExactJoinExpressions: for every input that the row speaks of, the call returns true and the arguments read as before.
  Conditions: none beyond the row's own.
-/
import Derived.Test.YteinbnjkiebfaaaW61
import Derived.Test.YteinbnjkiebfaaaW62
import Derived.Test.YteinbnjkiebfaaaM14
import Derived.Test.YteinbnjkiebfaaaM15
import Derived.Maps.AppendAt
import Derived.Test.YteinbnjkiebfaaaU7
import Derived.Test.YteinbnjkiebfaaaO2
import Derived.Test.YteinbnjkiebfaaaRows
import Derived.ProofKit
import Derived.OpenShut
import Derived.ShutString
import Derived.ChangeOld
import Derived.Below
namespace Go.Proofs.Yteinbnjkiebfaaa.Wk
open Go.RowKit Go.Proofs.Yteinbnjkiebfaaa.M
set_option linter.unusedVariables false
attribute [local go_sem] cell_grow

theorem l5WishE {A E : Option Addr} {n c m d : Nat} {x : Wi} (w : World) (h : Sl RI 1 w w.heap.size A n c x.list) (g : Sl RP 2 w w.heap.size E m d x.pairs) (hn : n ≤ 1048576) (hm : m ≤ 1048576) :
    Calls Try.prog 44 #[.agg #[.int .i64 x.kind, .int .i64 x.field, .int .i64 x.value, .slice A n c, .slice E m d]] w fun e w' => ∃ A2 c2 E2 d2, e = .returned (.agg #[.int .i64 x.kind, .int .i64 x.field, .int .i64 x.value, .slice A2 x.list.length c2, .slice E2 x.pairs.length d2]) ∧ OwnW w' w.heap.size 3 68 x (.slice A2 x.list.length c2) (.slice E2 x.pairs.length d2) ∧ Below w.heap.size w w' :=
  (l5Wish w h g hn hm).mono fun e w' ⟨u, v, he, ho, hb⟩ => by
    obtain ⟨A2, c2, rfl, _, _⟩ := own_form ho.1
    obtain ⟨E2, d2, rfl, _, _⟩ := own_form ho.2.1
    exact ⟨A2, c2, E2, d2, he, ho, hb⟩
theorem below_drew {W w8 : World} (h : Below W.drew.heap.size W.drew w8) : Below W.heap.size W w8 := (Below.refl W.heap.size W).drew.trans h
theorem six {b o : Nat} {a1 a2 a3 a4 a5 a6 : Value} {w w' : World} {B : Nat} (hb : Below B w w') (hlt : b < B) (h : w.cell? ⟨b, o, none⟩ = some a1 ∧ w.cell? ⟨b, o + 1, none⟩ = some a2 ∧ w.cell? ⟨b, o + 2, none⟩ = some a3 ∧ w.cell? ⟨b, o + 3, none⟩ = some a4 ∧ w.cell? ⟨b, o + 4, none⟩ = some a5 ∧ w.cell? ⟨b, o + 5, none⟩ = some a6) :
    w'.cell? ⟨b, o, none⟩ = some a1 ∧ w'.cell? ⟨b, o + 1, none⟩ = some a2 ∧ w'.cell? ⟨b, o + 2, none⟩ = some a3 ∧ w'.cell? ⟨b, o + 3, none⟩ = some a4 ∧ w'.cell? ⟨b, o + 4, none⟩ = some a5 ∧ w'.cell? ⟨b, o + 5, none⟩ = some a6 := by
  obtain ⟨h1, h2, h3, h4, h5, h6⟩ := h
  exact ⟨(cell_of hb _ _ hlt).trans h1, (cell_of hb _ _ hlt).trans h2, (cell_of hb _ _ hlt).trans h3, (cell_of hb _ _ hlt).trans h4, (cell_of hb _ _ hlt).trans h5, (cell_of hb _ _ hlt).trans h6⟩
theorem grown_base {X w1 : World} {B : Nat} {row : Option Nat} (hg : X.grownBy w1 row) (hB : B ≤ X.heap.size) (hr : ∀ q, row = some q → B ≤ q) : Below B X w1 := (Below.refl B X).grown hg hB hr
set_option maxHeartbeats 3200000 in
set_option maxRecDepth 100000 in
theorem l5Copy {A : Option Addr} {n c : Nat} {l : List Nd} (w : World) (h : Sl RN 6 w w.heap.size A n c l) (hn : n ≤ 1048576) (hfit : ∀ x ∈ l, x.wish.list.length ≤ 1048576 ∧ x.wish.pairs.length ≤ 1048576) : Calls Try.prog 38 #[.slice A n c] w (RetNd w l) := by
  obtain ⟨i0, hi, hz0, hz1, hz2⟩ := info_parts info_node
  have HL := Lib.hid h.len
  have HFI := Lib.hid hfit
  have hle := h.le
  go_enter Try.func38, Try.ntmps38
  go_wp2
  go_loopw [3, 4] (fun vo vk wr => ∃ (k : Nat) (ps : List NdC), k ≤ n ∧ vk = .int .i64 k ∧ Hid (ps.map (·.1) = l.take k) ∧ Hid (ps.length = k) ∧ PartN wr w.heap.size 51 3 68 vo ps ∧ Below w.heap.size w wr) (fun _ vk _ => n - (intOf vk).toNat)
  case atStart => exact ⟨0, [], Nat.zero_le _, rfl, rfl, rfl, PartN.nil w _ _ _, (Below.refl _ _).alloc (Nat.le_refl _) _⟩
  case round =>
    clear hfit
    obtain ⟨k, ps, hk, rfl, HM, HPL, hpart, hbw⟩ := hrel
    by_cases hlt : k < n
    · obtain ⟨b, o, x, A1, n1, c1, E1, m1, d1, rfl, hb, hx, hf, hs, ht1, g0, g1, g2, g3, g4, g5⟩ := nodeAt h hlt
      have e0 := ((cell_of hbw) b (o + k * 6) hb).trans g0
      have e1 := ((cell_of hbw) b (o + k * 6 + 1) hb).trans g1
      have e2 := ((cell_of hbw) b (o + k * 6 + 2) hb).trans g2
      have e3 := ((cell_of hbw) b (o + k * 6 + 3) hb).trans g3
      have e4 := ((cell_of hbw) b (o + k * 6 + 4) hb).trans g4
      have e5 := ((cell_of hbw) b (o + k * 6 + 5) hb).trans g5
      have hsz := hbw.size
      have i1 : b < wr.heap.size := by omega
      have HS := Lib.hid (hs.on RI.keeps hbw)
      have HT := Lib.hid (ht1.on RP.keeps hbw)
      have HPT := Lib.hid hpart
      have HB := Lib.hid hbw
      obtain ⟨fl, fp⟩ := HFI.out x (List.mem_of_getElem? hx)
      have n1e : n1 ≤ 1048576 := by have := hs.len; omega
      have m1e : m1 ≤ 1048576 := by have := ht1.len; omega
      have HX := Lib.hid hx
      obtain ⟨A', c', hv, _, _⟩ := own_form hpart.out
      subst hv
      have hpl := HPL.out
      subst hpl
      have h63 : ps.length + 1 ≤ maxLen := by unfold maxLen; omega
      have hby : (ps.length + 1) * 80 ≤ 140737488355328 := by omega
      have q1 : (ps.length : Int) < (n : Int) := by omega
      have q2 : (n : Int) ≤ (c : Int) := by omega
      have bw : b < w.heap.size := hb
      have hrow : ∀ q, (Value.slice A' ps.length c').ownBlock = some q → w.heap.size ≤ q := fun q hq => (hpart.out.lt q hq).1
      have C0 := six (Below.refl wr.heap.size wr).drew i1 ⟨e0, e1, e2, e3, e4, e5⟩
      clear h hx g0 g1 g2 g3 g4 g5 hs ht1 hpart hbw hf e0 e1 e2 e3 e4 e5
      go_wp2_with fail
      go_region_held3 (fun w' => w'.cell? ⟨b, o + ps.length * 6, none⟩ = some (.int .i64 x.op) ∧ w'.cell? ⟨b, o + ps.length * 6 + 1, none⟩ = some (.int .i64 x.wish.kind) ∧ w'.cell? ⟨b, o + ps.length * 6 + 2, none⟩ = some (.int .i64 x.wish.field) ∧ w'.cell? ⟨b, o + ps.length * 6 + 3, none⟩ = some (.int .i64 x.wish.value) ∧ w'.cell? ⟨b, o + ps.length * 6 + 4, none⟩ = some (.slice A1 n1 c1) ∧ w'.cell? ⟨b, o + ps.length * 6 + 5, none⟩ = some (.slice E1 m1 d1)) (first | exact C0 | exact C8 | exact six ((Below.refl _ _).alloc (Nat.le_refl _) _) (Nat.lt_of_lt_of_le bw hs8) C8 | exact six (grown_base hgrow (Nat.le_trans hs8 (size_le_alloc _ _)) hrow) bw (six ((Below.refl _ _).alloc (Nat.le_refl _) _) (Nat.lt_of_lt_of_le bw hs8) C8) | fail) (first | (go_simp; go_at_call 44; with_reducible (refine (l5WishE (x := x.wish) _ (sl_drew HS.out RI.keeps) (sl_drew HT.out RP.keeps) n1e m1e).mono ?_); rintro e w8 ⟨A2, c2, E2, d2, rfl, how, hb8⟩; have hS8 := below_drew hb8; have hs8 : w.heap.size ≤ w8.heap.size := Nat.le_trans HB.out.size hS8.size; have C8 := six hb8 i1 C0) | (refine step_append_lies _ (by rfl) _ _ _ (by rfl) w.heap.size 51 i0 _ 6 80 Try.underlying25 hi hz0 hz1 hz2 rfl (Nat.zero_lt_succ 5) _ _ _ (by rfl) ((HPT.out.below hS8).out.alloc _) ⟨w8.heap.size, 0, none⟩ 1 1 [.int .i64 x.op, .int .i64 x.wish.kind, .int .i64 x.wish.field, .int .i64 x.wish.value, .slice A2 x.wish.list.length c2, .slice E2 x.wish.pairs.length d2] (by rfl) (by rfl) (six_new _ _ _ _ _ _ _ _) (ones6 rfl rfl rfl rfl rfl rfl) Nat.one_pos h63 hby (Nat.le_trans hs8 (size_le_alloc _ _)) _ rfl ?_; intro gg cap w1 hown1 hgrow hat hgl) | fail)
      have hP1 : Hid (PartN w1 w.heap.size 51 3 68 (.slice (some ⟨gg, 0, none⟩) (ps.length + 1) cap) (ps ++ [(x, .slice A2 x.wish.list.length c2, .slice E2 x.wish.pairs.length d2)])) :=
        HPT.out.append (x := x) hS8 how (by first | exact Nat.le_refl _ | (simp; done)) HB.out.size ((Below.refl w8.heap.size w8).alloc (Nat.le_refl _) _) hgrow hown1 hat
      have hB1 := Lib.hid (((HB.out.trans (hS8.mono HB.out.size)).alloc hs8 (.cells #[.int .i64 x.op, .int .i64 x.wish.kind, .int .i64 x.wish.field, .int .i64 x.wish.value, .slice A2 x.wish.list.length c2, .slice E2 x.wish.pairs.length d2] 51)).grown hgrow (by simp; omega) hrow)
      have HM2 : Hid ((ps ++ [(x, Value.slice A2 x.wish.list.length c2, Value.slice E2 x.wish.pairs.length d2)]).map (·.1) = l.take (ps.length + 1)) := by
        show _ = _
        obtain ⟨hl, e⟩ := List.getElem?_eq_some_iff.1 HX.out
        rw [List.map_append, HM.out, List.take_succ_eq_append_getElem hl, e]
        rfl
      have HPL2 : Hid ((ps ++ [(x, Value.slice A2 x.wish.list.length c2, Value.slice E2 x.wish.pairs.length d2)]).length = ps.length + 1) := by show _ = _; rw [List.length_append]; rfl
      clear how hb8 hS8 hown1 hgrow hat
      go_wp2
      go_roundw
      case rel => exact ⟨ps.length + 1, _, by omega, by go_num, HM2, HPL2, hP1.out, hB1.out⟩
      case measure => simp [intOf]; omega
    · have hkn : k = n := by omega
      obtain ⟨A', c', hv, _, _⟩ := own_form hpart.out
      subst hv
      have HM3 : Hid (ps.map (·.1) = l) := by
        show _ = _
        rw [HM.out, List.take_of_length_le (by have := HL.out; omega)]
      have HO : Hid (OwnNd wr w.heap.size wr.heap.size (.slice A' ps.length c') l) := by
        refine ⟨ps, HM3.out, fun p hp => ⟨hpart.rows.each p hp, own_und (hpart.rows.each p hp).1, own_und (hpart.rows.each p hp).2.1⟩, hpart.rows.apart, ?_, own_und hpart.out, hpart.far⟩
        rw [← HM3.out, List.length_map]
        exact hpart.out
      clear h hpart
      go_wp2
      go_ret
      exact ⟨_, rfl, by first | exact HO.out | (rw [← HPL.out]; exact HO.out), hbw⟩
end Go.Proofs.Yteinbnjkiebfaaa.Wk

namespace Go.Proofs.Yteinbnjkiebfaaa.Wk
open Go.RowKit Go.Proofs.Yteinbnjkiebfaaa.M
set_option linter.unusedVariables false
attribute [local go_sem] cell_grow

/-- What Subtree answers. -/
noncomputable def subR (l : List Nd) (a : Int) : List Nd := if P.okE l && P.inR a 0 ((l.length : Int) - 1) then (l.drop (P.startE l a.toNat)).take (a.toNat + 1 - P.startE l a.toNat) else []
theorem subR_mem {l : List Nd} {a : Int} {x : Nd} (h : x ∈ subR l a) : x ∈ l := by
  unfold subR at h
  split at h
  · exact List.mem_of_mem_drop (List.mem_of_mem_take h)
  · simp at h
theorem okE_fit {l : List Nd} (h : P.okE l = true) : ∀ x ∈ l, x.wish.list.length ≤ 1048576 ∧ x.wish.pairs.length ≤ 1048576 := by
  intro x hx
  obtain ⟨i, hi⟩ := List.getElem?_of_mem hx
  have hok := (P.okE_at h hi).1
  unfold P.okN at hok
  rw [Bool.and_eq_true] at hok
  obtain ⟨_, h2⟩ := hok
  split at h2
  · have h3 := P.okW_listlen h2
    have h4 := P.okW_pairslen h2
    omega
  · unfold P.noW at h2
    simp only [decide_eq_true_eq] at h2
    obtain ⟨_, _, _, h3, h4⟩ := h2
    rw [h3, h4]; simp
theorem ownNd_nil (w w' : World) (hb : Below (w.alloc (.cells #[] 51)).heap.size (w.alloc (.cells #[] 51)) w') : OwnNd w' w.heap.size w'.heap.size (.slice (some ⟨w.heap.size, 0, none⟩) 0 0) [] := by
  have h := own_below (own_emptyS w 51 6) hb
  exact ⟨[], rfl, fun p hp => absurd hp (by simp), by simp [ndv], h, own_und h, fun u hu => absurd hu (by simp [ndv])⟩
theorem ownNd_mono {w : World} {lo lo' hi : Nat} {v : Value} {l : List Nd} (h : OwnNd w lo hi v l) (hl : lo' ≤ lo) : OwnNd w lo' hi v l := by
  obtain ⟨ps, h1, h2, h3, h4, h5, h6⟩ := h
  exact ⟨ps, h1, fun p hp => ⟨(h2 p hp).1.mono hl, (h2 p hp).2⟩, h3, own_mono h4 hl, h5, h6⟩
set_option maxHeartbeats 1600000 in
set_option maxRecDepth 100000 in
theorem specSubtree {A : Option Addr} {n c : Nat} {l : List Nd} {a : Int} (w : World) (h : Sl RN 6 w w.heap.size A n c l) (ha : Fit a) : Calls Try.prog 24 #[.slice A n c, .int .i64 a] w (RetNd w (subR l a)) := by
  have HL := Lib.hid h.len
  have hle := h.le
  have hmx := h.max
  unfold maxLen at hmx
  cases hok : P.okE l with
  | false =>
    have HE : Hid (subR l a = []) := by show _ = _; unfold subR; rw [hok]; rfl
    go_enter Try.func24, Try.ntmps24
    go_wp2_with (go_at_call 13; refine (specIsExpression _ h).mono ?_; rintro e w2 ⟨rfl, b2⟩; rw [hok])
    go_ret
    refine ⟨_, rfl, ?_, b2.trans ((Below.refl w2.heap.size w2).alloc (Nat.le_refl _) _ |>.mono b2.size)⟩
    rw [HE.out]
    exact ownNd_mono (ownNd_nil w2 _ (Below.refl _ _)) b2.size
  | true =>
    have hn9 : n ≤ 9 := by have := (P.okE_len hok).1; have := HL.out; omega
    have HK := Lib.hid hok
    cases hin : P.inR a 0 ((n : Int) - 1) with
    | false =>
      have HE : Hid (subR l a = []) := by show _ = _; unfold subR; rw [HL.out, hin]; simp
      go_enter Try.func24, Try.ntmps24
      go_wp2_with (first | (go_at_call 13; refine (specIsExpression _ h).mono ?_; rintro e w2 ⟨rfl, b2⟩; rw [hok]) | (go_at_call 47; refine (l1In _ _ _ _).mono ?_; rintro e w9 ⟨rfl, rfl⟩; rw [hin]))
      go_ret
      refine ⟨_, rfl, ?_, b2.trans ((Below.refl w2.heap.size w2).alloc (Nat.le_refl _) _ |>.mono b2.size)⟩
      rw [HE.out]
      exact ownNd_mono (ownNd_nil w2 _ (Below.refl _ _)) b2.size
    | true =>
      obtain ⟨a0, a1⟩ := P.inR_t hin
      obtain ⟨k, rfl⟩ := Int.eq_ofNat_of_zero_le a0
      have hkn : k < n := by omega
      have HE : Hid (subR l k = (l.drop (P.startE l k)).take (k + 1 - P.startE l k)) := by
        show _ = _
        unfold subR
        rw [HL.out, hin, hok]
        rfl
      obtain ⟨lo, hlo⟩ : ∃ lo, P.startE l k = lo := ⟨_, rfl⟩
      have hlk : lo ≤ k := by rw [← hlo]; exact P.startE_le l k
      rw [hlo] at HE
      have q1 : (lo : Int) ≤ (k : Int) + 1 := by omega
      have q2 : (k : Int) + 1 ≤ (n : Int) := by omega
      have q3 : (n : Int) ≤ (c : Int) := by omega
      have HFI := Lib.hid (okE_fit HK.out)
      have HLO := Lib.hid hlo
      go_enter Try.func24, Try.ntmps24
      go_wp2_with fail
      refine (specIsExpression _ h).mono ?_
      rintro e w2 ⟨rfl, b2⟩
      rw [hok]
      have h2 := h.on RN.keeps b2
      have hcl : c ≠ lo := by omega
      have HP := Lib.hid (h2.part (lo := lo) (hi := k + 1) (by omega) (by omega))
      go_wp2_with (first | (go_at_call 47; refine (l1In _ _ _ _).mono ?_; rintro e w9 ⟨rfl, rfl⟩; rw [hin]) | (go_at_call 48; refine (l6Start _ h2 HK.out hkn).mono ?_; rintro e w9 ⟨rfl, rfl⟩; rw [HLO.out]))
      have HP := Lib.hid (by have := HP.out; rwa [if_neg hcl] at this)
      refine (l5Copy _ HP.out (by omega) (fun x hx => HFI.out x (List.mem_of_mem_drop (List.mem_of_mem_take hx)))).mono ?_
      rintro e w3 ⟨v, rfl, ho, hb3⟩
      go_wp2
      go_ret
      refine ⟨_, rfl, ?_, b2.trans (hb3.mono b2.size)⟩
      rw [HE.out]
      exact ownNd_mono ho b2.size
set_option maxHeartbeats 1600000 in
set_option maxRecDepth 100000 in
theorem implSubtree {A : Option Addr} {n c : Nat} {l : List Nd} {a : Int} (w : World) (h : Sl RN 6 w w.heap.size A n c l) (ha : Fit a) : Calls Try.prog 25 #[.slice A n c, .int .i64 a] w (RetNd w (subR l a)) := by
  have HL := Lib.hid h.len
  have hle := h.le
  have hmx := h.max
  unfold maxLen at hmx
  cases hok : P.okE l with
  | false =>
    have HE : Hid (subR l a = []) := by show _ = _; unfold subR; rw [hok]; rfl
    go_enter Try.func25, Try.ntmps25
    go_wp2_with (go_at_call 14; refine (implIsExpression _ h).mono ?_; rintro e w2 ⟨rfl, b2⟩; rw [hok])
    go_ret
    refine ⟨_, rfl, ?_, b2.trans ((Below.refl w2.heap.size w2).alloc (Nat.le_refl _) _ |>.mono b2.size)⟩
    rw [HE.out]
    exact ownNd_mono (ownNd_nil w2 _ (Below.refl _ _)) b2.size
  | true =>
    have hn9 : n ≤ 9 := by have := (P.okE_len hok).1; have := HL.out; omega
    have HK := Lib.hid hok
    cases hin : P.inR a 0 ((n : Int) - 1) with
    | false =>
      have HE : Hid (subR l a = []) := by show _ = _; unfold subR; rw [HL.out, hin]; simp
      go_enter Try.func25, Try.ntmps25
      go_wp2_with (first | (go_at_call 14; refine (implIsExpression _ h).mono ?_; rintro e w2 ⟨rfl, b2⟩; rw [hok]) | (go_at_call 35; refine (within _ _ _ _).mono ?_; rintro e w9 ⟨rfl, rfl⟩; rw [hin]))
      go_ret
      refine ⟨_, rfl, ?_, b2.trans ((Below.refl w2.heap.size w2).alloc (Nat.le_refl _) _ |>.mono b2.size)⟩
      rw [HE.out]
      exact ownNd_mono (ownNd_nil w2 _ (Below.refl _ _)) b2.size
    | true =>
      obtain ⟨a0, a1⟩ := P.inR_t hin
      obtain ⟨k, rfl⟩ := Int.eq_ofNat_of_zero_le a0
      have hkn : k < n := by omega
      have HE : Hid (subR l k = (l.drop (P.startE l k)).take (k + 1 - P.startE l k)) := by
        show _ = _
        unfold subR
        rw [HL.out, hin, hok]
        rfl
      obtain ⟨lo, hlo⟩ : ∃ lo, P.startE l k = lo := ⟨_, rfl⟩
      have hlk : lo ≤ k := by rw [← hlo]; exact P.startE_le l k
      rw [hlo] at HE
      have q1 : (lo : Int) ≤ (k : Int) + 1 := by omega
      have q2 : (k : Int) + 1 ≤ (n : Int) := by omega
      have q3 : (n : Int) ≤ (c : Int) := by omega
      have HFI := Lib.hid (okE_fit HK.out)
      have HLO := Lib.hid hlo
      go_enter Try.func25, Try.ntmps25
      go_wp2_with fail
      refine (implIsExpression _ h).mono ?_
      rintro e w2 ⟨rfl, b2⟩
      rw [hok]
      have h2 := h.on RN.keeps b2
      have hcl : c ≠ lo := by omega
      have HP := Lib.hid (h2.part (lo := lo) (hi := k + 1) (by omega) (by omega))
      go_wp2_with (first | (go_at_call 35; refine (within _ _ _ _).mono ?_; rintro e w9 ⟨rfl, rfl⟩; rw [hin]) | (go_at_call 49; refine (startI _ h2 HK.out hkn).mono ?_; rintro e w9 ⟨rfl, rfl⟩; rw [HLO.out]))
      have HP := Lib.hid (by have := HP.out; rwa [if_neg hcl] at this)
      refine (copyNodes _ HP.out (by omega) (fun x hx => HFI.out x (List.mem_of_mem_drop (List.mem_of_mem_take hx)))).mono ?_
      rintro e w3 ⟨v, rfl, ho, hb3⟩
      go_wp2
      go_ret
      refine ⟨_, rfl, ?_, b2.trans (hb3.mono b2.size)⟩
      rw [HE.out]
      exact ownNd_mono ho b2.size
end Go.Proofs.Yteinbnjkiebfaaa.Wk

namespace Go.Proofs.Yteinbnjkiebfaaa.M
open Go Go.RowKit

section
variable {P : Program} {w : World} {ops : Array Oper} {rest : List Oper} {o : Oper} {a : Act} {Q : Exit → Act → World → Prop}
theorem append_at (hgd : o.guard = none) (s x : Operand) (t : TypeId)
    (ho : o.op = .call { callee := .builtin .append, args := #[s, x], argTypes := #[t, t] })
    (base : Nat) (e : TypeId) (i : TypeInfo) (z : Value) (size bytes : Nat) (ht : P.underlying t = some (.slice e)) (hi : P.info? e = some i) (hz : i.zero = some z)
    (hsize : i.size = size) (hby : i.bytes = bytes) (hzs : z.cells.size = size) (hsz : 0 < size)
    (v : Value) (n : Nat) (xs : List Value) (hs : a.eval s = v) (hown : w.ownsRow base e size v n xs)
    (A : Option Addr) (m c : Nat) (news : List Value) (hx : a.eval x = .slice A m c) (hl : news.length = m * size) (hA : 0 < m → A ≠ none) (hnews : ∀ ad, A = some ad → ∀ j u, news[j]? = some u → w.cell? (ad.add j) = some u) (h1 : ∀ u ∈ news, u.oneCell' = true)
    (h63 : n + m ≤ maxLen) (hbytes : (n + m) * bytes ≤ 140737488355328) (hbase : base ≤ w.heap.size)
    (h : ∀ v' w', w'.ownsRow base e size v' (n + m) (xs ++ news) → w.grownBy w' v.ownBlock → (v'.ownBlock = v.ownBlock ∨ v'.ownBlock = some w.heap.size) → wpList P ops Q rest (a.put o.dst v') w') : wpList P ops Q (o :: rest) a w := by
  cases A with
  | some ad =>
    obtain ⟨v', w', hr, h2, h3, _, h5⟩ := run_append_own_at (P := P) (w := w) base t o.type e i z size bytes ht hi hz hsize hby hzs hsz v n xs hown ad m c news hl (hnews ad rfl) h1 h63 hbytes hbase
    refine wpList_plain hgd fun K hK => ?_
    unfold Oper.wp
    simp [execOp, ho, resolve, invoke, builtin, hs, hx, hr, Result.andThen]
    exact hK _ _ (h v' w' h2 h3 h5)
  | none =>
    have hm : m = 0 := by
      rcases Nat.eq_zero_or_pos m with h0 | h0
      · exact h0
      · exact absurd rfl (hA h0)
    subst hm
    have hn0 : news = [] := List.eq_nil_of_length_eq_zero (by omega)
    subst hn0
    exact wpList_append_none hgd s x t ho base e i size ht hi v n c xs hs hown hx (h v w (by simpa using hown) ⟨rfl, rfl, rfl, Nat.le_refl _, fun _ _ _ => rfl⟩ (.inl rfl))
end
theorem oneC_of {w : World} {base E sz n : Nat} {v : Value} {xs : List Value} (h : w.ownsRow base E sz v n xs) : v.oneCell' = true := by
  obtain ⟨A, c, rfl, _⟩ := own_form h
  rfl
theorem ndc_one {w : World} {lo E EP : Nat} {ps : List NdC} (h : OwnNs w lo E EP ps) : ∀ u ∈ ndc ps, u.oneCell' = true := by
  intro u hu
  unfold ndc at hu
  obtain ⟨p, hp, hup⟩ := List.mem_flatMap.1 hu
  obtain ⟨h1, h2, _⟩ := h.each p hp
  unfold nd6 at hup
  simp at hup
  rcases hup with rfl | rfl | rfl | rfl | rfl | rfl
  · rfl
  · rfl
  · rfl
  · rfl
  · exact oneC_of h1
  · exact oneC_of h2
theorem own_cells {w : World} {base E sz n : Nat} {A : Option Addr} {m c : Nat} {xs : List Value} (h : w.ownsRow base E sz (.slice A m c) n xs) : (0 < n → A ≠ none) ∧ ∀ ad, A = some ad → ∀ j u, xs[j]? = some u → w.cell? (ad.add j) = some u := by
  rcases h.2 with ⟨h1, h2⟩ | ⟨g, c', cur, h1, h2⟩
  · injection h1 with h1 _ _
    subst h1
    exact ⟨fun h0 => absurd h2 (by omega), fun ad hA => by cases hA⟩
  · injection h1 with e1 _ _
    subst e1
    refine ⟨fun _ => by simp, fun ad hA => ?_⟩
    injection hA with hA
    subst hA
    exact h.cells (g := g) rfl
/-- A list of nodes of the call's own, behind which others are laid. -/
theorem PartN.join {w0 w w' : World} {lo lo2 EN E EP : Nat} {v v' : Value} {ps qs : List NdC} (h1 : PartN w0 lo EN E EP v ps) (hb : Below w0.heap.size w0 w) (h2 : OwnNs w lo2 E EP qs) (hlo2 : w0.heap.size ≤ lo2) (hlo : lo ≤ lo2)
    (hg : w.grownBy w' v.ownBlock) (hown : w'.ownsRow lo EN 6 v' (ps.length + qs.length) (ndc ps ++ ndc qs)) (hat : v'.ownBlock = v.ownBlock ∨ v'.ownBlock = some w.heap.size) : PartN w' lo EN E EP v' (ps ++ qs) := by
  have R1 := h1.rows.below hb
  have hnv : ndv (ps ++ qs) = ndv ps ++ ndv qs := by unfold ndv; rw [List.flatMap_append]
  have hnc : ndc (ps ++ qs) = ndc ps ++ ndc qs := by unfold ndc; rw [List.flatMap_append]
  have key : ∀ u ∈ ndv (ps ++ qs), ∀ q, u.ownBlock = some q → v.ownBlock ≠ some q ∧ q < w.heap.size := by
    intro u hu q hq
    rw [hnv] at hu
    rcases List.mem_append.1 hu with hu | hu
    · refine ⟨fun hv => ?_, (R1.lt hu hq).2⟩
      rcases h1.far u hu with e | e
      · rw [hq] at e; cases e
      · exact e (hq.trans hv.symm)
    · have := h2.lt hu hq
      exact ⟨fun hv => by have := (h1.out.lt q hv).2; omega, this.2⟩
  have AP : (ndv (ps ++ qs)).Pairwise Far := by
    rw [hnv, List.pairwise_append]
    refine ⟨h1.rows.apart, h2.apart, fun a ha c hc => ?_⟩
    cases hva : a.ownBlock with
    | none => exact .inl hva
    | some g =>
      refine .inr fun hh => ?_
      rw [hva] at hh
      have g1 := (h1.rows.lt ha hva).2
      have g2 := (h2.lt hc hh.symm).1
      omega
  refine ⟨⟨fun p hp => ?_, AP⟩, ?_, fun u hu => ?_⟩
  · have m1 : p.2.1 ∈ ndv (ps ++ qs) := List.mem_flatMap.2 ⟨p, hp, by simp⟩
    have m2 : p.2.2 ∈ ndv (ps ++ qs) := List.mem_flatMap.2 ⟨p, hp, by simp⟩
    have a0 : OwnW w lo E EP p.1.wish p.2.1 p.2.2 := by
      rcases List.mem_append.1 hp with hp | hp
      · exact R1.each p hp
      · exact (h2.each p hp).mono hlo
    obtain ⟨a1, a2, a3⟩ := a0
    exact ⟨own_grown a1 hg (fun q hq e => (key _ m1 q hq).1 e.symm), own_grown a2 hg (fun q hq e => (key _ m2 q hq).1 e.symm), a3⟩
  · rw [hnc, List.length_append]
    exact hown
  · cases hq : u.ownBlock with
    | none => exact .inl hq
    | some q =>
      refine .inr fun hh => ?_
      rw [hq] at hh
      obtain ⟨k1, k2⟩ := key u hu q hq
      rcases hat with h3 | h3
      · exact k1 (h3.symm.trans hh.symm)
      · rw [h3] at hh
        injection hh with hh
        omega
/-- A wish that holds nothing. -/
def noWi : Wi := ⟨0, 0, 0, [], []⟩
theorem ownNs_none (w : World) (lo E EP : Nat) (op : Int) : OwnNs w lo E EP [(⟨op, noWi⟩, .slice none 0 0, .slice none 0 0)] := by
  refine ⟨fun p hp => ?_, ?_⟩
  · simp at hp
    subst hp
    exact ⟨World.ownsRow_nil w lo E 1, World.ownsRow_nil w lo EP 2, .inl rfl⟩
  · simp [ndv, Far, Value.ownBlock]
end Go.Proofs.Yteinbnjkiebfaaa.M

namespace Go.Proofs.Yteinbnjkiebfaaa.Wk
open Go.RowKit Go.Proofs.Yteinbnjkiebfaaa.M
set_option linter.unusedVariables false
attribute [local go_sem] cell_grow

/-- Whether JoinExpressions answers, and what. -/
noncomputable def joinB (l r : List Nd) (op : Int) : Bool := P.okE l && P.okE r && decide (op = 1 ∨ op = 2 ∨ op = 4) && decide (l.length + r.length < 9)
noncomputable def joinR (l r : List Nd) (op : Int) : List Nd := if joinB l r op then l ++ r ++ [⟨op, noWi⟩] else []
section
variable {a b n m : Nat} {l r : List Nd}
theorem le63j (h1 : Hid (a = l.length)) (h2 : Hid (b = r.length)) (h3 : Hid (l.length = n)) (h4 : Hid (r.length = m)) (h : n + m < 9) : a + b ≤ maxLen := by
  have := h1.out; have := h2.out; have := h3.out; have := h4.out
  unfold maxLen; omega
theorem le63k (h1 : Hid (a = l.length)) (h2 : Hid (b = r.length)) (h3 : Hid (l.length = n)) (h4 : Hid (r.length = m)) (h : n + m < 9) : a + b + 1 ≤ maxLen := by
  have := h1.out; have := h2.out; have := h3.out; have := h4.out
  unfold maxLen; omega
theorem leByj (h1 : Hid (a = l.length)) (h2 : Hid (b = r.length)) (h3 : Hid (l.length = n)) (h4 : Hid (r.length = m)) (h : n + m < 9) : (a + b) * 80 ≤ 140737488355328 := by
  have := h1.out; have := h2.out; have := h3.out; have := h4.out
  omega
theorem leByk (h1 : Hid (a = l.length)) (h2 : Hid (b = r.length)) (h3 : Hid (l.length = n)) (h4 : Hid (r.length = m)) (h : n + m < 9) : (a + b + 1) * 80 ≤ 140737488355328 := by
  have := h1.out; have := h2.out; have := h3.out; have := h4.out
  omega
end
/-- A list of nodes of the call's own, and a truth value. -/
def RetNd2 (w : World) (l : List Nd) (b : Bool) (e : Ending) (w' : World) : Prop := ∃ v, e = .returned (.tuple #[v, .bool b]) ∧ OwnNd w' w.heap.size w'.heap.size v l ∧ Below w.heap.size w w'
theorem ownNd_part {w : World} {lo hi : Nat} {v : Value} {l : List Nd} (h : OwnNd w lo hi v l) : ∃ ps : List NdC, ps.map (·.1) = l ∧ ps.length = l.length ∧ PartN w lo 51 3 68 v ps := by
  obtain ⟨ps, h1, h2, h3, h4, h5, h6⟩ := h
  have hl : ps.length = l.length := by rw [← h1, List.length_map]
  refine ⟨ps, h1, hl, ⟨⟨fun p hp => (h2 p hp).1, h3⟩, ?_, h6⟩⟩
  rw [hl]; exact h4
theorem part_ownNd {w : World} {lo : Nat} {v : Value} {ps : List NdC} (h : PartN w lo 51 3 68 v ps) : OwnNd w lo w.heap.size v (ps.map (·.1)) :=
  ⟨ps, rfl, fun p hp => ⟨h.rows.each p hp, own_und (h.rows.each p hp).1, own_und (h.rows.each p hp).2.1⟩, h.rows.apart, by rw [List.length_map]; exact h.out, own_und h.out, h.far⟩
theorem l5CopyE {A : Option Addr} {n c : Nat} {l : List Nd} (w : World) (h : Sl RN 6 w w.heap.size A n c l) (hn : n ≤ 1048576) (hfit : ∀ x ∈ l, x.wish.list.length ≤ 1048576 ∧ x.wish.pairs.length ≤ 1048576) : Calls Try.prog 38 #[.slice A n c] w fun e w' => ∃ A2 c2 ps, e = .returned (.slice A2 ps.length c2) ∧ Hid (ps.map (·.1) = l) ∧ Hid (ps.length = l.length) ∧ Hid (PartN w' w.heap.size 51 3 68 (.slice A2 ps.length c2) ps) ∧ Below w.heap.size w w' :=
  (l5Copy w h hn hfit).mono fun e w' ⟨v, he, ho, hb⟩ => by
    obtain ⟨ps, h1, h2, h3⟩ := ownNd_part ho
    obtain ⟨A2, c2, rfl, _, _⟩ := own_form h3.out
    exact ⟨A2, c2, ps, he, h1, h2, h3, hb⟩
set_option maxHeartbeats 1600000 in
set_option maxRecDepth 100000 in
theorem specJoinExpressions {A E : Option Addr} {n c m d : Nat} {l r : List Nd} {op : Int} (w : World) (h : Sl RN 6 w w.heap.size A n c l) (g : Sl RN 6 w w.heap.size E m d r) (ho : Fit op) : Calls Try.prog 15 #[.slice A n c, .slice E m d, .int .i64 op] w (RetNd2 w (joinR l r op) (joinB l r op)) := by
  obtain ⟨i0, hi, hz0, hz1, hz2⟩ := info_parts info_node
  have HL := Lib.hid h.len
  have HM := Lib.hid g.len
  have hle := h.le
  have hmx := h.max
  have hmx2 := Nat.le_trans g.le g.max
  unfold maxLen at hmx hmx2
  cases okl : P.okE l with
  | false =>
    have HB : Hid (joinB l r op = false) := by show _ = _; unfold joinB; rw [okl]; rfl
    have HE : Hid (joinR l r op = []) := by show _ = _; unfold joinR; rw [HB.out]; rfl
    go_enter Try.func15, Try.ntmps15
    go_wp2_with fail
    refine (specIsExpression _ h).mono ?_
    rintro e w2 ⟨rfl, b2⟩
    rw [okl]
    go_wp2_with fail
    go_ret2
    refine ⟨.slice (some ⟨w2.heap.size, 0, none⟩) 0 0, by rw [HB.out]; rfl, ?_, b2.trans ((Below.refl w2.heap.size w2).alloc (Nat.le_refl _) _ |>.mono b2.size)⟩
    rw [HE.out]
    exact ownNd_mono (ownNd_nil w2 _ (Below.refl _ _)) b2.size
  | true =>
    have hn9 : n ≤ 9 := by have := (P.okE_len okl).1; have := HL.out; omega
    cases okr : P.okE r with
    | false =>
      have HB : Hid (joinB l r op = false) := by show _ = _; unfold joinB; rw [okl, okr]; rfl
      have HE : Hid (joinR l r op = []) := by show _ = _; unfold joinR; rw [HB.out]; rfl
      go_enter Try.func15, Try.ntmps15
      go_wp2_with fail
      refine (specIsExpression _ h).mono ?_
      rintro e w2 ⟨rfl, b2⟩
      rw [okl]
      go_wp2_with fail
      refine (specIsExpression _ (g.on RN.keeps b2)).mono ?_
      rintro e w3 ⟨rfl, b3⟩
      rw [okr]
      have b23 := b2.trans (b3.mono b2.size)
      go_wp2_with fail
      go_ret2
      refine ⟨.slice (some ⟨w3.heap.size, 0, none⟩) 0 0, by rw [HB.out]; rfl, ?_, b23.trans ((Below.refl w3.heap.size w3).alloc (Nat.le_refl _) _ |>.mono b23.size)⟩
      rw [HE.out]
      exact ownNd_mono (ownNd_nil w3 _ (Below.refl _ _)) b23.size
    | true =>
      have hm9 : m ≤ 9 := by have := (P.okE_len okr).1; have := HM.out; omega
      have HK := Lib.hid okl
      have HJ := Lib.hid okr
      by_cases hop : op = 1 ∨ op = 2 ∨ op = 4
      · have HOP := Lib.hid hop
        by_cases hlen : n + m < 9
        · have HB : Hid (joinB l r op = true) := by
            show _ = _
            unfold joinB
            rw [okl, okr, HL.out, HM.out]
            simp [hop, hlen]
          have HE : Hid (joinR l r op = l ++ r ++ [⟨op, noWi⟩]) := by show _ = _; unfold joinR; rw [HB.out]; rfl
          have l1 : ((n : Int) + (m : Int)) < 9 := by omega
          have hq1 : (op != 1 && op != 2 && op != 4) = false := by rcases hop with e | e | e <;> subst e <;> rfl
          go_enter Try.func15, Try.ntmps15
          go_wp2_with fail
          refine (specIsExpression _ h).mono ?_
          rintro e w2 ⟨rfl, b2⟩
          rw [okl]
          go_wp2_with fail
          refine (specIsExpression _ (g.on RN.keeps b2)).mono ?_
          rintro e w3 ⟨rfl, b3⟩
          rw [okr]
          have b23 := b2.trans (b3.mono b2.size)
          have h3 := h.on RN.keeps b23
          have g3 := g.on RN.keeps b23
          have hn20 : n ≤ 1048576 := by omega
          have hm20 : m ≤ 1048576 := by omega
          have hfl := okE_fit HK.out
          have hfr := okE_fit HJ.out
          rcases hop with hop | hop | hop <;> subst hop
          all_goals
            go_wp2_with (first | (go_at_call 38; with_reducible (refine (l5CopyE _ h3 hn20 hfl).mono ?_); rintro e w4 ⟨A1, c1, ps, rfl, M1, L1, Q1, b4⟩) | (go_at_call 38; with_reducible (refine (l5CopyE _ (g3.on RN.keeps b4) hm20 hfr).mono ?_); rintro e w5 ⟨A2, c2, qs, rfl, M2, L2, Q2, b5⟩) | (at_builtin; refine append_at rfl _ _ 25 rfl w3.heap.size 51 i0 _ 6 80 Try.underlying25 hi hz0 hz1 hz2 rfl (Nat.zero_lt_succ 5) _ _ _ rfl (own_below Q1.out.out b5) A2 qs.length c2 (ndc qs) rfl (ndc_len qs) (own_cells Q2.out.out).1 (own_cells Q2.out.out).2 (ndc_one Q2.out.rows) (le63j L1 L2 HL HM hlen) (leByj L1 L2 HL HM hlen) (Nat.le_trans b4.size b5.size) ?_) | fail)
            intro v3 w6 ho3 hg3 ha3
            have Q3 := Lib.hid (Q1.out.join b5 Q2.out.rows (Nat.le_refl _) b4.size hg3 ho3 ha3)
            obtain ⟨rs, hrs⟩ : ∃ rs, Hid (rs = ps ++ qs) := ⟨_, rfl⟩
            have hl3 : rs.length = ps.length + qs.length := by rw [hrs.out]; exact List.length_append
            rw [← hrs.out] at Q3
            have B6 : Below w3.heap.size w3 w6 := ((b4.trans (b5.mono b4.size)).grown hg3 (Nat.le_trans b4.size b5.size) (fun k hk => (Q1.out.out.lt k hk).1))
            have hb36 : ∀ o : Obj, w3.heap.size ≤ (w6.alloc o).heap.size := fun o => by rw [World.size_alloc]; have := B6.size; omega
            obtain ⟨A3, c3, rfl, _, _⟩ := own_form Q3.out.out
            have h63b : rs.length + 1 ≤ maxLen := by rw [hl3]; exact le63k L1 L2 HL HM hlen
            have hbyb : (rs.length + 1) * 80 ≤ 140737488355328 := by rw [hl3]; exact leByk L1 L2 HL HM hlen
            clear hl3 ho3
            go_wp2_with (at_builtin; refine append_at rfl _ _ 25 rfl w3.heap.size 51 i0 _ 6 80 Try.underlying25 hi hz0 hz1 hz2 rfl (Nat.zero_lt_succ 5) _ _ _ rfl (Q3.out.out.alloc _) (some ⟨w6.heap.size, 0, none⟩) 1 1 (ndc [((⟨_, noWi⟩ : Nd), Value.slice none 0 0, Value.slice none 0 0)]) rfl rfl (fun _ => by simp) (fun ad hA => by injection hA with hA; subst hA; exact six_new _ _ _ _ _ _ _ _) (ndc_one (ownNs_none w6 w6.heap.size 3 68 _)) h63b hbyb (hb36 _) ?_)
            intro v4 w7 ho4 hg4 ha4
            have Q4 := Q3.out.join ((Below.refl w6.heap.size w6).alloc (Nat.le_refl _) _) (ownNs_none _ w6.heap.size 3 68 _) (Nat.le_refl _) B6.size hg4 ho4 (by rw [World.size_alloc]; exact ha4)
            have B7 := (B6.alloc B6.size _).grown hg4 (hb36 _) (fun k hk => (Q3.out.out.lt k hk).1)
            go_wp2
            go_ret2
            refine ⟨v4, by rw [HB.out]; rfl, ?_, b23.trans (B7.mono b23.size)⟩
            rw [HE.out]
            have := ownNd_mono (part_ownNd Q4) b23.size
            rw [List.map_append, hrs.out, List.map_append, M1.out, M2.out] at this
            exact this
        · have HB : Hid (joinB l r op = false) := by
            show _ = _
            unfold joinB
            rw [okl, okr, HL.out, HM.out]
            simp [hlen]
          have HE : Hid (joinR l r op = []) := by show _ = _; unfold joinR; rw [HB.out]; rfl
          have l1 : 9 ≤ ((n : Int) + (m : Int)) := by omega
          have l2 : ¬ ((n : Int) + (m : Int)) < 9 := by omega
          go_enter Try.func15, Try.ntmps15
          go_wp2_with fail
          refine (specIsExpression _ h).mono ?_
          rintro e w2 ⟨rfl, b2⟩
          rw [okl]
          go_wp2_with fail
          refine (specIsExpression _ (g.on RN.keeps b2)).mono ?_
          rintro e w3 ⟨rfl, b3⟩
          rw [okr]
          have b23 := b2.trans (b3.mono b2.size)
          rcases hop with hop | hop | hop <;> subst hop
          all_goals
            go_wp2_with fail
            go_ret2
            refine ⟨.slice (some ⟨w3.heap.size, 0, none⟩) 0 0, by rw [HB.out]; rfl, ?_, b23.trans ((Below.refl w3.heap.size w3).alloc (Nat.le_refl _) _ |>.mono b23.size)⟩
            rw [HE.out]
            exact ownNd_mono (ownNd_nil w3 _ (Below.refl _ _)) b23.size
      · have HB : Hid (joinB l r op = false) := by
          show _ = _
          unfold joinB
          rw [okl, okr]
          simp [hop]
        have HE : Hid (joinR l r op = []) := by show _ = _; unfold joinR; rw [HB.out]; rfl
        have p1 : ¬ op = 1 := fun e => hop (.inl e)
        have p2 : ¬ op = 2 := fun e => hop (.inr (.inl e))
        have p4 : ¬ op = 4 := fun e => hop (.inr (.inr e))
        clear hop
        go_enter Try.func15, Try.ntmps15
        go_wp2_with fail
        refine (specIsExpression _ h).mono ?_
        rintro e w2 ⟨rfl, b2⟩
        rw [okl]
        go_wp2_with fail
        refine (specIsExpression _ (g.on RN.keeps b2)).mono ?_
        rintro e w3 ⟨rfl, b3⟩
        rw [okr]
        have b23 := b2.trans (b3.mono b2.size)
        go_wp2_with fail
        go_ret2
        refine ⟨.slice (some ⟨w3.heap.size, 0, none⟩) 0 0, by rw [HB.out]; rfl, ?_, b23.trans ((Below.refl w3.heap.size w3).alloc (Nat.le_refl _) _ |>.mono b23.size)⟩
        rw [HE.out]
        exact ownNd_mono (ownNd_nil w3 _ (Below.refl _ _)) b23.size
theorem copyNodesE {A : Option Addr} {n c : Nat} {l : List Nd} (w : World) (h : Sl RN 6 w w.heap.size A n c l) (hn : n ≤ 1048576) (hfit : ∀ x ∈ l, x.wish.list.length ≤ 1048576 ∧ x.wish.pairs.length ≤ 1048576) : Calls Try.prog 39 #[.slice A n c] w fun e w' => ∃ A2 c2 ps, e = .returned (.slice A2 ps.length c2) ∧ Hid (ps.map (·.1) = l) ∧ Hid (ps.length = l.length) ∧ Hid (PartN w' w.heap.size 51 3 68 (.slice A2 ps.length c2) ps) ∧ Below w.heap.size w w' :=
  (copyNodes w h hn hfit).mono fun e w' ⟨v, he, ho, hb⟩ => by
    obtain ⟨ps, h1, h2, h3⟩ := ownNd_part ho
    obtain ⟨A2, c2, rfl, _, _⟩ := own_form h3.out
    exact ⟨A2, c2, ps, he, h1, h2, h3, hb⟩
set_option maxHeartbeats 1600000 in
set_option maxRecDepth 100000 in
theorem implJoinExpressions {A E : Option Addr} {n c m d : Nat} {l r : List Nd} {op : Int} (w : World) (h : Sl RN 6 w w.heap.size A n c l) (g : Sl RN 6 w w.heap.size E m d r) (ho : Fit op) : Calls Try.prog 16 #[.slice A n c, .slice E m d, .int .i64 op] w (RetNd2 w (joinR l r op) (joinB l r op)) := by
  obtain ⟨i0, hi, hz0, hz1, hz2⟩ := info_parts info_node
  have HL := Lib.hid h.len
  have HM := Lib.hid g.len
  have hle := h.le
  have hmx := h.max
  have hmx2 := Nat.le_trans g.le g.max
  unfold maxLen at hmx hmx2
  cases okl : P.okE l with
  | false =>
    have HB : Hid (joinB l r op = false) := by show _ = _; unfold joinB; rw [okl]; rfl
    have HE : Hid (joinR l r op = []) := by show _ = _; unfold joinR; rw [HB.out]; rfl
    go_enter Try.func16, Try.ntmps16
    go_wp2_with fail
    refine (implIsExpression _ h).mono ?_
    rintro e w2 ⟨rfl, b2⟩
    rw [okl]
    go_wp2_with fail
    go_ret2
    refine ⟨.slice (some ⟨w2.heap.size, 0, none⟩) 0 0, by rw [HB.out]; rfl, ?_, b2.trans ((Below.refl w2.heap.size w2).alloc (Nat.le_refl _) _ |>.mono b2.size)⟩
    rw [HE.out]
    exact ownNd_mono (ownNd_nil w2 _ (Below.refl _ _)) b2.size
  | true =>
    have hn9 : n ≤ 9 := by have := (P.okE_len okl).1; have := HL.out; omega
    cases okr : P.okE r with
    | false =>
      have HB : Hid (joinB l r op = false) := by show _ = _; unfold joinB; rw [okl, okr]; rfl
      have HE : Hid (joinR l r op = []) := by show _ = _; unfold joinR; rw [HB.out]; rfl
      go_enter Try.func16, Try.ntmps16
      go_wp2_with fail
      refine (implIsExpression _ h).mono ?_
      rintro e w2 ⟨rfl, b2⟩
      rw [okl]
      go_wp2_with fail
      refine (implIsExpression _ (g.on RN.keeps b2)).mono ?_
      rintro e w3 ⟨rfl, b3⟩
      rw [okr]
      have b23 := b2.trans (b3.mono b2.size)
      go_wp2_with fail
      go_ret2
      refine ⟨.slice (some ⟨w3.heap.size, 0, none⟩) 0 0, by rw [HB.out]; rfl, ?_, b23.trans ((Below.refl w3.heap.size w3).alloc (Nat.le_refl _) _ |>.mono b23.size)⟩
      rw [HE.out]
      exact ownNd_mono (ownNd_nil w3 _ (Below.refl _ _)) b23.size
    | true =>
      have hm9 : m ≤ 9 := by have := (P.okE_len okr).1; have := HM.out; omega
      have HK := Lib.hid okl
      have HJ := Lib.hid okr
      by_cases hop : op = 1 ∨ op = 2 ∨ op = 4
      · have HOP := Lib.hid hop
        by_cases hlen : n + m < 9
        · have HB : Hid (joinB l r op = true) := by
            show _ = _
            unfold joinB
            rw [okl, okr, HL.out, HM.out]
            simp [hop, hlen]
          have HE : Hid (joinR l r op = l ++ r ++ [⟨op, noWi⟩]) := by show _ = _; unfold joinR; rw [HB.out]; rfl
          have l1 : ((n : Int) + (m : Int)) < 9 := by omega
          have hq1 : (op != 1 && op != 2 && op != 4) = false := by rcases hop with e | e | e <;> subst e <;> rfl
          go_enter Try.func16, Try.ntmps16
          go_wp2_with fail
          refine (implIsExpression _ h).mono ?_
          rintro e w2 ⟨rfl, b2⟩
          rw [okl]
          go_wp2_with fail
          refine (implIsExpression _ (g.on RN.keeps b2)).mono ?_
          rintro e w3 ⟨rfl, b3⟩
          rw [okr]
          have b23 := b2.trans (b3.mono b2.size)
          have h3 := h.on RN.keeps b23
          have g3 := g.on RN.keeps b23
          have hn20 : n ≤ 1048576 := by omega
          have hm20 : m ≤ 1048576 := by omega
          have hfl := okE_fit HK.out
          have hfr := okE_fit HJ.out
          rcases hop with hop | hop | hop <;> subst hop
          all_goals
            go_wp2_with (first | (go_at_call 39; with_reducible (refine (copyNodesE _ h3 hn20 hfl).mono ?_); rintro e w4 ⟨A1, c1, ps, rfl, M1, L1, Q1, b4⟩) | (go_at_call 39; with_reducible (refine (copyNodesE _ (g3.on RN.keeps b4) hm20 hfr).mono ?_); rintro e w5 ⟨A2, c2, qs, rfl, M2, L2, Q2, b5⟩) | (at_builtin; refine append_at rfl _ _ 25 rfl w3.heap.size 51 i0 _ 6 80 Try.underlying25 hi hz0 hz1 hz2 rfl (Nat.zero_lt_succ 5) _ _ _ rfl (own_below Q1.out.out b5) A2 qs.length c2 (ndc qs) rfl (ndc_len qs) (own_cells Q2.out.out).1 (own_cells Q2.out.out).2 (ndc_one Q2.out.rows) (le63j L1 L2 HL HM hlen) (leByj L1 L2 HL HM hlen) (Nat.le_trans b4.size b5.size) ?_) | fail)
            intro v3 w6 ho3 hg3 ha3
            have Q3 := Lib.hid (Q1.out.join b5 Q2.out.rows (Nat.le_refl _) b4.size hg3 ho3 ha3)
            obtain ⟨rs, hrs⟩ : ∃ rs, Hid (rs = ps ++ qs) := ⟨_, rfl⟩
            have hl3 : rs.length = ps.length + qs.length := by rw [hrs.out]; exact List.length_append
            rw [← hrs.out] at Q3
            have B6 : Below w3.heap.size w3 w6 := ((b4.trans (b5.mono b4.size)).grown hg3 (Nat.le_trans b4.size b5.size) (fun k hk => (Q1.out.out.lt k hk).1))
            have hb36 : ∀ o : Obj, w3.heap.size ≤ (w6.alloc o).heap.size := fun o => by rw [World.size_alloc]; have := B6.size; omega
            obtain ⟨A3, c3, rfl, _, _⟩ := own_form Q3.out.out
            have h63b : rs.length + 1 ≤ maxLen := by rw [hl3]; exact le63k L1 L2 HL HM hlen
            have hbyb : (rs.length + 1) * 80 ≤ 140737488355328 := by rw [hl3]; exact leByk L1 L2 HL HM hlen
            clear hl3 ho3
            go_wp2_with (at_builtin; refine append_at rfl _ _ 25 rfl w3.heap.size 51 i0 _ 6 80 Try.underlying25 hi hz0 hz1 hz2 rfl (Nat.zero_lt_succ 5) _ _ _ rfl (Q3.out.out.alloc _) (some ⟨w6.heap.size, 0, none⟩) 1 1 (ndc [((⟨_, noWi⟩ : Nd), Value.slice none 0 0, Value.slice none 0 0)]) rfl rfl (fun _ => by simp) (fun ad hA => by injection hA with hA; subst hA; exact six_new _ _ _ _ _ _ _ _) (ndc_one (ownNs_none w6 w6.heap.size 3 68 _)) h63b hbyb (hb36 _) ?_)
            intro v4 w7 ho4 hg4 ha4
            have Q4 := Q3.out.join ((Below.refl w6.heap.size w6).alloc (Nat.le_refl _) _) (ownNs_none _ w6.heap.size 3 68 _) (Nat.le_refl _) B6.size hg4 ho4 (by rw [World.size_alloc]; exact ha4)
            have B7 := (B6.alloc B6.size _).grown hg4 (hb36 _) (fun k hk => (Q3.out.out.lt k hk).1)
            go_wp2
            go_ret2
            refine ⟨v4, by rw [HB.out]; rfl, ?_, b23.trans (B7.mono b23.size)⟩
            rw [HE.out]
            have := ownNd_mono (part_ownNd Q4) b23.size
            rw [List.map_append, hrs.out, List.map_append, M1.out, M2.out] at this
            exact this
        · have HB : Hid (joinB l r op = false) := by
            show _ = _
            unfold joinB
            rw [okl, okr, HL.out, HM.out]
            simp [hlen]
          have HE : Hid (joinR l r op = []) := by show _ = _; unfold joinR; rw [HB.out]; rfl
          have l1 : 9 ≤ ((n : Int) + (m : Int)) := by omega
          have l2 : ¬ ((n : Int) + (m : Int)) < 9 := by omega
          go_enter Try.func16, Try.ntmps16
          go_wp2_with fail
          refine (implIsExpression _ h).mono ?_
          rintro e w2 ⟨rfl, b2⟩
          rw [okl]
          go_wp2_with fail
          refine (implIsExpression _ (g.on RN.keeps b2)).mono ?_
          rintro e w3 ⟨rfl, b3⟩
          rw [okr]
          have b23 := b2.trans (b3.mono b2.size)
          rcases hop with hop | hop | hop <;> subst hop
          all_goals
            go_wp2_with fail
            go_ret2
            refine ⟨.slice (some ⟨w3.heap.size, 0, none⟩) 0 0, by rw [HB.out]; rfl, ?_, b23.trans ((Below.refl w3.heap.size w3).alloc (Nat.le_refl _) _ |>.mono b23.size)⟩
            rw [HE.out]
            exact ownNd_mono (ownNd_nil w3 _ (Below.refl _ _)) b23.size
      · have HB : Hid (joinB l r op = false) := by
          show _ = _
          unfold joinB
          rw [okl, okr]
          simp [hop]
        have HE : Hid (joinR l r op = []) := by show _ = _; unfold joinR; rw [HB.out]; rfl
        have p1 : ¬ op = 1 := fun e => hop (.inl e)
        have p2 : ¬ op = 2 := fun e => hop (.inr (.inl e))
        have p4 : ¬ op = 4 := fun e => hop (.inr (.inr e))
        clear hop
        go_enter Try.func16, Try.ntmps16
        go_wp2_with fail
        refine (implIsExpression _ h).mono ?_
        rintro e w2 ⟨rfl, b2⟩
        rw [okl]
        go_wp2_with fail
        refine (implIsExpression _ (g.on RN.keeps b2)).mono ?_
        rintro e w3 ⟨rfl, b3⟩
        rw [okr]
        have b23 := b2.trans (b3.mono b2.size)
        go_wp2_with fail
        go_ret2
        refine ⟨.slice (some ⟨w3.heap.size, 0, none⟩) 0 0, by rw [HB.out]; rfl, ?_, b23.trans ((Below.refl w3.heap.size w3).alloc (Nat.le_refl _) _ |>.mono b23.size)⟩
        rw [HE.out]
        exact ownNd_mono (ownNd_nil w3 _ (Below.refl _ _)) b23.size
end Go.Proofs.Yteinbnjkiebfaaa.Wk

namespace Go.Proofs.Yteinbnjkiebfaaa.Wk
open Go.RowKit Go.Proofs.Yteinbnjkiebfaaa.M
set_option linter.unusedVariables false

theorem cnt_tot : ∀ (l : List Nd), cntN l ≤ 4 * totN l
  | [] => Nat.zero_le _
  | x :: t => by
    have := cnt_tot t
    simp only [cntN, totN, cnt1]
    omega
theorem cnt_drop (l : List Nd) (i : Nat) : cntN (l.drop i) ≤ cntN l := by
  have := cntN_app (l.take i) (l.drop i)
  rw [List.take_append_drop] at this; omega
theorem cnt_sub (l : List Nd) (a : Int) : cntN (subR l a) ≤ 4 * totN l := by
  refine Nat.le_trans ?_ (cnt_tot l)
  unfold subR
  split
  · exact Nat.le_trans (cntN_le _ _) (cnt_drop _ _)
  · exact Nat.zero_le _
theorem specSubtreeV {v : Value} {l : List Nd} {a : Int} (w : World) (h : V RN 6 w w.heap.size v l) (ha : Fit a) : Calls Try.prog 24 #[v, .int .i64 a] w (RetNd w (subR l a)) := by
  obtain ⟨A, n, c, rfl, h⟩ := h
  exact specSubtree w h ha
theorem implSubtreeV {v : Value} {l : List Nd} {a : Int} (w : World) (h : V RN 6 w w.heap.size v l) (ha : Fit a) : Calls Try.prog 25 #[v, .int .i64 a] w (RetNd w (subR l a)) := by
  obtain ⟨A, n, c, rfl, h⟩ := h
  exact implSubtree w h ha
end Go.Proofs.Yteinbnjkiebfaaa.Wk

namespace Go.Proofs.Yteinbnjkiebfaaa.Wk
open Go.RowKit Go.Proofs.Yteinbnjkiebfaaa.M
set_option linter.unusedVariables false

theorem cnt_join (l r : List Nd) (op : Int) : cntN (joinR l r op) ≤ 4 * totN l + 4 * totN r + 4 := by
  unfold joinR
  split
  · have h1 := cnt_tot l
    have h2 := cnt_tot r
    rw [cntN_app, cntN_app]
    have h3 : cntN [(⟨op, noWi⟩ : Nd)] = 4 := rfl
    omega
  · exact Nat.zero_le _
theorem fit_join {l r : List Nd} {op : Int} (h : ∀ x ∈ l, FitN x) (g : ∀ x ∈ r, FitN x) (ho : Fit op) : ∀ x ∈ joinR l r op, FitN x := by
  intro x hx
  unfold joinR at hx
  split at hx
  · rcases List.mem_append.1 hx with hx | hx
    · rcases List.mem_append.1 hx with hx | hx
      · exact h x hx
      · exact g x hx
    · simp at hx
      subst hx
      exact ⟨ho, by unfold Fit noWi; simp, by unfold Fit noWi; simp, by unfold Fit noWi; simp, by simp [noWi], by simp [noWi]⟩
  · simp at hx
theorem specJoinExpressionsV {v u : Value} {l r : List Nd} {op : Int} (w : World) (h : V RN 6 w w.heap.size v l) (g : V RN 6 w w.heap.size u r) (ho : Fit op) : Calls Try.prog 15 #[v, u, .int .i64 op] w (RetNd2 w (joinR l r op) (joinB l r op)) := by
  obtain ⟨A, n, c, rfl, h⟩ := h
  obtain ⟨E, m, d, rfl, g⟩ := g
  exact specJoinExpressions w h g ho
theorem implJoinExpressionsV {v u : Value} {l r : List Nd} {op : Int} (w : World) (h : V RN 6 w w.heap.size v l) (g : V RN 6 w w.heap.size u r) (ho : Fit op) : Calls Try.prog 16 #[v, u, .int .i64 op] w (RetNd2 w (joinR l r op) (joinB l r op)) := by
  obtain ⟨A, n, c, rfl, h⟩ := h
  obtain ⟨E, m, d, rfl, g⟩ := g
  exact implJoinExpressions w h g ho
end Go.Proofs.Yteinbnjkiebfaaa.Wk

namespace Go.Proofs.Yteinbnjkiebfaaa.Wk
open Go.RowKit Go.Proofs.Yteinbnjkiebfaaa.M
set_option linter.unusedVariables false

set_option maxHeartbeats 3200000 in
set_option maxRecDepth 100000 in
theorem FnExactJoinExpressions_no0 (w : World) (v0 : Value) (x0 : List Nd) (e0 : V RN 6 w w.heap.size v0 x0) (v1 : Value) (x1 : List Nd) (e1 : V RN 6 w w.heap.size v1 x1) (x2 : Int) (e2 : (Lit.int .i64 x2).wf = true)  (hbad : 1048576 < totN x0) : Calls Try.prog 5 #[v0, v1, .int .i64 x2] w fun e w' => e = .returned (.bool true) ∧ Below w.heap.size w w' := by
  have B0 := Below.refl w.heap.size w
  have H0 := Lib.hid e0
  have H1 := Lib.hid e1
  have FT0 := Lib.hid (fitNsV e0)
  have FT1 := Lib.hid (fitNsV e1)
  have f2 := fit_wf e2
  clear e0
  clear e1
  go_enter Try.func5, Try.ntmps5
  have HB0 := B0.size
  go_wp2_with fail
  refine (szV_nodes _ (V_on RN.keeps H0.out B0) (by omega) (by omega)).mono ?_
  rintro e w1 ⟨rfl, b1⟩
  have z1 := b1.size
  have B1 := B0.trans (b1.mono B0.size)
  clear b1
  rw [less_no (left := 1048576) (t := totN x0) (by omega)]
  go_wp2_with fail
  go_ret
  exact ⟨rfl, B1⟩
set_option maxHeartbeats 3200000 in
set_option maxRecDepth 100000 in
theorem FnExactJoinExpressions_no1 (w : World) (v0 : Value) (x0 : List Nd) (e0 : V RN 6 w w.heap.size v0 x0) (v1 : Value) (x1 : List Nd) (e1 : V RN 6 w w.heap.size v1 x1) (x2 : Int) (e2 : (Lit.int .i64 x2).wf = true) (hfit : totN x0 ≤ 1048576) (hbad : 1048576 < totN x0 + totN x1) : Calls Try.prog 5 #[v0, v1, .int .i64 x2] w fun e w' => e = .returned (.bool true) ∧ Below w.heap.size w w' := by
  have B0 := Below.refl w.heap.size w
  have H0 := Lib.hid e0
  have H1 := Lib.hid e1
  have FT0 := Lib.hid (fitNsV e0)
  have FT1 := Lib.hid (fitNsV e1)
  have f2 := fit_wf e2
  clear e0
  clear e1
  go_enter Try.func5, Try.ntmps5
  have HB0 := B0.size
  go_wp2_with fail
  refine (szV_nodes _ (V_on RN.keeps H0.out B0) (by omega) (by omega)).mono ?_
  rintro e w1 ⟨rfl, b1⟩
  have z1 := b1.size
  have B1 := B0.trans (b1.mono B0.size)
  clear b1
  rw [less_fit (left := 1048576) (t := totN x0) (by omega)]
  go_wp2_with fail
  refine (szV_nodes _ (V_on RN.keeps H1.out B1) (by omega) (by omega)).mono ?_
  rintro e w2 ⟨rfl, b2⟩
  have z2 := b2.size
  have B2 := B1.trans (b2.mono B1.size)
  clear b2
  rw [less_no (left := 1048576 - ((totN x0 : Nat) : Int)) (t := totN x1) (by omega)]
  go_wp2_with fail
  go_ret
  exact ⟨rfl, B2⟩
set_option maxHeartbeats 3200000 in
set_option maxRecDepth 100000 in
theorem FnExactJoinExpressions_yes (w : World) (v0 : Value) (x0 : List Nd) (e0 : V RN 6 w w.heap.size v0 x0) (v1 : Value) (x1 : List Nd) (e1 : V RN 6 w w.heap.size v1 x1) (x2 : Int) (e2 : (Lit.int .i64 x2).wf = true) (hfit : totN x0 + totN x1 ≤ 1048576) : Calls Try.prog 5 #[v0, v1, .int .i64 x2] w fun e w' => e = .returned (.bool true) ∧ Below w.heap.size w w' := by
  have B0 := Below.refl w.heap.size w
  have H0 := Lib.hid e0
  have H1 := Lib.hid e1
  have FT0 := Lib.hid (fitNsV e0)
  have FT1 := Lib.hid (fitNsV e1)
  have f2 := fit_wf e2
  clear e0
  clear e1
  have ct0 := cnt_tot x0
  have ct1 := cnt_tot x1
  have FR := Lib.hid (fit_join FT0.out FT1.out f2)
  go_enter Try.func5, Try.ntmps5
  have HB0 := B0.size
  go_wp2_with fail
  refine (szV_nodes _ (V_on RN.keeps H0.out B0) (by omega) (by omega)).mono ?_
  rintro e w1 ⟨rfl, b1⟩
  have z1 := b1.size
  have B1 := B0.trans (b1.mono B0.size)
  clear b1
  rw [less_fit (left := 1048576) (t := totN x0) (by omega)]
  go_wp2_with fail
  refine (szV_nodes _ (V_on RN.keeps H1.out B1) (by omega) (by omega)).mono ?_
  rintro e w2 ⟨rfl, b2⟩
  have z2 := b2.size
  have B2 := B1.trans (b2.mono B1.size)
  clear b2
  rw [less_fit (left := 1048576 - ((totN x0 : Nat) : Int)) (t := totN x1) (by omega)]
  go_wp2_with fail
  refine (toO_nodes _ (V_on RN.keeps H0.out B2) (by omega)).mono ?_
  rintro e w3 ⟨ut0, rfl, Ot0, b3⟩
  have z3 := b3.size
  have B3 := B2.trans (b3.mono B2.size)
  clear b3
  go_wp2_with fail
  refine (toO_nodes _ (V_on RN.keeps H1.out B3) (by omega)).mono ?_
  rintro e w4 ⟨ut1, rfl, Ot1, b4⟩
  have z4 := b4.size
  have B4 := B3.trans (b4.mono B3.size)
  have Ot0 := Ot0.below b4
  clear b4
  go_wp2_with fail
  refine (specJoinExpressionsV _ (Ot0.read FT0.out) (Ot1.read FT1.out) f2).mono ?_
  rintro e w5 ⟨w0, rfl, Ow, b5⟩
  have z5 := b5.size
  have B5 := B4.trans (b5.mono B4.size)
  clear b5
  have W0 := Ow.read FR.out
  clear Ow Ot0 Ot1
  go_wp2_with fail
  refine (toO_nodes _ (V_on RN.keeps H0.out B5) (by omega)).mono ?_
  rintro e w6 ⟨ux0, rfl, Ox0, b6⟩
  have z6 := b6.size
  have B6 := B5.trans (b6.mono B5.size)
  have W0 := W0.below RN.keeps (b6.mono (by omega))
  clear b6
  go_wp2_with fail
  refine (toO_nodes _ (V_on RN.keeps H1.out B6) (by omega)).mono ?_
  rintro e w7 ⟨ux1, rfl, Ox1, b7⟩
  have z7 := b7.size
  have B7 := B6.trans (b7.mono B6.size)
  have W0 := W0.below RN.keeps (b7.mono (by omega))
  have Ox0 := Ox0.below b7
  clear b7
  go_wp2_with fail
  refine (implJoinExpressionsV _ (Ox0.read FT0.out) (Ox1.read FT1.out) f2).mono ?_
  rintro e w8 ⟨g0, rfl, Og, b8⟩
  have z8 := b8.size
  have B8 := B7.trans (b8.mono B7.size)
  have W0 := W0.below RN.keeps (b8.mono (by omega))
  have Ox0 := Ox0.below b8
  have Ox1 := Ox1.below b8
  clear b8
  go_wp2_with fail
  refine (eqO_nodes _ Og FR.out W0 (by omega)).mono ?_
  rintro e w9 ⟨rfl, b9⟩
  have z9 := b9.size
  have B9 := B8.trans (b9.mono B8.size)
  have W0 := W0.below RN.keeps (b9.mono (by omega))
  have Ox0 := Ox0.below b9
  have Ox1 := Ox1.below b9
  have Og := Og.below b9
  clear b9
  go_wp2_with fail
  refine (toO_nodes _ (V_on RN.keeps H0.out B9) (by omega)).mono ?_
  rintro e w10 ⟨y0, rfl, Oy, b10⟩
  have z10 := b10.size
  have B10 := B9.trans (b10.mono B9.size)
  have W0 := W0.below RN.keeps (b10.mono (by omega))
  have Ox0 := Ox0.below b10
  have Ox1 := Ox1.below b10
  have Og := Og.below b10
  clear b10
  have Vy := Oy.read FT0.out
  go_wp2_with fail
  refine (eqO_nodes _ Ox0 FT0.out Vy (by omega)).mono ?_
  clear Oy Vy
  rintro e w11 ⟨rfl, b11⟩
  have z11 := b11.size
  have B11 := B10.trans (b11.mono B10.size)
  have W0 := W0.below RN.keeps (b11.mono (by omega))
  have Ox0 := Ox0.below b11
  have Ox1 := Ox1.below b11
  have Og := Og.below b11
  clear b11
  go_wp2_with fail
  refine (toO_nodes _ (V_on RN.keeps H1.out B11) (by omega)).mono ?_
  rintro e w12 ⟨y1, rfl, Oy, b12⟩
  have z12 := b12.size
  have B12 := B11.trans (b12.mono B11.size)
  have W0 := W0.below RN.keeps (b12.mono (by omega))
  have Ox0 := Ox0.below b12
  have Ox1 := Ox1.below b12
  have Og := Og.below b12
  clear b12
  have Vy := Oy.read FT1.out
  go_wp2_with fail
  refine (eqO_nodes _ Ox1 FT1.out Vy (by omega)).mono ?_
  clear Oy Vy
  rintro e w13 ⟨rfl, b13⟩
  have z13 := b13.size
  have B13 := B12.trans (b13.mono B12.size)
  have W0 := W0.below RN.keeps (b13.mono (by omega))
  have Ox0 := Ox0.below b13
  have Ox1 := Ox1.below b13
  have Og := Og.below b13
  clear b13
  go_wp2_with fail
  refine (mark_nodes (k := 1) _ Ox0 (by omega) (by omega)).mono ?_
  clear Ox0
  rintro e w14 ⟨rfl, _, c14⟩
  have z14 := c14.size
  have B14 := B13.trans (below_chg c14 (by have := B13.size; omega))
  have W0 := W0.below RN.keeps (below_chg c14 (by omega))
  have Ox1 := Ox1.rng c14 (by omega)
  have Og := Og.rng c14 (by omega)
  clear c14
  go_wp2_with fail
  refine (mark_nodes (k := 1 + ((cntN x0 : Nat) : Int)) _ Ox1 (by omega) (by omega)).mono ?_
  clear Ox1
  rintro e w15 ⟨rfl, _, c15⟩
  have z15 := c15.size
  have B15 := B14.trans (below_chg c15 (by have := B14.size; omega))
  have W0 := W0.below RN.keeps (below_chg c15 (by omega))
  have Og := Og.rng c15 (by omega)
  clear c15
  have hk : ¬ (1 + ((cntN x0 : Nat) : Int) + ((cntN x1 : Nat) : Int) < 0) := by omega
  go_wp2_with fail
  refine (eqO_nodes _ Og FR.out W0 (by omega)).mono ?_
  rintro e w16 ⟨rfl, b16⟩
  have z16 := b16.size
  have B16 := B15.trans (b16.mono B15.size)
  have W0 := W0.below RN.keeps (b16.mono (by omega))
  have Og := Og.below b16
  clear b16
  go_wp2_with fail
  refine (mark_nodes (k := 1) _ Og (by omega) (by have := cnt_join x0 x1 x2; omega)).mono ?_
  clear Og
  rintro e w17 ⟨rfl, Om, c17⟩
  have z17 := c17.size
  have B17 := B16.trans (below_chg c17 (by have := B16.size; omega))
  have W0 := W0.below RN.keeps (below_chg c17 (by omega))
  clear c17
  have hq : ¬ (1 + ((cntN (joinR x0 x1 x2) : Nat) : Int) < 0) := by omega
  have hm : ((1 + ((cntN (joinR x0 x1 x2) : Nat) : Int)) != (1 + ((cntN (joinR x0 x1 x2) : Nat) : Int))) = false := by simp
  go_wp2_with fail
  refine (held_nodes (k := 1) _ Om (by omega) (by have := cnt_join x0 x1 x2; omega)).mono ?_
  rintro e wz ⟨rfl, rfl⟩
  go_wp2_with fail
  refine (toO_nodes _ (V_on RN.keeps H0.out B17) (by omega)).mono ?_
  rintro e w18 ⟨uh0, rfl, Oh0, b18⟩
  have z18 := b18.size
  have B18 := B17.trans (b18.mono B17.size)
  have W0 := W0.below RN.keeps (b18.mono (by omega))
  have Om := Om.below b18
  clear b18
  go_wp2_with fail
  refine (toO_nodes _ (V_on RN.keeps H1.out B18) (by omega)).mono ?_
  rintro e w19 ⟨uh1, rfl, Oh1, b19⟩
  have z19 := b19.size
  have B19 := B18.trans (b19.mono B18.size)
  have W0 := W0.below RN.keeps (b19.mono (by omega))
  have Om := Om.below b19
  have Oh0 := Oh0.below b19
  clear b19
  go_wp2_with fail
  refine (implJoinExpressionsV _ (Oh0.read FT0.out) (Oh1.read FT1.out) f2).mono ?_
  rintro e w20 ⟨h0, rfl, Oh, b20⟩
  have z20 := b20.size
  have B20 := B19.trans (b20.mono B19.size)
  have W0 := W0.below RN.keeps (b20.mono (by omega))
  have Om := Om.below b20
  clear b20
  clear Oh0 Oh1
  go_wp2_with fail
  refine (eqO_nodes _ Oh FR.out W0 (by omega)).mono ?_
  rintro e w21 ⟨rfl, b21⟩
  have z21 := b21.size
  have B21 := B20.trans (b21.mono B20.size)
  have W0 := W0.below RN.keeps (b21.mono (by omega))
  have Om := Om.below b21
  have Oh := Oh.below b21
  clear b21
  clear Oh
  go_wp2_with fail
  refine (held_nodes (k := 1) _ Om (by omega) (by have := cnt_join x0 x1 x2; omega)).mono ?_
  rintro e wz ⟨rfl, rfl⟩
  go_wp2_with fail
  go_ret
  exact ⟨rfl, B21⟩
theorem FnExactJoinExpressions (w : World) (v0 : Value) (x0 : List Nd) (e0 : V RN 6 w w.heap.size v0 x0) (v1 : Value) (x1 : List Nd) (e1 : V RN 6 w w.heap.size v1 x1) (x2 : Int) (e2 : (Lit.int .i64 x2).wf = true) : Calls Try.prog 5 #[v0, v1, .int .i64 x2] w fun e w' => e = .returned (.bool true) ∧ Below w.heap.size w w' := by
  by_cases h0 : 1048576 < totN x0
  · exact FnExactJoinExpressions_no0 w v0 x0 e0 v1 x1 e1 x2 e2  h0
  by_cases h1 : 1048576 < totN x0 + totN x1
  · exact FnExactJoinExpressions_no1 w v0 x0 e0 v1 x1 e1 x2 e2 (by omega) h1
  exact FnExactJoinExpressions_yes w v0 x0 e0 v1 x1 e1 x2 e2 (by omega)
end Go.Proofs.Yteinbnjkiebfaaa.Wk

namespace Go.Proofs.Yteinbnjkiebfaaa
open Go Go.RowKit Go.ChangeShapes Go.WideShapes Go.Deep Go.Proofs.Yteinbnjkiebfaaa.M

theorem op_node {H : Type} {enc : TypeId × Value → H} {W : World} {P : Program} {e ti tw : TypeId} {f0 f1 : Field} (hs : P.underlying e = some (.struct #[f0, f1])) (hi : P.underlying ti = some (.int .i64)) (hC : P.cellsOf e = 6) (hci : P.cellsOf ti = 1) (hcw : P.cellsOf tw = 5)
    (t0 : f0.type = ti) (t1 : f1.type = tw) (o0 : f0.offset = 0) (o1 : f1.offset = 1) (opw : ∀ fuel cs (x : DataW H × List MemPlace), DataW.trod enc P W 0 (fun _ => true) true fuel tw cs = some x → ∃ a, RW W W.heap.size a cs)
    {fuel : Nat} {cs : List Value} {x : DataW H × List MemPlace} (h : DataW.trod enc P W 0 (fun _ => true) true fuel e cs = some x) : ∃ a, RN W W.heap.size a cs := by
  obtain ⟨xs, n, _, _, hcl, hxl, hg⟩ := DataW.trod_struct hs h
  obtain ⟨y0, h0⟩ := field_at hxl hg 0 f0 rfl
  obtain ⟨y1, h1⟩ := field_at hxl hg 1 f1 rfl
  rw [hC] at hcl
  rw [t0, o0, hci] at h0
  rw [t1, o1, hcw] at h1
  match cs, hcl with
  | c0 :: rest, hcl =>
    have hr : rest.length = 5 := by simpa using hcl
    obtain ⟨a, e0, _, w0⟩ := DataW.trod_int hi h0
    have e1 : ((c0 :: rest).drop 1).take 5 = rest := by rw [List.drop_one, List.tail_cons]; exact List.take_of_length_le (Nat.le_of_eq hr)
    rw [e1] at h1
    obtain ⟨b, hb⟩ := opw _ _ _ h1
    simp at e0
    subst e0
    exact ⟨⟨a, b⟩, rest, rfl, fit_wf w0, hb⟩
theorem cells_node : Try.prog.cellsOf 46 = 6 := by kernel_rfl
set_option maxRecDepth 100000 in
theorem opN {H : Type} {enc : TypeId × Value → H} {W : World} {fuel : Nat} {cs : List Value} {x : DataW H × List MemPlace} (h : DataW.trod enc Try.prog W 0 (fun _ => true) true fuel 46 cs = some x) : ∃ a, RN W W.heap.size a cs :=
  op_node Try.underlying46 Try.underlying3 cells_node cells_int cells_wish rfl rfl rfl rfl (fun _ _ _ hh => opW hh) h
set_option maxRecDepth 100000 in
theorem open_nodes {H : Type} {enc : TypeId × Value → H} {W : World} {b0 : Nat} {v : Value} {d : DataW H} {p : List MemPlace} (hv : Value.okWide Try.prog W .any b0 22 v) (h : DataW.Trod enc Try.prog W 0 (fun _ => true) true 22 v d p) : ∃ l, V RN 6 W W.heap.size v l :=
  trod_slice_V Try.underlying22 cells_node (by omega) (fun _ _ _ hh => opN hh) hv h
end Go.Proofs.Yteinbnjkiebfaaa

namespace Go.Proofs.Yteinbnjkiebfaaa.LFnExactJoinExpressions
open Go.ChangeShapes Go.WideShapes Go.ChangeAt Go.RowKit
open Go.ChangeMaps (open_string shut_string)
set_option linter.unusedVariables false

theorem own : ownKnob Try.prog.godebug = none := by kernel_rfl
theorem laidOut : laidOutB Try.prog = true := by kernel_rfl

set_option maxRecDepth 100000 in
theorem lifted (os : Os) (started : os.Started) (H : Type) (enc : TypeId × Value → H) :
    ReturnsInHanded {} Try.checked os 5 .any (Rows.fnExactJoinExpressionsSpec.pre6 enc Try.prog Try.f5 Rows.fnExactJoinExpressionsRow.domain false) (Rows.fnExactJoinExpressionsSpec.post enc Try.prog Try.f5 false true false false) := by
  refine returnsInHanded_of_change (C := Try.checked) own started (by kernel_rfl) Try.func5
    (ChangeSpec.witness6 (enc := enc) (C := Try.checked) false ⟨#[], #[.slice none 0 0, .slice none 0 0, .int .i64 0], []⟩ 8 (by kernel_rfl) (by kernel_rfl) (by kernel_rfl) (by kernel_rfl)) ?_
  intro W base args ds gs before hval0 hW hcnd _
  have hval : ∀ (j : Nat) t v, Try.f5.params[j]? = some t → args[j]? = some v → Value.okWide Try.prog W .any base t v := hval0
  have hW' := hW
  obtain ⟨p, q, hA0, hV, rfl, hfz, hnd⟩ := hW
  have hA : DataW.TrodAll enc Try.prog W 0 (fun _ => true) true Try.f5.params.toList args.toList ds p := hA0
  rw [Try.params5] at hA hval
  obtain ⟨v0, vs0, d0, ds0, p0, q0, hargs, rfl, rfl, h0, r0⟩ := trodAll_cons hA
  obtain ⟨v1, vs1, d1, ds1, p1, q1, rfl, rfl, rfl, h1, r1⟩ := trodAll_cons r0
  obtain ⟨v2, vs2, d2, ds2, p2, q2, rfl, rfl, rfl, h2, r2⟩ := trodAll_cons r1
  obtain ⟨rfl, rfl, rfl⟩ := trodAll_nil r2
  obtain rfl : args = #[v0, v1, v2] := by cases args; simp_all
  obtain ⟨rfl, rfl⟩ := trodVars_none hV
  have k0 := h0
  have lt0 : ∀ x ∈ p0, x.block < W.heap.size := by obtain ⟨m, hm⟩ := k0; exact DataW.trod_lt m _ _ _ hm
  obtain ⟨l0, w0⟩ := open_nodes (hval 0 22 v0 rfl rfl) h0
  have k1 := h1
  have lt1 : ∀ x ∈ p1, x.block < W.heap.size := by obtain ⟨m, hm⟩ := k1; exact DataW.trod_lt m _ _ _ hm
  obtain ⟨l1, w1⟩ := open_nodes (hval 1 22 v1 rfl rfl) h1
  have k2 := h2
  have lt2 : ∀ x ∈ p2, x.block < W.heap.size := by obtain ⟨m, hm⟩ := k2; exact DataW.trod_lt m _ _ _ hm
  obtain ⟨a2, e2, _, _, w2⟩ := open_int Try.underlying3 (hval 2 3 v2 rfl rfl) h2
  subst e2
  clear hA0 hval0
  refine (Wk.FnExactJoinExpressions (w := W) v0 l0 w0 v1 l1 w1 a2 w2).mono fun e W' ⟨he, bel⟩ => ?_
  subst he
  exact ⟨_, rfl, _, _, _, [], _, [], hW', trodAll_mk1 (shut_bool Try.underlying4 _), (trodAll_cons_mk (Below.trod laidOut (by kernel_rfl) (of_decide_eq_true (by kernel_rfl)) k0 bel lt0) (trodAll_cons_mk (Below.trod laidOut (by kernel_rfl) (of_decide_eq_true (by kernel_rfl)) k1 bel lt1) (trodAll_cons_mk (Below.trod laidOut (by kernel_rfl) (of_decide_eq_true (by kernel_rfl)) k2 bel lt2) trodAll_mk0))), rfl, bel.frame _, fun h => by cases h⟩

/-- The given statement. -/
theorem proved : Rows.FnExactJoinExpressionsSaid :=
  OpenClaim.holds_of_wide 5 Try.f5 rfl rfl rfl rfl rfl rfl rfl ⟨rfl, rfl, rfl, rfl, rfl⟩ rfl rfl rfl rfl rfl (by as_aux_lemma => kernel_rfl) Try.func5 (by as_aux_lemma => kernel_rfl)
    (of_decide_eq_true (by as_aux_lemma => kernel_rfl)) (by unfold Func.isWrapper; first | (rw [if_pos (by decide +kernel)]; kernel_rfl) | (rw [if_neg (by decide +kernel)]; exact ⟨rfl, rfl⟩))
    (fun os started H enc _ => lifted os started H enc)
#print axioms proved
end Go.Proofs.Yteinbnjkiebfaaa.LFnExactJoinExpressions
