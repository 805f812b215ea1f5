/-
  Lists of nodes that a call laid, between two block numbers: carried on, marked, read.
  Conditions: none beyond the bounds that each states.
-/
import Derived.Test.YtgjghpaenliliaaU5
import Derived.Test.YtgjghpaenliliaaW50
namespace Go.Proofs.Ytgjghpaenliliaa.Wk
open Go.RowKit Go.Proofs.Ytgjghpaenliliaa.M
set_option linter.unusedVariables false

/-! ### marks of nodes -/
def cnt1 (x : Nd) : Nat := 4 + x.wish.list.length + 2 * x.wish.pairs.length
def cntN : List Nd → Nat
  | [] => 0
  | x :: t => cnt1 x + cntN t
def mkNd (k : Int) (x : Nd) : Nd := ⟨k, ⟨k + 1, k + 2, k + 3, allI x.wish.list.length (k + 4), allP x.wish.pairs.length (k + 4 + x.wish.list.length)⟩⟩
def allN : List Nd → Int → List Nd
  | [], _ => []
  | x :: t, k => mkNd k x :: allN t (k + cnt1 x)
theorem allN_len : ∀ (l : List Nd) (k : Int), (allN l k).length = l.length
  | [], _ => rfl
  | x :: t, k => by rw [allN, List.length_cons, allN_len t, List.length_cons]
theorem cntN_app : ∀ (l m : List Nd), cntN (l ++ m) = cntN l + cntN m
  | [], m => by simp [cntN]
  | x :: t, m => by simp only [List.cons_append, cntN, cntN_app t m]; omega
theorem cntN_succ {l : List Nd} {i : Nat} {x : Nd} (h : l[i]? = some x) : cntN (l.take (i + 1)) = cntN (l.take i) + cnt1 x := by
  obtain ⟨hl, e⟩ := List.getElem?_eq_some_iff.1 h
  rw [List.take_succ_eq_append_getElem hl, e, cntN_app]; rfl
theorem cntN_le (l : List Nd) (i : Nat) : cntN (l.take i) ≤ cntN l := by
  have := cntN_app (l.take i) (l.drop i)
  rw [List.take_append_drop] at this; omega
theorem allN_at : ∀ {l : List Nd} {k : Int} {i : Nat} {x : Nd}, l[i]? = some x → (allN l k)[i]? = some (mkNd (k + cntN (l.take i)) x)
  | [], _, _, _, h => by simp at h
  | y :: t, k, 0, x, h => by
    simp at h; subst h
    simp [allN, cntN]
  | y :: t, k, i + 1, x, h => by
    rw [allN, List.getElem?_cons_succ, allN_at (by simpa using h), List.take_succ_cons, cntN]
    have : k + (cnt1 y : Int) + (cntN (List.take i t) : Int) = k + ((cnt1 y + cntN (List.take i t) : Nat) : Int) := by omega
    rw [this]
theorem fit_allN : ∀ {l : List Nd} {k : Int}, 0 ≤ k → k + cntN l ≤ 4611686018427387904 → ∀ x ∈ allN l k, FitN x
  | [], _, _, _, x, hx => by simp [allN] at hx
  | y :: t, k, h0, h1, x, hx => by
    have hc : cntN (y :: t) = cnt1 y + cntN t := rfl
    rw [hc] at h1
    have hcy : cnt1 y = 4 + y.wish.list.length + 2 * y.wish.pairs.length := rfl
    rw [allN] at hx
    rcases List.mem_cons.1 hx with rfl | hx
    · refine ⟨by unfold Fit mkNd; simp only; omega, by unfold Fit mkNd; simp only; omega, by unfold Fit mkNd; simp only; omega, by unfold Fit mkNd; simp only; omega, ?_, ?_⟩
      · exact fit_allI (by omega) (by omega)
      · exact fit_allP (by omega) (by omega)
    · exact fit_allN (by omega) (by omega) x hx
/-- Rows that share no block: what turns one of them leaves the others. -/
theorem far_ne {vs : List Value} (h : vs.Pairwise Far) {i j : Nat} {a b : Value} (hij : i ≠ j) (ha : vs[i]? = some a) (hb : vs[j]? = some b) : ∀ g, b.ownBlock = some g → ¬ (a.ownBlock = some g) := by
  intro g hg hh
  obtain ⟨hi, e1⟩ := List.getElem?_eq_some_iff.1 ha
  obtain ⟨hj, e2⟩ := List.getElem?_eq_some_iff.1 hb
  rw [List.pairwise_iff_getElem] at h
  rcases Nat.lt_or_ge i j with hlt | hge
  · rcases h i j hi hj hlt with h1 | h1
    · rw [e1, hh] at h1; cases h1
    · exact h1 (by rw [e1, e2, hh, hg])
  · rcases h j i hj hi (by omega) with h1 | h1
    · rw [e2, hg] at h1; cases h1
    · exact h1 (by rw [e1, e2, hh, hg])
theorem ndv_at : ∀ {ps : List NdC} {j : Nat} {p : NdC}, ps[j]? = some p → (ndv ps)[2 * j]? = some p.2.1 ∧ (ndv ps)[2 * j + 1]? = some p.2.2
  | [], _, _, h => by simp at h
  | q :: t, 0, p, h => by simp at h; subst h; simp [ndv]
  | q :: t, j + 1, p, h => by
    obtain ⟨h1, h2⟩ := ndv_at (ps := t) (j := j) (p := p) (by simpa using h)
    have e : ndv (q :: t) = q.2.1 :: q.2.2 :: ndv t := rfl
    rw [e, show 2 * (j + 1) = 2 * j + 1 + 1 by omega, List.getElem?_cons_succ, List.getElem?_cons_succ, List.getElem?_cons_succ, List.getElem?_cons_succ]
    exact ⟨h1, h2⟩
theorem ndc_set_app (ps : List NdC) (cs : List Value) {k : Nat} (p : NdC) (h : k < ps.length) (hq : ∀ q, ps[k]? = some q → q.2 = p.2) :
    (((((ndc ps ++ cs).set (k * 6) (.int .i64 p.1.op)).set (k * 6 + 1) (.int .i64 p.1.wish.kind)).set (k * 6 + 2) (.int .i64 p.1.wish.field)).set (k * 6 + 3) (.int .i64 p.1.wish.value)) = ndc (ps.set k p) ++ cs := by
  have hl := ndc_len ps
  have h0 := ndc_set ps k p
  obtain ⟨q, hq1⟩ : ∃ q, ps[k]? = some q := ⟨_, List.getElem?_eq_getElem h⟩
  have h2 := hq q hq1
  obtain ⟨_, _, _, _, a4, a5⟩ := ndc_at ps k q hq1
  rw [set_app (by omega), set_app (by simp only [List.length_set]; omega), set_app (by simp only [List.length_set]; omega), set_app (by simp only [List.length_set]; omega)]
  congr 1
  rw [← h0]
  have s4 : ∀ (L : List Value), L[k * 6 + 4]? = some p.2.1 → L.set (k * 6 + 4) p.2.1 = L := fun L hL => by
    apply List.ext_getElem?
    intro t
    rw [List.getElem?_set]
    by_cases e : k * 6 + 4 = t
    · subst e
      rw [if_pos rfl, if_pos (List.getElem?_eq_some_iff.1 hL).1, hL]
    · rw [if_neg e]
  have s5 : ∀ (L : List Value), L[k * 6 + 5]? = some p.2.2 → L.set (k * 6 + 5) p.2.2 = L := fun L hL => by
    apply List.ext_getElem?
    intro t
    rw [List.getElem?_set]
    by_cases e : k * 6 + 5 = t
    · subst e
      rw [if_pos rfl, if_pos (List.getElem?_eq_some_iff.1 hL).1, hL]
    · rw [if_neg e]
  rw [s4 _ (by
    rw [List.getElem?_set_ne (by omega), List.getElem?_set_ne (by omega), List.getElem?_set_ne (by omega), List.getElem?_set_ne (by omega), a4, h2]), s5 _ (by
    rw [List.getElem?_set_ne (by omega), List.getElem?_set_ne (by omega), List.getElem?_set_ne (by omega), List.getElem?_set_ne (by omega), a5, h2])]
def OwnNd (w : World) (lo hi : Nat) (v : Value) (l : List Nd) : Prop :=
  ∃ ps : List NdC, ps.map (·.1) = l ∧ (∀ p ∈ ps, OwnW w lo 3 92 p.1.wish p.2.1 p.2.2 ∧ Und p.2.1 hi ∧ Und p.2.2 hi) ∧ (ndv ps).Pairwise Far ∧ w.ownsRow lo 55 6 v l.length (ndc ps) ∧ Und v hi ∧ ∀ u ∈ ndv ps, Far u v
def RetNd (w : World) (l : List Nd) (e : Ending) (w' : World) : Prop := ∃ v, e = .returned v ∧ OwnNd w' w.heap.size w'.heap.size v l ∧ Below w.heap.size w w'
section
variable {w w' : World} {lo hi lo' hi' : Nat} {v : Value} {l : List Nd}
theorem OwnNd.of (h : OwnN w lo 55 3 92 v l) : OwnNd w lo w.heap.size v l := by
  obtain ⟨ps, h1, h2, h3, h4⟩ := h
  exact ⟨ps, h1, fun p hp => ⟨h2.each p hp, own_und (h2.each p hp).1, own_und (h2.each p hp).2.1⟩, h2.apart, h3, own_und h3, h4⟩
theorem OwnNd.below (h : OwnNd w lo hi v l) (hb : Below w.heap.size w w') : OwnNd w' lo hi v l := by
  obtain ⟨ps, h1, h2, h3, h4, h5, h6⟩ := h
  exact ⟨ps, h1, fun p hp => ⟨(h2 p hp).1.below hb, (h2 p hp).2⟩, h3, own_below h4 hb, h5, h6⟩
theorem OwnNd.rng (h : OwnNd w lo hi v l) (hc : Chg (Rng lo' hi') w w') (hd : hi' ≤ lo ∨ hi ≤ lo') : OwnNd w' lo hi v l := by
  obtain ⟨ps, h1, h2, h3, h4, h5, h6⟩ := h
  exact ⟨ps, h1, fun p hp => ⟨⟨own_rng (h2 p hp).1.1 (h2 p hp).2.1 hc hd, own_rng (h2 p hp).1.2.1 (h2 p hp).2.2 hc hd, (h2 p hp).1.2.2⟩, (h2 p hp).2⟩, h3, own_rng h4 h5 hc hd, h5, h6⟩
theorem OwnNd.ownN (h : OwnNd w lo hi v l) : OwnN w lo 55 3 92 v l := by
  obtain ⟨ps, h1, h2, h3, h4, h5, h6⟩ := h
  exact ⟨ps, h1, ⟨fun p hp => (h2 p hp).1, h3⟩, h4, h6⟩
theorem OwnNd.read (h : OwnNd w lo hi v l) (hf : ∀ x ∈ l, FitN x) : V RN 6 w w.heap.size v l := h.ownN.read hf
end
theorem fitNsV {w : World} {B : Nat} {v : Value} {l : List Nd} (h : V RN 6 w B v l) : ∀ x ∈ l, FitN x := by
  obtain ⟨A, n, c, rfl, hs⟩ := h
  exact fitNs hs
theorem toO_nodes {v : Value} {l : List Nd} (w : World) (h : V RN 6 w w.heap.size v l) (ht : totN l ≤ 1048576) : Calls Try.prog 9 #[v] w (RetNd w l) := by
  obtain ⟨A, n, c, rfl, hs⟩ := h
  exact (toNodeS w hs ht).mono fun e w' ⟨v, he, ho, hb⟩ => ⟨v, he, OwnNd.of ho, hb⟩
theorem szV_nodes {v : Value} {l : List Nd} {left : Int} (w : World) (h : V RN 6 w w.heap.size v l) (h0 : 0 ≤ left) (h1 : left ≤ 1048576) :
    Calls Try.prog 7 #[v, .int .i64 left] w fun e w' => e = .returned (.int .i64 (less left (totN l))) ∧ Below w.heap.size w w' := by
  obtain ⟨A, n, c, rfl, hs⟩ := h
  exact sz_nodes w hs h0 h1
theorem eqO_nodes {lo hi B : Nat} {v u : Value} {l : List Nd} (w : World) (h : OwnNd w lo hi v l) (hf : ∀ x ∈ l, FitN x) (h' : V RN 6 w B u l) (hB : B ≤ w.heap.size) :
    Calls Try.prog 11 #[v, u] w fun e w' => e = .returned (.bool true) ∧ Below w.heap.size w w' := by
  obtain ⟨A, n, c, rfl, hs⟩ := h.read hf
  obtain ⟨A', n', c', rfl, hs'⟩ := h'
  exact eq_nodes w hs (hs'.more RN.keeps hB)
set_option maxHeartbeats 1600000 in
set_option maxRecDepth 100000 in
theorem heldNodeS {B : Nat} {A : Option Addr} {n c : Nat} {l : List Nd} {k : Int} (w : World) (h : Sl RN 6 w B A n c (allN l k)) (h0 : 0 ≤ k) (h1 : k + cntN l ≤ 4611686018427387904) :
    Calls Try.prog 20 #[.slice A n c, .int .i64 k] w fun e w' => e = .returned (.int .i64 (k + cntN l)) ∧ w = w' := by
  have mx := Nat.le_trans h.le h.max
  unfold maxLen at mx
  have HLN : Hid (l.length = n) := by have := h.len; rw [allN_len] at this; exact this
  have HC := Lib.hid (cntN_le l)
  go_enter Try.func20, Try.ntmps20
  go_wp2
  go_loop [1, 5] (fun vk vi => ∃ i : Nat, i ≤ n ∧ vi = .int .i64 i ∧ vk = .int .i64 (k + cntN (l.take i))) (fun _ vi => n - (intOf vi).toNat)
  case atStart => exact ⟨0, Nat.zero_le _, rfl, vint (by simp [cntN])⟩
  case round =>
    obtain ⟨i, hi, rfl, rfl⟩ := hrel
    by_cases hlt : i < n
    · obtain ⟨y, hy⟩ : ∃ y, l[i]? = some y := ⟨_, List.getElem?_eq_getElem (by have := HLN.out; omega)⟩
      have HS := Lib.hid (cntN_succ hy)
      have hle := HC.out (i + 1)
      have hcy : cnt1 y = 4 + y.wish.list.length + 2 * y.wish.pairs.length := rfl
      obtain ⟨b, o, x, A1, n1, c1, E1, m1, d1, rfl, hb, hx, hf, hs, ht1, g0, g1, g2, g3, g4, g5⟩ := nodeAt h hlt
      rw [allN_at hy] at hx
      injection hx with hx
      subst hx
      obtain ⟨kk, hkk⟩ : ∃ kk : Int, k + (cntN (l.take i) : Int) = kk := ⟨_, rfl⟩
      rw [hkk] at g0 g1 g2 g3 hs ht1
      simp only [mkNd] at g0 g1 g2 g3 hs ht1
      have n1e : y.wish.list.length = n1 := by have := hs.len; rwa [allI_len] at this
      have m1e : y.wish.pairs.length = m1 := by have := ht1.len; rwa [allP_len] at this
      rw [n1e] at hs ht1 hcy
      rw [m1e] at ht1 hcy
      have hk0 : 0 ≤ kk := by omega
      have hsc := HS.out
      have hk1 : kk + 4 + n1 + 2 * m1 ≤ 4611686018427387904 := by omega
      have p0 : (kk != kk) = false := by simp
      have p1 : (kk + 1 != kk + 1) = false := by simp
      have p2 : (kk + 2 != kk + 2) = false := by simp
      have p3 : (kk + 3 != kk + 3) = false := by simp
      have a1 : kk + 1 + 1 = kk + 2 := by omega
      have a2 : kk + 2 + 1 = kk + 3 := by omega
      have a3 : kk + 3 + 1 = kk + 4 := by omega
      have g2' : w.cell? ⟨b, o + i * 6 + 1 + 1, none⟩ = some (.int .i64 (kk + 2)) := g2
      have g3' : w.cell? ⟨b, o + i * 6 + 1 + 2, none⟩ = some (.int .i64 (kk + 3)) := g3
      have g4' : w.cell? ⟨b, o + i * 6 + 1 + 3, none⟩ = some (.slice A1 n1 c1) := g4
      have g5' : w.cell? ⟨b, o + i * 6 + 1 + 4, none⟩ = some (.slice E1 m1 d1) := g5
      have HI := Lib.hid hs
      have HP := Lib.hid ht1
      have r1 : ¬ (kk + 4 + (n1 : Int) < 0) := by omega
      have r2 : ¬ (kk + 4 + (n1 : Int) + 2 * (m1 : Int) < 0) := by omega
      have r3 : kk + 4 + (n1 : Int) + 2 * (m1 : Int) = k + (cntN (l.take (i + 1)) : Int) := by omega
      have R3 := Lib.hid r3
      clear h hf hs ht1 hy r3 hsc
      try rw [hkk]
      try simp only [hkk]
      go_wp2_with (first | (go_at_call 48; refine (heldIntS _ HI.out (by omega) (by omega)).mono ?_; rintro e w' ⟨rfl, rfl⟩) | (go_at_call 49; refine (heldPairS _ HP.out (by omega) (by omega)).mono ?_; rintro e w' ⟨rfl, rfl⟩))
      go_round
      case rel => exact ⟨i + 1, by omega, by go_num, vint R3.out⟩
      case measure => simp [intOf]; omega
    · have HE : Hid (k + (cntN (l.take i) : Int) = k + cntN l) := by
        show _ = _
        rw [List.take_of_length_le (by have := HLN.out; omega)]
      have hcn := HC.out i
      clear h
      go_wp2
      go_ret
      exact ⟨ret_int HE.out, rfl⟩
theorem held_nodes {lo hi : Nat} {v : Value} {l : List Nd} {k : Int} (w : World) (h : OwnNd w lo hi v (allN l k)) (h0 : 0 ≤ k) (h1 : k + cntN l ≤ 4611686018427387904) :
    Calls Try.prog 20 #[v, .int .i64 k] w fun e w' => e = .returned (.int .i64 (k + cntN l)) ∧ w = w' := by
  obtain ⟨A, n, c, rfl, hs⟩ := h.read (fit_allN h0 h1)
  exact heldNodeS w hs h0 h1
/-- Node j, where the first i are marked. -/
def stN (k : Int) (l : List Nd) (i j : Nat) (p : NdC) : NdC := if j < i then (mkNd (k + cntN (l.take j)) p.1, p.2) else p
theorem far_sym {u v : Value} (h : Far u v) : ∀ g, v.ownBlock = some g → ¬ (u.ownBlock = some g) := by
  intro g hg hh
  rcases h with h | h
  · rw [hh] at h; cases h
  · exact h (hh.trans hg.symm)
set_option maxHeartbeats 3200000 in
set_option maxRecDepth 100000 in
theorem mark_nodes {lo hi : Nat} {v : Value} {l : List Nd} {k : Int} (w : World) (h : OwnNd w lo hi v l) (h0 : 0 ≤ k) (h1 : k + cntN l ≤ 4611686018427387904) :
    Calls Try.prog 19 #[v, .int .i64 k] w fun e w' => e = .returned (.int .i64 (k + cntN l)) ∧ OwnNd w' lo hi v (allN l k) ∧ Chg (Rng lo hi) w w' := by
  obtain ⟨ps, rfl, hin, hap, hout, huv, hfar⟩ := h
  have HC := Lib.hid (cntN_le (ps.map (·.1)))
  obtain ⟨n, hn⟩ : ∃ n, (ps.map (·.1)).length = n := ⟨_, rfl⟩
  have HN := Lib.hid hn
  have HPL : Hid (ps.length = n) := by rw [← hn, List.length_map]; exact rfl
  rw [hn] at hout
  obtain ⟨A, c, rfl, hle, hmx⟩ := own_form hout
  obtain ⟨l, hl⟩ : ∃ l, ps.map (·.1) = l := ⟨_, rfl⟩
  have HLM := Lib.hid hl
  rw [hl] at HC HN h1 ⊢
  have HQ : Hid (∀ (j : Nat) (p : NdC), ps[j]? = some p → ps[j]? = some (stN k l 0 j p) ∧ OwnW w lo 3 92 (stN k l 0 j p).1.wish p.2.1 p.2.2) := by
    intro j p hp
    rw [show stN k l 0 j p = p from if_neg (by omega)]
    exact ⟨hp, (hin p (List.mem_of_getElem? hp)).1⟩
  have HUN : Hid (∀ (j : Nat) (p : NdC), ps[j]? = some p → Und p.2.1 hi ∧ Und p.2.2 hi) := fun j p hp => (hin p (List.mem_of_getElem? hp)).2
  have HAP := Lib.hid hap
  have HFAR := Lib.hid hfar
  clear hin hap hfar hn hl
  go_enter Try.func19, Try.ntmps19
  go_wp2
  go_loopw [1, 5] (fun vk vi wr => ∃ (i : Nat) (qs : List NdC), i ≤ n ∧ vi = .int .i64 i ∧ vk = .int .i64 (k + cntN (l.take i)) ∧ Hid (qs.length = n) ∧ wr.ownsRow lo 55 6 (.slice A n c) n (ndc qs) ∧
    Hid (∀ (j : Nat) (p : NdC), ps[j]? = some p → qs[j]? = some (stN k l i j p) ∧ OwnW wr lo 3 92 (stN k l i j p).1.wish p.2.1 p.2.2) ∧ Chg (Rng lo hi) w wr) (fun _ vi _ => n - (intOf vi).toNat)
  case atStart => exact ⟨0, ps, Nat.zero_le _, rfl, vint (by simp [cntN]), HPL, hout, HQ, Chg.refl _ _⟩
  case round =>
    clear hout HQ
    obtain ⟨i, qs, hi', rfl, rfl, HQL, hown, HQ, hch⟩ := hrel
    by_cases hlt : i < n
    · obtain ⟨g, c', cs, e, hb, hn1, hn2, hR, hL⟩ := own_row hown (by omega)
      injection e with e1 e2 e3
      subst e1 e3
      obtain ⟨⟨x, u, v⟩, hp⟩ : ∃ p, ps[i]? = some p := ⟨_, List.getElem?_eq_getElem (by have := HPL.out; omega)⟩
      obtain ⟨hqi, hwi⟩ := HQ.out i _ hp
      rw [show stN k l i i (x, u, v) = (x, u, v) from if_neg (by omega)] at hqi hwi
      obtain ⟨hui, hvi⟩ := HUN.out i _ hp
      simp only at hwi hui hvi
      have hx : l[i]? = some x := by rw [← HLM.out, List.getElem?_map, hp]; rfl
      have HS := Lib.hid (cntN_succ hx)
      have hle2 := HC.out (i + 1)
      have hcy : cnt1 x = 4 + x.wish.list.length + 2 * x.wish.pairs.length := rfl
      obtain ⟨kk, hkk⟩ : ∃ kk : Int, k + (cntN (l.take i) : Int) = kk := ⟨_, rfl⟩
      have hsc := HS.out
      have hk0 : 0 ≤ kk := by omega
      have hk1 : kk + 4 + x.wish.list.length + 2 * x.wish.pairs.length ≤ 4611686018427387904 := by omega
      obtain ⟨un, vn⟩ := ndv_at hp
      simp only at un vn
      have hug := far_sym (v := .slice (some ⟨g, 0, none⟩) n c) (HFAR.out u (List.mem_of_getElem? un)) g rfl
      have hvg := far_sym (v := .slice (some ⟨g, 0, none⟩) n c) (HFAR.out v (List.mem_of_getElem? vn)) g rfl
      have hgh : g < hi := huv g rfl
      obtain ⟨ho1, ho2, huv12⟩ := hwi
      obtain ⟨A1, c1, rfl, _, _⟩ := own_form ho1
      obtain ⟨E1, d1, rfl, _, _⟩ := own_form ho2
      have hql := ndc_len qs
      have hqn := HQL.out
      obtain ⟨a0, a1, a2, a3, a4, a5⟩ := ndc_at qs i _ hqi
      have hc0 : wr.cell? ⟨g, i * 6, none⟩ = some (.int .i64 x.op) := by rw [hR.cell, List.getElem?_append_left (by omega)]; exact a0
      have hc1 : wr.cell? ⟨g, i * 6 + 1, none⟩ = some (.int .i64 x.wish.kind) := by rw [hR.cell, List.getElem?_append_left (by omega)]; exact a1
      have hc2 : wr.cell? ⟨g, i * 6 + 2, none⟩ = some (.int .i64 x.wish.field) := by rw [hR.cell, List.getElem?_append_left (by omega)]; exact a2
      have hc3 : wr.cell? ⟨g, i * 6 + 3, none⟩ = some (.int .i64 x.wish.value) := by rw [hR.cell, List.getElem?_append_left (by omega)]; exact a3
      have hc4 : wr.cell? ⟨g, i * 6 + 4, none⟩ = some (.slice A1 x.wish.list.length c1) := by rw [hR.cell, List.getElem?_append_left (by omega)]; exact a4
      have hc5 : wr.cell? ⟨g, i * 6 + 5, none⟩ = some (.slice E1 x.wish.pairs.length d1) := by rw [hR.cell, List.getElem?_append_left (by omega)]; exact a5
      have hc2' : wr.cell? ⟨g, i * 6 + 1 + 1, none⟩ = some (.int .i64 x.wish.field) := hc2
      have hc3' : wr.cell? ⟨g, i * 6 + 1 + 2, none⟩ = some (.int .i64 x.wish.value) := hc3
      have hc4' : wr.cell? ⟨g, i * 6 + 1 + 3, none⟩ = some (.slice A1 x.wish.list.length c1) := hc4
      have hf0 := hR.free (i * 6)
      have hf1 := hR.free (i * 6 + 1)
      have hf2 := hR.free (i * 6 + 2)
      have hf3 := hR.free (i * 6 + 3)
      have hf2' := hR.free (i * 6 + 1 + 1)
      have hf3' := hR.free (i * 6 + 1 + 2)
      have hlw := hR.lt
      obtain ⟨p4, hp4⟩ : ∃ p4 : NdC, (mkNd kk x, Value.slice A1 x.wish.list.length c1, Value.slice E1 x.wish.pairs.length d1) = p4 := ⟨_, rfl⟩
      obtain ⟨w4, hw4⟩ : ∃ w4, (((wr.setCell ⟨g, i * 6, none⟩ (.int .i64 kk)).setCell ⟨g, i * 6 + 1, none⟩ (.int .i64 (kk + 1))).setCell ⟨g, i * 6 + 2, none⟩ (.int .i64 (kk + 2))).setCell ⟨g, i * 6 + 3, none⟩ (.int .i64 (kk + 3)) = w4 := ⟨_, rfl⟩
      have R4 : Hid (Row w4 g 55 (ndc (qs.set i p4) ++ cs)) := by
        have := (((hR.set (i * 6) (.int .i64 kk)).set (i * 6 + 1) (.int .i64 (kk + 1))).set (i * 6 + 2) (.int .i64 (kk + 2))).set (i * 6 + 3) (.int .i64 (kk + 3))
        rw [hw4] at this
        have h5 : (((((ndc qs ++ cs).set (i * 6) (.int .i64 kk)).set (i * 6 + 1) (.int .i64 (kk + 1))).set (i * 6 + 2) (.int .i64 (kk + 2))).set (i * 6 + 3) (.int .i64 (kk + 3))) = ndc (qs.set i p4) ++ cs := by
          rw [← hp4]
          exact ndc_set_app qs cs (mkNd kk x, Value.slice A1 x.wish.list.length c1, Value.slice E1 x.wish.pairs.length d1) (by omega) (fun q hq => by rw [hqi] at hq; injection hq with hq; rw [← hq])
        rw [h5] at this
        exact this
      obtain ⟨_, _, _, _, t4, t5⟩ := ndc_at (qs.set i p4) i p4 (by rw [List.getElem?_set, if_pos rfl, if_pos (by omega)])
      have hql4 := ndc_len (qs.set i p4)
      rw [List.length_set] at hql4
      have hd4 : w4.cell? ⟨g, i * 6 + 1 + 3, none⟩ = some (.slice A1 x.wish.list.length c1) := by
        rw [R4.out.cell, List.getElem?_append_left (by omega)]
        rw [← hp4] at t4 ⊢
        exact t4
      have hd5 : ∀ w5 : World, Row w5 g 55 (ndc (qs.set i p4) ++ cs) → w5.cell? ⟨g, i * 6 + 1 + 4, none⟩ = some (.slice E1 x.wish.pairs.length d1) := fun w5 hr => by
        rw [hr.cell, List.getElem?_append_left (by omega)]
        rw [← hp4] at t5 ⊢
        exact t5
      have HD5 := Lib.hid hd5
      have CH1 : Hid (Chg (fun b => b = g) wr w4) := by
        rw [← hw4]
        exact ((((Chg.refl (fun b => b = g) wr).setCell (p := ⟨g, i * 6, none⟩) rfl _).setCell (p := ⟨g, i * 6 + 1, none⟩) rfl _).setCell (p := ⟨g, i * 6 + 2, none⟩) rfl _).setCell (p := ⟨g, i * 6 + 3, none⟩) rfl _
      have o1 := Lib.hid (own_chg ho1 CH1.out (fun b hb2 hh => by subst hh; exact hug hb2))
      have o2 := Lib.hid (own_chg ho2 CH1.out (fun b hb2 hh => by subst hh; exact hvg hb2))
      have CHW := Lib.hid (hch.trans (CH1.out.mono (fun b hb2 => by subst hb2; exact ⟨hb, hgh⟩)))
      have HX := Lib.hid hx
      have HP := Lib.hid hp
      have HL := Lib.hid hL
      have b1 : kk + 1 + 1 = kk + 2 := by omega
      have b2 : kk + 2 + 1 = kk + 3 := by omega
      have b3 : kk + 3 + 1 = kk + 4 := by omega
      have HKK := Lib.hid hkk
      have hn2' := hn2
      unfold maxLen at hn2'
      clear hR hown hqi hx hp hL a0 a1 a2 a3 a4 a5 hsc hle2
      try rw [hkk]
      clear hd5 t4 t5 hql4 hc4 hc5 hc4'
      go_wp2_with fail
      refine (markIntS (xs := x.wish.list) _ o1.out (by omega) (by omega)).mono ?_
      rintro e w5 ⟨rfl, ou, c5⟩
      have R5 := Lib.hid (R4.out.chg c5 hug)
      have o2b := own_chg o2.out c5 (far_sym huv12)
      have d5 := HD5.out w5 R5.out
      have hlw5 := R5.out.lt
      have CH5 := Lib.hid (CHW.out.trans (blk_rng (lo := lo) o1.out hui c5))
      clear hc0 hc1 hc2 hc3 hc2' hc3' hf0 hf1 hf2 hf3 hf2' hf3' hd4
      go_wp2_with fail
      refine (markPairS (xs := x.wish.pairs) _ o2b (by omega) (by omega)).mono ?_
      rintro e w6 ⟨rfl, ov, c6⟩
      have R6 := R5.out.chg c6 hvg
      have CH6 := Lib.hid (CH5.out.trans (blk_rng (lo := lo) o2b hvi c6))
      have hvu : ∀ q, (Value.slice A1 x.wish.list.length c1).ownBlock = some q → ¬ ((Value.slice E1 x.wish.pairs.length d1).ownBlock = some q) := fun q h2 h3 => far_sym huv12 q h3 h2
      have ou6 := own_chg ou c6 hvu
      have O6 := Lib.hid (row_own (base := lo) (n := n) (sz := 6) R6 (by rw [ndc_len, List.length_set]; have := HQL.out; omega) hb hn1 hn2 (by have := HL.out; rw [List.length_append, ndc_len] at this ⊢; rw [List.length_set]; exact this))
      have HQL6 : Hid ((qs.set i p4).length = n) := by show _ = _; rw [List.length_set]; exact HQL.out
      have HQ6 : Hid (∀ (j : Nat) (p : NdC), ps[j]? = some p → (qs.set i p4)[j]? = some (stN k l (i + 1) j p) ∧ OwnW w6 lo 3 92 (stN k l (i + 1) j p).1.wish p.2.1 p.2.2) := by
        intro j p hp
        by_cases hij : j = i
        · subst hij
          rw [HP.out] at hp
          injection hp with hp
          subst hp
          rw [show stN k l (j + 1) j (x, Value.slice A1 x.wish.list.length c1, Value.slice E1 x.wish.pairs.length d1) = (mkNd kk x, Value.slice A1 x.wish.list.length c1, Value.slice E1 x.wish.pairs.length d1) from by unfold stN; rw [if_pos (by omega), HKK.out]]
          refine ⟨by rw [List.getElem?_set, if_pos rfl, if_pos (by have := HQL.out; omega), hp4], ?_, ?_, huv12⟩
          · show World.ownsRow _ _ _ _ _ (allI x.wish.list.length (kk + 4)).length _
            rw [allI_len]; exact ou6
          · show World.ownsRow _ _ _ _ _ (allP x.wish.pairs.length (kk + 4 + x.wish.list.length)).length _
            rw [allP_len]; exact ov
        · obtain ⟨h3, h4, h5, h6⟩ := HQ.out j p hp
          have hst : stN k l (i + 1) j p = stN k l i j p := by
            unfold stN
            by_cases hji : j < i
            · rw [if_pos hji, if_pos (by omega)]
            · rw [if_neg hji, if_neg (by omega)]
          obtain ⟨un2, vn2⟩ := ndv_at hp
          have hg1 := far_sym (v := .slice (some ⟨g, 0, none⟩) n c) (HFAR.out _ (List.mem_of_getElem? un2)) g rfl
          have hg2 := far_sym (v := .slice (some ⟨g, 0, none⟩) n c) (HFAR.out _ (List.mem_of_getElem? vn2)) g rfl
          rw [hst]
          refine ⟨by rw [List.getElem?_set, if_neg (fun e => hij e.symm)]; exact h3, ?_, ?_, h6⟩
          · exact own_chg (own_chg (own_chg h4 CH1.out (fun b hb2 hh => by subst hh; exact hg1 hb2)) c5 (far_ne HAP.out (by omega) un un2)) c6 (far_ne HAP.out (by omega) vn un2)
          · exact own_chg (own_chg (own_chg h5 CH1.out (fun b hb2 hh => by subst hh; exact hg2 hb2)) c5 (far_ne HAP.out (by omega) un vn2)) c6 (far_ne HAP.out (by omega) vn vn2)
      have HV : Hid (kk + 4 + (x.wish.list.length : Int) + 2 * (x.wish.pairs.length : Int) = k + (cntN (l.take (i + 1)) : Int)) := by
        show _ = _
        have h3 := HS.out; have h4 := HKK.out; omega
      clear R6 c5 c6 ou ov ou6 o2b hvu d5 hlw5
      go_wp2
      go_roundw
      case rel => exact ⟨i + 1, _, by omega, by go_num, vint HV.out, HQL6, O6.out, HQ6, CH6.out⟩
      case measure => simp [intOf]; omega
    · have hin : i = n := by omega
      have HE : Hid (k + (cntN (l.take i) : Int) = k + cntN l) := by
        show _ = _
        rw [List.take_of_length_le (by have := HN.out; omega)]
      have hcn := HC.out i
      have hqs : qs.map (·.1) = allN l k := by
        apply List.ext_getElem?
        intro j
        rw [List.getElem?_map]
        rcases Nat.lt_or_ge j n with hj | hj
        · obtain ⟨p, hp⟩ : ∃ p, ps[j]? = some p := ⟨_, List.getElem?_eq_getElem (by have := HPL.out; omega)⟩
          have hx : l[j]? = some p.1 := by rw [← HLM.out, List.getElem?_map, hp]; rfl
          rw [(HQ.out j p hp).1, allN_at hx, show stN k l i j p = (mkNd (k + cntN (l.take j)) p.1, p.2) from if_pos (by omega)]
          rfl
        · rw [List.getElem?_eq_none (by have := HQL.out; omega), List.getElem?_eq_none (by rw [allN_len]; have := HN.out; omega)]
          rfl
      have hnd : ndv qs = ndv ps := by
        have : qs.map (·.2) = ps.map (·.2) := by
          apply List.ext_getElem?
          intro j
          rw [List.getElem?_map, List.getElem?_map]
          rcases Nat.lt_or_ge j n with hj | hj
          · obtain ⟨p, hp⟩ : ∃ p, ps[j]? = some p := ⟨_, List.getElem?_eq_getElem (by have := HPL.out; omega)⟩
            rw [(HQ.out j p hp).1, hp]
            unfold stN
            split <;> rfl
          · rw [List.getElem?_eq_none (by have := HQL.out; omega), List.getElem?_eq_none (by have := HPL.out; omega)]
        have e : ∀ rs : List NdC, ndv rs = (rs.map (·.2)).flatMap fun p => [p.1, p.2] := fun rs => by
          unfold ndv; rw [List.flatMap_map]
        rw [e, e, this]
      have HO : Hid (OwnNd wr lo hi (.slice A n c) (allN l k)) := by
        refine ⟨qs, hqs, fun q hq => ?_, by rw [hnd]; exact HAP.out, by rw [allN_len, HN.out]; exact hown, huv, by rw [hnd]; exact HFAR.out⟩
        obtain ⟨j, hj⟩ := List.getElem?_of_mem hq
        obtain ⟨p, hp⟩ : ∃ p, ps[j]? = some p := ⟨_, List.getElem?_eq_getElem (by have := HPL.out; have := HQL.out; have := (List.getElem?_eq_some_iff.1 hj).1; omega)⟩
        obtain ⟨h3, h4⟩ := HQ.out j p hp
        rw [hj] at h3
        injection h3 with h3
        have h6 : q.2 = p.2 := by rw [h3]; unfold stN; split <;> rfl
        obtain ⟨h7, h8⟩ := HUN.out j p hp
        rw [h6]
        rw [h3]
        exact ⟨h4, h7, h8⟩
      unfold maxLen at hmx
      clear hown
      go_wp2
      go_ret
      exact ⟨ret_int HE.out, HO.out, hch⟩
end Go.Proofs.Ytgjghpaenliliaa.Wk
