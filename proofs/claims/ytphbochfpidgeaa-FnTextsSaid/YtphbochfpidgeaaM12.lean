/-
  Lists of nodes in memory: six cells each; such a list as the call lays it. No program stands here.
  Conditions: none.
-/
import Derived.Test.YtphbochfpidgeaaM9
namespace Go.Proofs.Ytphbochfpidgeaa.M
open Go Go.RowKit

/-- Node k of a list in memory. -/
theorem nodeAt {w : World} {B n c k : Nat} {A : Option Addr} {l : List Nd} (h : Sl RN 6 w B A n c l) (hk : k < n) :
    ∃ b o x A1 n1 c1 E1 m1 d1, A = some ⟨b, o, none⟩ ∧ b < B ∧ l[k]? = some x ∧ (Fit x.op ∧ Fit x.wish.kind ∧ Fit x.wish.field ∧ Fit x.wish.value) ∧ Sl RI 1 w B A1 n1 c1 x.wish.list ∧ Sl RP 2 w B E1 m1 d1 x.wish.pairs ∧
      w.cell? ⟨b, o + k * 6, none⟩ = some (.int .i64 x.op) ∧ w.cell? ⟨b, o + k * 6 + 1, none⟩ = some (.int .i64 x.wish.kind) ∧ w.cell? ⟨b, o + k * 6 + 2, none⟩ = some (.int .i64 x.wish.field) ∧ w.cell? ⟨b, o + k * 6 + 3, none⟩ = some (.int .i64 x.wish.value) ∧
      w.cell? ⟨b, o + k * 6 + 4, none⟩ = some (.slice A1 n1 c1) ∧ w.cell? ⟨b, o + k * 6 + 5, none⟩ = some (.slice E1 m1 d1) := by
  obtain ⟨b, o, x, cs, e, hlt, hx, _, ⟨cw, rfl, f0, v, u, rfl, f1, f2, f3, ⟨A1, n1, c1, rfl, hs⟩, ⟨E1, m1, d1, rfl, ht⟩⟩, hc⟩ := h.get hk
  refine ⟨b, o, x, A1, n1, c1, E1, m1, d1, e, hlt, hx, ⟨f0, f1, f2, f3⟩, hs, ht, ?_, ?_, ?_, ?_, ?_, ?_⟩
  · simpa using hc 0 _ rfl
  · have := hc 1 _ rfl; rwa [← Nat.add_assoc] at this
  · have := hc 2 _ rfl; rwa [← Nat.add_assoc] at this
  · have := hc 3 _ rfl; rwa [← Nat.add_assoc] at this
  · have := hc 4 _ rfl; rwa [← Nat.add_assoc] at this
  · have := hc 5 _ rfl; rwa [← Nat.add_assoc] at this
/-! ### cells in sixes -/
/-- A node, and the slice values that its wish holds. -/
abbrev NdC := Nd × Value × Value
def nd6 (p : NdC) : List Value := [.int .i64 p.1.op, .int .i64 p.1.wish.kind, .int .i64 p.1.wish.field, .int .i64 p.1.wish.value, p.2.1, p.2.2]
def ndc (ps : List NdC) : List Value := ps.flatMap nd6
theorem ndc_len (ps : List NdC) : (ndc ps).length = ps.length * 6 := by
  induction ps with
  | nil => rfl
  | cons a t ih => simp only [ndc, nd6, List.flatMap_cons, List.length_append, List.length_cons, List.length_nil] at ih ⊢; omega
theorem ndc_set (ps : List NdC) : ∀ (k : Nat) (p : NdC), ((((((ndc ps).set (k * 6) (.int .i64 p.1.op)).set (k * 6 + 1) (.int .i64 p.1.wish.kind)).set (k * 6 + 2) (.int .i64 p.1.wish.field)).set (k * 6 + 3) (.int .i64 p.1.wish.value)).set (k * 6 + 4) p.2.1).set (k * 6 + 5) p.2.2 = ndc (ps.set k p) := by
  induction ps with
  | nil => intro k p; simp [ndc]
  | cons a t ih =>
    intro k p
    cases k with
    | zero => simp [ndc, nd6]
    | succ k =>
      have := ih k p
      simp only [ndc, nd6, List.flatMap_cons, List.set_cons_succ] at this ⊢
      rw [show (k + 1) * 6 = k * 6 + 1 + 1 + 1 + 1 + 1 + 1 by omega, List.cons_append, List.cons_append, List.cons_append, List.cons_append, List.cons_append, List.cons_append, List.nil_append]
      rw [show k * 6 + 1 + 1 + 1 + 1 + 1 + 1 + 1 = (k * 6 + 1) + 1 + 1 + 1 + 1 + 1 + 1 by omega, show k * 6 + 1 + 1 + 1 + 1 + 1 + 1 + 2 = (k * 6 + 2) + 1 + 1 + 1 + 1 + 1 + 1 by omega, show k * 6 + 1 + 1 + 1 + 1 + 1 + 1 + 3 = (k * 6 + 3) + 1 + 1 + 1 + 1 + 1 + 1 by omega, show k * 6 + 1 + 1 + 1 + 1 + 1 + 1 + 4 = (k * 6 + 4) + 1 + 1 + 1 + 1 + 1 + 1 by omega, show k * 6 + 1 + 1 + 1 + 1 + 1 + 1 + 5 = (k * 6 + 5) + 1 + 1 + 1 + 1 + 1 + 1 by omega]
      simp only [List.set_cons_succ]
      rw [this]
      rfl
theorem ndc_at (ps : List NdC) : ∀ (k : Nat) (p : NdC), ps[k]? = some p → (ndc ps)[k * 6]? = some (.int .i64 p.1.op) ∧ (ndc ps)[k * 6 + 1]? = some (.int .i64 p.1.wish.kind) ∧ (ndc ps)[k * 6 + 2]? = some (.int .i64 p.1.wish.field) ∧ (ndc ps)[k * 6 + 3]? = some (.int .i64 p.1.wish.value) ∧ (ndc ps)[k * 6 + 4]? = some p.2.1 ∧ (ndc ps)[k * 6 + 5]? = some p.2.2 := by
  induction ps with
  | nil => intro k p h; simp at h
  | cons a t ih =>
    intro k p h
    cases k with
    | zero => simp at h; subst h; simp [ndc, nd6]
    | succ k =>
      have := ih k p (by simpa using h)
      simp only [ndc, nd6, List.flatMap_cons] at this ⊢
      rw [show (k + 1) * 6 = k * 6 + 1 + 1 + 1 + 1 + 1 + 1 by omega, List.cons_append, List.cons_append, List.cons_append, List.cons_append, List.cons_append, List.cons_append, List.nil_append]
      rw [show k * 6 + 1 + 1 + 1 + 1 + 1 + 1 + 1 = (k * 6 + 1) + 1 + 1 + 1 + 1 + 1 + 1 by omega, show k * 6 + 1 + 1 + 1 + 1 + 1 + 1 + 2 = (k * 6 + 2) + 1 + 1 + 1 + 1 + 1 + 1 by omega, show k * 6 + 1 + 1 + 1 + 1 + 1 + 1 + 3 = (k * 6 + 3) + 1 + 1 + 1 + 1 + 1 + 1 by omega, show k * 6 + 1 + 1 + 1 + 1 + 1 + 1 + 4 = (k * 6 + 4) + 1 + 1 + 1 + 1 + 1 + 1 by omega, show k * 6 + 1 + 1 + 1 + 1 + 1 + 1 + 5 = (k * 6 + 5) + 1 + 1 + 1 + 1 + 1 + 1 by omega]
      simp only [List.getElem?_cons_succ]
      exact this
theorem ndc_flat (ps : List NdC) : (ps.map nd6).flatten = ndc ps := by unfold ndc; rw [List.flatMap_def]
theorem ndc_snoc (ps : List NdC) (p : NdC) : ndc (ps ++ [p]) = ndc ps ++ nd6 p := by unfold ndc; rw [List.flatMap_append]; simp
/-- The slice values of the nodes. -/
def ndv (ps : List NdC) : List Value := ps.flatMap fun p => [p.2.1, p.2.2]
theorem ndv_snoc (ps : List NdC) (p : NdC) : ndv (ps ++ [p]) = ndv ps ++ [p.2.1, p.2.2] := by unfold ndv; rw [List.flatMap_append]; simp
/-- Two values that share no block. -/
def Far (u v : Value) : Prop := u.ownBlock = none ∨ u.ownBlock ≠ v.ownBlock
/-- The rows of a wish, each in a block of the call's own, from lo on. -/
def OwnW (w : World) (lo E EP : Nat) (x : Wi) (u v : Value) : Prop :=
  w.ownsRow lo E 1 u x.list.length (x.list.map (Value.int .i64)) ∧ w.ownsRow lo EP 2 v x.pairs.length (prc x.pairs) ∧ Far u v
/-- The wishes' rows of nodes, all apart. -/
structure OwnNs (w : World) (lo E EP : Nat) (ps : List NdC) : Prop where
  each : ∀ p ∈ ps, OwnW w lo E EP p.1.wish p.2.1 p.2.2
  apart : (ndv ps).Pairwise Far
section
variable {w w' : World} {lo lo' E EP : Nat} {x : Wi} {u v : Value} {ps : List NdC}
theorem OwnW.below (h : OwnW w lo E EP x u v) (hb : Below w.heap.size w w') : OwnW w' lo E EP x u v := ⟨own_below h.1 hb, own_below h.2.1 hb, h.2.2⟩
theorem OwnW.mono (h : OwnW w lo E EP x u v) (hl : lo' ≤ lo) : OwnW w lo' E EP x u v := ⟨own_mono h.1 hl, own_mono h.2.1 hl, h.2.2⟩
theorem OwnW.far (h : OwnW w lo E EP x u v) {a : Addr} (ha : a.block < lo) (z : Value) : OwnW (w.setCell a z) lo E EP x u v := ⟨ownsRow_setCell_below h.1 ha z, ownsRow_setCell_below h.2.1 ha z, h.2.2⟩
theorem OwnNs.below (h : OwnNs w lo E EP ps) (hb : Below w.heap.size w w') : OwnNs w' lo E EP ps := ⟨fun p hp => (h.each p hp).below hb, h.apart⟩
theorem OwnNs.mono (h : OwnNs w lo E EP ps) (hl : lo' ≤ lo) : OwnNs w lo' E EP ps := ⟨fun p hp => (h.each p hp).mono hl, h.apart⟩
theorem OwnNs.far (h : OwnNs w lo E EP ps) {a : Addr} (ha : a.block < lo) (z : Value) : OwnNs (w.setCell a z) lo E EP ps := ⟨fun p hp => (h.each p hp).far ha z, h.apart⟩
theorem OwnNs.nil (w : World) (lo E EP : Nat) : OwnNs w lo E EP [] := ⟨fun p hp => absurd hp (by simp), by simp [ndv]⟩
theorem OwnNs.lt (h : OwnNs w lo E EP ps) {u : Value} (hu : u ∈ ndv ps) {g : Nat} (hg : u.ownBlock = some g) : lo ≤ g ∧ g < w.heap.size := by
  unfold ndv at hu
  obtain ⟨p, hp, hup⟩ := List.mem_flatMap.1 hu
  obtain ⟨h1, h2, _⟩ := h.each p hp
  simp at hup
  rcases hup with rfl | rfl
  · exact h1.lt g hg
  · exact h2.lt g hg
theorem OwnNs.snoc {p : NdC} {lo2 : Nat} (h : OwnNs w lo E EP ps) (hb : Below w.heap.size w w') (hn : OwnW w' lo2 E EP p.1.wish p.2.1 p.2.2) (hlo : w.heap.size ≤ lo2) (hl : lo ≤ lo2) : OwnNs w' lo E EP (ps ++ [p]) := by
  refine ⟨fun q hq => ?_, ?_⟩
  · rcases List.mem_append.1 hq with hq | hq
    · exact (h.each q hq).below hb
    · simp at hq; subst hq; exact hn.mono hl
  · rw [ndv_snoc, List.pairwise_append]
    refine ⟨h.apart, by simp; exact hn.2.2, fun a ha c hc => ?_⟩
    cases hva : a.ownBlock with
    | none => exact .inl hva
    | some g =>
      refine .inr fun hh => ?_
      rw [hva] at hh
      have g1 := (h.lt ha hva).2
      simp at hc
      rcases hc with rfl | rfl
      · have := (hn.1.lt g hh.symm).1; omega
      · have := (hn.2.1.lt g hh.symm).1; omega
end
/-- A list of nodes that the call laid: the outer row, and the rows of its wishes, all apart. -/
def OwnN (w : World) (lo EN E EP : Nat) (v : Value) (l : List Nd) : Prop :=
  ∃ ps : List NdC, ps.map (·.1) = l ∧ OwnNs w lo E EP ps ∧ w.ownsRow lo EN 6 v l.length (ndc ps) ∧ ∀ u ∈ ndv ps, Far u v
theorem OwnW.read {w : World} {lo E EP : Nat} {x : Wi} {u v : Value} (h : OwnW w lo E EP x u v) (hf : (∀ y ∈ x.list, Fit y) ∧ ∀ p ∈ x.pairs, Fit p.1 ∧ Fit p.2) : V RI 1 w w.heap.size u x.list ∧ V RP 2 w w.heap.size v x.pairs :=
  ⟨own_ints h.1 hf.1, own_pairs h.2.1 hf.2⟩
/-- What a list of nodes holds are ints of the machine. -/
def FitW (x : Wi) : Prop := Fit x.kind ∧ Fit x.field ∧ Fit x.value ∧ (∀ y ∈ x.list, Fit y) ∧ ∀ p ∈ x.pairs, Fit p.1 ∧ Fit p.2
def FitN (x : Nd) : Prop := Fit x.op ∧ FitW x.wish
theorem OwnN.read {w : World} {lo EN E EP : Nat} {v : Value} {l : List Nd} (h : OwnN w lo EN E EP v l) (hf : ∀ x ∈ l, FitN x) : V RN 6 w w.heap.size v l := by
  obtain ⟨ps, rfl, h2, ho, _⟩ := h
  refine own_V (css := ps.map nd6) (by rw [ndc_flat]; exact ho) (by simp) (fun i x cs hx hc => ?_)
  rw [List.getElem?_map] at hx hc
  cases hp : ps[i]? with
  | none => rw [hp] at hx; cases hx
  | some p =>
    rw [hp] at hx hc
    simp at hx hc
    subst hx hc
    obtain ⟨f0, f1, f2, f3, f4, f5⟩ := hf p.1 (List.mem_map.2 ⟨p, List.mem_of_getElem? hp, rfl⟩)
    obtain ⟨r1, r2⟩ := (h2.each p (List.mem_of_getElem? hp)).read ⟨f4, f5⟩
    exact ⟨rfl, _, rfl, f0, _, _, rfl, f1, f2, f3, r1, r2⟩
theorem fitNs {w : World} {B n c : Nat} {A : Option Addr} {l : List Nd} (h : Sl RN 6 w B A n c l) : ∀ x ∈ l, FitN x := by
  intro x hx
  obtain ⟨i, hi⟩ := List.getElem?_of_mem hx
  have hin : i < n := by have := (List.getElem?_eq_some_iff.1 hi).1; have := h.len; omega
  obtain ⟨b, o, y, A1, n1, c1, E1, m1, d1, _, _, hy, ⟨f0, f1, f2, f3⟩, hs, ht, _⟩ := nodeAt h hin
  rw [hi] at hy
  injection hy with hy
  subst hy
  exact ⟨f0, f1, f2, f3, V.fit ⟨A1, n1, c1, rfl, hs⟩, fitPairs ht⟩
end Go.Proofs.Ytphbochfpidgeaa.M
