/-
  The given statement on laws.FnExactFormatExpression: for every input that the row speaks of, the call returns true and the arguments read as before.
  Conditions: none beyond the row's own.
-/
import Derived.Test.YtgjghpaenliliaaM9
import Derived.Test.YtgjghpaenliliaaW12
import Derived.Test.YtgjghpaenliliaaW30
import Derived.Test.YtgjghpaenliliaaU1
import Derived.Test.YtgjghpaenliliaaO2
import Derived.Test.YtgjghpaenliliaaP12
import Derived.Test.YtgjghpaenliliaaW19
import Derived.Test.YtgjghpaenliliaaP7
import Derived.Test.YtgjghpaenliliaaW41
import Derived.Test.YtgjghpaenliliaaP8
import Derived.Test.YtgjghpaenliliaaW46
import Derived.Deep.RegionHeld3
import Derived.Test.YtgjghpaenliliaaRows
import Derived.ProofKit
import Derived.OpenShut
import Derived.ShutString
import Derived.ChangeOld
import Derived.Below
namespace Go.Proofs.Ytgjghpaenliliaa.M
open Go Go.RowKit

/-- Node k of a list in memory. -/
theorem nodeAt {w : World} {B n c k : Nat} {A : Option Addr} {l : List Nd} (h : Sl RN 6 w B A n c l) (hk : k < n) :
    ∃ b o x A1 n1 c1 E1 m1 d1, A = some ⟨b, o, none⟩ ∧ b < B ∧ l[k]? = some x ∧ (Fit x.op ∧ Fit x.wish.kind ∧ Fit x.wish.field ∧ Fit x.wish.value) ∧ Sl RI 1 w B A1 n1 c1 x.wish.list ∧ Sl RP 2 w B E1 m1 d1 x.wish.pairs ∧
      w.cell? ⟨b, o + k * 6, none⟩ = some (.int .i64 x.op) ∧ w.cell? ⟨b, o + k * 6 + 1, none⟩ = some (.int .i64 x.wish.kind) ∧ w.cell? ⟨b, o + k * 6 + 2, none⟩ = some (.int .i64 x.wish.field) ∧ w.cell? ⟨b, o + k * 6 + 3, none⟩ = some (.int .i64 x.wish.value) ∧
      w.cell? ⟨b, o + k * 6 + 4, none⟩ = some (.slice A1 n1 c1) ∧ w.cell? ⟨b, o + k * 6 + 5, none⟩ = some (.slice E1 m1 d1) := by
  obtain ⟨b, o, x, cs, e, hlt, hx, _, ⟨cw, rfl, f0, v, u, rfl, f1, f2, f3, ⟨A1, n1, c1, rfl, hs⟩, ⟨E1, m1, d1, rfl, ht⟩⟩, hc⟩ := h.get hk
  refine ⟨b, o, x, A1, n1, c1, E1, m1, d1, e, hlt, hx, ⟨f0, f1, f2, f3⟩, hs, ht, ?_, ?_, ?_, ?_, ?_, ?_⟩
  · simpa using hc 0 _ rfl
  · have := hc 1 _ rfl; rwa [← Nat.add_assoc] at this
  · have := hc 2 _ rfl; rwa [← Nat.add_assoc] at this
  · have := hc 3 _ rfl; rwa [← Nat.add_assoc] at this
  · have := hc 4 _ rfl; rwa [← Nat.add_assoc] at this
  · have := hc 5 _ rfl; rwa [← Nat.add_assoc] at this
/-! ### cells in sixes -/
/-- A node, and the slice values that its wish holds. -/
abbrev NdC := Nd × Value × Value
def nd6 (p : NdC) : List Value := [.int .i64 p.1.op, .int .i64 p.1.wish.kind, .int .i64 p.1.wish.field, .int .i64 p.1.wish.value, p.2.1, p.2.2]
def ndc (ps : List NdC) : List Value := ps.flatMap nd6
theorem ndc_len (ps : List NdC) : (ndc ps).length = ps.length * 6 := by
  induction ps with
  | nil => rfl
  | cons a t ih => simp only [ndc, nd6, List.flatMap_cons, List.length_append, List.length_cons, List.length_nil] at ih ⊢; omega
theorem ndc_set (ps : List NdC) : ∀ (k : Nat) (p : NdC), ((((((ndc ps).set (k * 6) (.int .i64 p.1.op)).set (k * 6 + 1) (.int .i64 p.1.wish.kind)).set (k * 6 + 2) (.int .i64 p.1.wish.field)).set (k * 6 + 3) (.int .i64 p.1.wish.value)).set (k * 6 + 4) p.2.1).set (k * 6 + 5) p.2.2 = ndc (ps.set k p) := by
  induction ps with
  | nil => intro k p; simp [ndc]
  | cons a t ih =>
    intro k p
    cases k with
    | zero => simp [ndc, nd6]
    | succ k =>
      have := ih k p
      simp only [ndc, nd6, List.flatMap_cons, List.set_cons_succ] at this ⊢
      rw [show (k + 1) * 6 = k * 6 + 1 + 1 + 1 + 1 + 1 + 1 by omega, List.cons_append, List.cons_append, List.cons_append, List.cons_append, List.cons_append, List.cons_append, List.nil_append]
      rw [show k * 6 + 1 + 1 + 1 + 1 + 1 + 1 + 1 = (k * 6 + 1) + 1 + 1 + 1 + 1 + 1 + 1 by omega, show k * 6 + 1 + 1 + 1 + 1 + 1 + 1 + 2 = (k * 6 + 2) + 1 + 1 + 1 + 1 + 1 + 1 by omega, show k * 6 + 1 + 1 + 1 + 1 + 1 + 1 + 3 = (k * 6 + 3) + 1 + 1 + 1 + 1 + 1 + 1 by omega, show k * 6 + 1 + 1 + 1 + 1 + 1 + 1 + 4 = (k * 6 + 4) + 1 + 1 + 1 + 1 + 1 + 1 by omega, show k * 6 + 1 + 1 + 1 + 1 + 1 + 1 + 5 = (k * 6 + 5) + 1 + 1 + 1 + 1 + 1 + 1 by omega]
      simp only [List.set_cons_succ]
      rw [this]
      rfl
theorem ndc_at (ps : List NdC) : ∀ (k : Nat) (p : NdC), ps[k]? = some p → (ndc ps)[k * 6]? = some (.int .i64 p.1.op) ∧ (ndc ps)[k * 6 + 1]? = some (.int .i64 p.1.wish.kind) ∧ (ndc ps)[k * 6 + 2]? = some (.int .i64 p.1.wish.field) ∧ (ndc ps)[k * 6 + 3]? = some (.int .i64 p.1.wish.value) ∧ (ndc ps)[k * 6 + 4]? = some p.2.1 ∧ (ndc ps)[k * 6 + 5]? = some p.2.2 := by
  induction ps with
  | nil => intro k p h; simp at h
  | cons a t ih =>
    intro k p h
    cases k with
    | zero => simp at h; subst h; simp [ndc, nd6]
    | succ k =>
      have := ih k p (by simpa using h)
      simp only [ndc, nd6, List.flatMap_cons] at this ⊢
      rw [show (k + 1) * 6 = k * 6 + 1 + 1 + 1 + 1 + 1 + 1 by omega, List.cons_append, List.cons_append, List.cons_append, List.cons_append, List.cons_append, List.cons_append, List.nil_append]
      rw [show k * 6 + 1 + 1 + 1 + 1 + 1 + 1 + 1 = (k * 6 + 1) + 1 + 1 + 1 + 1 + 1 + 1 by omega, show k * 6 + 1 + 1 + 1 + 1 + 1 + 1 + 2 = (k * 6 + 2) + 1 + 1 + 1 + 1 + 1 + 1 by omega, show k * 6 + 1 + 1 + 1 + 1 + 1 + 1 + 3 = (k * 6 + 3) + 1 + 1 + 1 + 1 + 1 + 1 by omega, show k * 6 + 1 + 1 + 1 + 1 + 1 + 1 + 4 = (k * 6 + 4) + 1 + 1 + 1 + 1 + 1 + 1 by omega, show k * 6 + 1 + 1 + 1 + 1 + 1 + 1 + 5 = (k * 6 + 5) + 1 + 1 + 1 + 1 + 1 + 1 by omega]
      simp only [List.getElem?_cons_succ]
      exact this
theorem ndc_flat (ps : List NdC) : (ps.map nd6).flatten = ndc ps := by unfold ndc; rw [List.flatMap_def]
theorem ndc_snoc (ps : List NdC) (p : NdC) : ndc (ps ++ [p]) = ndc ps ++ nd6 p := by unfold ndc; rw [List.flatMap_append]; simp
/-- The slice values of the nodes. -/
def ndv (ps : List NdC) : List Value := ps.flatMap fun p => [p.2.1, p.2.2]
theorem ndv_snoc (ps : List NdC) (p : NdC) : ndv (ps ++ [p]) = ndv ps ++ [p.2.1, p.2.2] := by unfold ndv; rw [List.flatMap_append]; simp
/-- Two values that share no block. -/
def Far (u v : Value) : Prop := u.ownBlock = none ∨ u.ownBlock ≠ v.ownBlock
/-- The rows of a wish, each in a block of the call's own, from lo on. -/
def OwnW (w : World) (lo E EP : Nat) (x : Wi) (u v : Value) : Prop :=
  w.ownsRow lo E 1 u x.list.length (x.list.map (Value.int .i64)) ∧ w.ownsRow lo EP 2 v x.pairs.length (prc x.pairs) ∧ Far u v
/-- The wishes' rows of nodes, all apart. -/
structure OwnNs (w : World) (lo E EP : Nat) (ps : List NdC) : Prop where
  each : ∀ p ∈ ps, OwnW w lo E EP p.1.wish p.2.1 p.2.2
  apart : (ndv ps).Pairwise Far
section
variable {w w' : World} {lo lo' E EP : Nat} {x : Wi} {u v : Value} {ps : List NdC}
theorem OwnW.below (h : OwnW w lo E EP x u v) (hb : Below w.heap.size w w') : OwnW w' lo E EP x u v := ⟨own_below h.1 hb, own_below h.2.1 hb, h.2.2⟩
theorem OwnW.mono (h : OwnW w lo E EP x u v) (hl : lo' ≤ lo) : OwnW w lo' E EP x u v := ⟨own_mono h.1 hl, own_mono h.2.1 hl, h.2.2⟩
theorem OwnW.far (h : OwnW w lo E EP x u v) {a : Addr} (ha : a.block < lo) (z : Value) : OwnW (w.setCell a z) lo E EP x u v := ⟨ownsRow_setCell_below h.1 ha z, ownsRow_setCell_below h.2.1 ha z, h.2.2⟩
theorem OwnNs.below (h : OwnNs w lo E EP ps) (hb : Below w.heap.size w w') : OwnNs w' lo E EP ps := ⟨fun p hp => (h.each p hp).below hb, h.apart⟩
theorem OwnNs.mono (h : OwnNs w lo E EP ps) (hl : lo' ≤ lo) : OwnNs w lo' E EP ps := ⟨fun p hp => (h.each p hp).mono hl, h.apart⟩
theorem OwnNs.far (h : OwnNs w lo E EP ps) {a : Addr} (ha : a.block < lo) (z : Value) : OwnNs (w.setCell a z) lo E EP ps := ⟨fun p hp => (h.each p hp).far ha z, h.apart⟩
theorem OwnNs.nil (w : World) (lo E EP : Nat) : OwnNs w lo E EP [] := ⟨fun p hp => absurd hp (by simp), by simp [ndv]⟩
theorem OwnNs.lt (h : OwnNs w lo E EP ps) {u : Value} (hu : u ∈ ndv ps) {g : Nat} (hg : u.ownBlock = some g) : lo ≤ g ∧ g < w.heap.size := by
  unfold ndv at hu
  obtain ⟨p, hp, hup⟩ := List.mem_flatMap.1 hu
  obtain ⟨h1, h2, _⟩ := h.each p hp
  simp at hup
  rcases hup with rfl | rfl
  · exact h1.lt g hg
  · exact h2.lt g hg
theorem OwnNs.snoc {p : NdC} {lo2 : Nat} (h : OwnNs w lo E EP ps) (hb : Below w.heap.size w w') (hn : OwnW w' lo2 E EP p.1.wish p.2.1 p.2.2) (hlo : w.heap.size ≤ lo2) (hl : lo ≤ lo2) : OwnNs w' lo E EP (ps ++ [p]) := by
  refine ⟨fun q hq => ?_, ?_⟩
  · rcases List.mem_append.1 hq with hq | hq
    · exact (h.each q hq).below hb
    · simp at hq; subst hq; exact hn.mono hl
  · rw [ndv_snoc, List.pairwise_append]
    refine ⟨h.apart, by simp; exact hn.2.2, fun a ha c hc => ?_⟩
    cases hva : a.ownBlock with
    | none => exact .inl hva
    | some g =>
      refine .inr fun hh => ?_
      rw [hva] at hh
      have g1 := (h.lt ha hva).2
      simp at hc
      rcases hc with rfl | rfl
      · have := (hn.1.lt g hh.symm).1; omega
      · have := (hn.2.1.lt g hh.symm).1; omega
end
/-- A list of nodes that the call laid: the outer row, and the rows of its wishes, all apart. -/
def OwnN (w : World) (lo EN E EP : Nat) (v : Value) (l : List Nd) : Prop :=
  ∃ ps : List NdC, ps.map (·.1) = l ∧ OwnNs w lo E EP ps ∧ w.ownsRow lo EN 6 v l.length (ndc ps) ∧ ∀ u ∈ ndv ps, Far u v
theorem OwnW.read {w : World} {lo E EP : Nat} {x : Wi} {u v : Value} (h : OwnW w lo E EP x u v) (hf : (∀ y ∈ x.list, Fit y) ∧ ∀ p ∈ x.pairs, Fit p.1 ∧ Fit p.2) : V RI 1 w w.heap.size u x.list ∧ V RP 2 w w.heap.size v x.pairs :=
  ⟨own_ints h.1 hf.1, own_pairs h.2.1 hf.2⟩
/-- What a list of nodes holds are ints of the machine. -/
def FitW (x : Wi) : Prop := Fit x.kind ∧ Fit x.field ∧ Fit x.value ∧ (∀ y ∈ x.list, Fit y) ∧ ∀ p ∈ x.pairs, Fit p.1 ∧ Fit p.2
def FitN (x : Nd) : Prop := Fit x.op ∧ FitW x.wish
theorem OwnN.read {w : World} {lo EN E EP : Nat} {v : Value} {l : List Nd} (h : OwnN w lo EN E EP v l) (hf : ∀ x ∈ l, FitN x) : V RN 6 w w.heap.size v l := by
  obtain ⟨ps, rfl, h2, ho, _⟩ := h
  refine own_V (css := ps.map nd6) (by rw [ndc_flat]; exact ho) (by simp) (fun i x cs hx hc => ?_)
  rw [List.getElem?_map] at hx hc
  cases hp : ps[i]? with
  | none => rw [hp] at hx; cases hx
  | some p =>
    rw [hp] at hx hc
    simp at hx hc
    subst hx hc
    obtain ⟨f0, f1, f2, f3, f4, f5⟩ := hf p.1 (List.mem_map.2 ⟨p, List.mem_of_getElem? hp, rfl⟩)
    obtain ⟨r1, r2⟩ := (h2.each p (List.mem_of_getElem? hp)).read ⟨f4, f5⟩
    exact ⟨rfl, _, rfl, f0, _, _, rfl, f1, f2, f3, r1, r2⟩
theorem fitNs {w : World} {B n c : Nat} {A : Option Addr} {l : List Nd} (h : Sl RN 6 w B A n c l) : ∀ x ∈ l, FitN x := by
  intro x hx
  obtain ⟨i, hi⟩ := List.getElem?_of_mem hx
  have hin : i < n := by have := (List.getElem?_eq_some_iff.1 hi).1; have := h.len; omega
  obtain ⟨b, o, y, A1, n1, c1, E1, m1, d1, _, _, hy, ⟨f0, f1, f2, f3⟩, hs, ht, _⟩ := nodeAt h hin
  rw [hi] at hy
  injection hy with hy
  subst hy
  exact ⟨f0, f1, f2, f3, V.fit ⟨A1, n1, c1, rfl, hs⟩, fitPairs ht⟩
end Go.Proofs.Ytgjghpaenliliaa.M

namespace Go.Proofs.Ytgjghpaenliliaa.Wk
open Go.RowKit Go.Proofs.Ytgjghpaenliliaa.M
set_option linter.unusedVariables false
attribute [local go_sem] cell_grow

theorem V_sl {α : Type} {R : Rep α} {sz B n c : Nat} {w : World} {A : Option Addr} {l : List α} (h : V R sz w B (.slice A n c) l) : Sl R sz w B A n c l := by
  obtain ⟨A', n', c', e, hs⟩ := h
  injection e with e1 e2 e3
  subst e1 e2 e3
  exact hs
/-- It returns a wish by value that reads as x. -/
abbrev RetW (w : World) (x : Wi) (e : Ending) (w' : World) : Prop :=
  ∃ A n c E m d, e = .returned (.agg #[.int .i64 x.kind, .int .i64 x.field, .int .i64 x.value, .slice A n c, .slice E m d]) ∧ Sl RI 1 w' w'.heap.size A n c x.list ∧ Sl RP 2 w' w'.heap.size E m d x.pairs ∧ Below w.heap.size w w'
/-- It returns a wish by value, whose rows are the call's own. -/
def RetWO (w : World) (x : Wi) (e : Ending) (w' : World) : Prop :=
  ∃ u v, e = .returned (.agg #[.int .i64 x.kind, .int .i64 x.field, .int .i64 x.value, u, v]) ∧ OwnW w' w.heap.size 3 92 x u v ∧ Below w.heap.size w w'
set_option maxHeartbeats 800000 in
theorem sz_wish {A E : Option Addr} {n c m d : Nat} {x : Wi} {left : Int} (w : World) (h : Sl RI 1 w w.heap.size A n c x.list) (h' : Sl RP 2 w w.heap.size E m d x.pairs) (h0 : 0 ≤ left) (h1 : left ≤ 1048576) :
    Calls Try.prog 55 #[.agg #[.int .i64 x.kind, .int .i64 x.field, .int .i64 x.value, .slice A n c, .slice E m d], .int .i64 left] w fun e w' => e = .returned (.int .i64 (less left (x.list.length + x.pairs.length))) ∧ Below w.heap.size w w' := by
  have hn := Nat.le_trans h.le h.max
  have B1 := (Below.refl w.heap.size w).alloc (Nat.le_refl _) (.cells #[.int .i64 x.kind, .int .i64 x.field, .int .i64 x.value, .slice A n c, .slice E m d] 47)
  have H' := Lib.hid (h'.on RP.keeps B1)
  have HL := Lib.hid h.len
  by_cases h2 : left < n
  · have hv : less left n = -1 := less_no h2
    have HE : Hid (less left (x.list.length + x.pairs.length) = -1) := less_no (by have := HL.out; omega)
    clear h h'
    go_enter Try.func55, Try.ntmps55
    go_wp2_with (go_at_call 32; refine (szIntS A n c left h0 h1 hn _).mono ?_; rintro e w' ⟨rfl, rfl⟩; rw [hv])
    go_ret
    exact ⟨ret_int HE.out.symm, B1⟩
  · have hv : less left n = left - n := less_fit (by omega)
    clear h h'
    by_cases h3 : left - n < x.pairs.length
    · have hv2 : less (left - n) x.pairs.length = -1 := less_no h3
      have HE : Hid (less left (x.list.length + x.pairs.length) = -1) := less_no (by have := HL.out; omega)
      go_enter Try.func55, Try.ntmps55
      go_wp2_with (first | (go_at_call 32; refine (szIntS A n c left h0 h1 hn _).mono ?_; rintro e w' ⟨rfl, rfl⟩; rw [hv]) | (go_at_call 85; refine (sz_pairs _ H'.out (by omega) (by omega)).mono ?_; rintro e w2 ⟨rfl, b2⟩; rw [hv2]))
      go_ret
      exact ⟨ret_int HE.out.symm, B1.trans (b2.mono B1.size)⟩
    · have hv2 : less (left - n) x.pairs.length = left - n - x.pairs.length := less_fit (by omega)
      have HE : Hid (less left (x.list.length + x.pairs.length) = left - n - x.pairs.length) := by
        show _ = _
        rw [less_fit (by have := HL.out; omega)]
        have := HL.out; omega
      go_enter Try.func55, Try.ntmps55
      go_wp2_with (first | (go_at_call 32; refine (szIntS A n c left h0 h1 hn _).mono ?_; rintro e w' ⟨rfl, rfl⟩; rw [hv]) | (go_at_call 85; refine (sz_pairs _ H'.out (by omega) (by omega)).mono ?_; rintro e w2 ⟨rfl, b2⟩; rw [hv2]))
      go_ret
      exact ⟨ret_int HE.out.symm, B1.trans (b2.mono B1.size)⟩
theorem eqInts_same {A A' : Option Addr} {n n' c c' : Nat} {xs : List Int} (w : World) (h : Sl RI 1 w w.heap.size A n c xs) (h' : Sl RI 1 w w.heap.size A' n' c' xs) :
    Calls Try.prog 38 #[.slice A n c, .slice A' n' c'] w fun e w' => e = .returned (.bool true) ∧ Below w.heap.size w w' :=
  (eqIntS w h h').mono fun e w' hh => by
    obtain ⟨he, hb⟩ := hh.below
    exact ⟨by rw [he]; simp, hb⟩
set_option maxHeartbeats 800000 in
theorem eq_wish {A E A' E' : Option Addr} {n c m d n' c' m' d' : Nat} {x : Wi} (w : World) (h : Sl RI 1 w w.heap.size A n c x.list) (g : Sl RP 2 w w.heap.size E m d x.pairs) (h' : Sl RI 1 w w.heap.size A' n' c' x.list) (g' : Sl RP 2 w w.heap.size E' m' d' x.pairs) :
    Calls Try.prog 68 #[.agg #[.int .i64 x.kind, .int .i64 x.field, .int .i64 x.value, .slice A n c, .slice E m d], .agg #[.int .i64 x.kind, .int .i64 x.field, .int .i64 x.value, .slice A' n' c', .slice E' m' d']] w fun e w' => e = .returned (.bool true) ∧ Below w.heap.size w w' := by
  have B2 := ((Below.refl w.heap.size w).alloc (Nat.le_refl _) (.cells #[.int .i64 x.kind, .int .i64 x.field, .int .i64 x.value, .slice A n c, .slice E m d] 53)).alloc (by simp) (.cells #[.int .i64 x.kind, .int .i64 x.field, .int .i64 x.value, .slice A' n' c', .slice E' m' d'] 53)
  have H := Lib.hid (h.on RI.keeps B2)
  have H' := Lib.hid (h'.on RI.keeps B2)
  have G := Lib.hid (g.on RP.keeps B2)
  have G' := Lib.hid (g'.on RP.keeps B2)
  have q1 : (x.kind != x.kind) = false := by simp
  have q2 : (x.field != x.field) = false := by simp
  have q3 : (x.value != x.value) = false := by simp
  clear h h' g g'
  go_enter Try.func68, Try.ntmps68
  go_wp2_with fail
  refine (eqInts_same _ H.out H'.out).mono ?_
  rintro e w2 ⟨rfl, b2⟩
  have K := G.out.on RP.keeps b2
  have K' := G'.out.on RP.keeps b2
  have hC := cell_of b2
  have z1 : w.heap.size < w2.heap.size := by have := b2.size; simp at this; omega
  have z2 : w.heap.size + 1 < w2.heap.size := by have := b2.size; simp at this; omega
  go_wp2_with fail
  refine (eq_pairs _ K K').mono ?_
  rintro e w3 ⟨rfl, b3⟩
  have B3 := (B2.trans (b2.mono B2.size)).trans (b3.mono (B2.trans (b2.mono B2.size)).size)
  clear K K' hC b2 b3 B2
  go_wp2_with fail
  go_ret
  exact ⟨rfl, B3⟩
set_option maxHeartbeats 1600000 in
theorem toWish {A E : Option Addr} {n c m d : Nat} {x : Wi} (w : World) (h : Sl RI 1 w w.heap.size A n c x.list) (g : Sl RP 2 w w.heap.size E m d x.pairs) (ht : x.list.length + x.pairs.length ≤ 1048576) :
    Calls Try.prog 61 #[.agg #[.int .i64 x.kind, .int .i64 x.field, .int .i64 x.value, .slice A n c, .slice E m d]] w (RetWO w x) := by
  have hn : n ≤ 1048576 := by have := h.len; omega
  have hb3 : ∀ o1 o2 o3, Below w.heap.size w (((w.alloc o1).alloc o2).alloc o3) := fun o1 o2 o3 => (((Below.refl _ _).alloc (Nat.le_refl _) _).alloc (by simp) _).alloc (by simp; omega) _
  go_enter Try.func61, Try.ntmps61
  go_wp2_with fail
  refine (toIntS _ (h.on RI.keeps (hb3 _ _ _)) hn).mono ?_
  rintro e w1 ⟨v1, rfl, ho1, b1⟩
  obtain ⟨A1, c1, rfl, _, _⟩ := own_form ho1
  have B0 := hb3 (.cells [Value.int .i64 x.kind, .int .i64 x.field, .int .i64 x.value, .slice A n c, .slice E m d].toArray 47) (.cells [Value.int .i64 0, .int .i64 0, .int .i64 0, .slice none 0 0, .slice none 0 0].toArray 53) (.cells [Value.int .i64 x.kind, .int .i64 x.field, .int .i64 x.value, .slice none 0 0, .slice none 0 0].toArray 53)
  have R0 := (((Row.new w 47 [.int .i64 x.kind, .int .i64 x.field, .int .i64 x.value, .slice A n c, .slice E m d]).alloc (.cells [Value.int .i64 0, .int .i64 0, .int .i64 0, .slice none 0 0, .slice none 0 0].toArray 53)).alloc (.cells [Value.int .i64 x.kind, .int .i64 x.field, .int .i64 x.value, .slice none 0 0, .slice none 0 0].toArray 53)).below b1 (by simp; omega)
  have R1 := ((Row.new (w.alloc (.cells [Value.int .i64 x.kind, .int .i64 x.field, .int .i64 x.value, .slice A n c, .slice E m d].toArray 47)) 53 [.int .i64 0, .int .i64 0, .int .i64 0, .slice none 0 0, .slice none 0 0]).alloc (.cells [Value.int .i64 x.kind, .int .i64 x.field, .int .i64 x.value, .slice none 0 0, .slice none 0 0].toArray 53)).below b1 (by simp)
  have R2 := (Row.new ((w.alloc (.cells [Value.int .i64 x.kind, .int .i64 x.field, .int .i64 x.value, .slice A n c, .slice E m d].toArray 47)).alloc (.cells [Value.int .i64 0, .int .i64 0, .int .i64 0, .slice none 0 0, .slice none 0 0].toArray 53)) 53 [.int .i64 x.kind, .int .i64 x.field, .int .i64 x.value, .slice none 0 0, .slice none 0 0]).below b1 (by simp)
  have BB := B0.trans (b1.mono B0.size)
  simp only [World.size_alloc] at R1 R2 ho1
  have K0 := Lib.hid (R0.far (p := ⟨w.heap.size + 1 + 1, 3, none⟩) (by simp; omega) (.slice A1 x.list.length c1))
  have K1 := Lib.hid (R1.far (p := ⟨w.heap.size + 1 + 1, 3, none⟩) (by simp) (.slice A1 x.list.length c1))
  have K2 := Lib.hid (R2.set 3 (.slice A1 x.list.length c1))
  have KO := Lib.hid (ownsRow_setCell_below ho1 (a := ⟨w.heap.size + 1 + 1, 3, none⟩) (by simp) (.slice A1 x.list.length c1))
  have KB := Lib.hid (BB.setCell (p := ⟨w.heap.size + 1 + 1, 3, none⟩) (by simp; omega) (.slice A1 x.list.length c1))
  have c23 := R2.cell 3
  have f23 := R2.free 3
  have c04 := R0.cell 4
  simp at c23 c04
  have z2 := R2.lt
  have z0 := R0.lt
  have K := Lib.hid (g.on RP.keeps KB.out)
  clear R0 R1 R2 b1 ho1 B0 BB hb3 h g
  go_wp2_with fail
  refine (toPairS _ K.out (by omega)).mono ?_
  rintro e w3 ⟨v2, rfl, ho2, b3⟩
  obtain ⟨E2, d2, rfl, _, _⟩ := own_form ho2
  have BB := KB.out.trans (b3.mono KB.out.size)
  have R1 := K1.out.below b3 K1.out.lt
  have R2 := K2.out.below b3 K2.out.lt
  have HFar : Hid (Far (.slice A1 x.list.length c1) (.slice E2 x.pairs.length d2)) := by
    cases hv : (Value.slice A1 x.list.length c1).ownBlock with
    | none => exact .inl hv
    | some g =>
      refine .inr fun hh => ?_
      rw [hv] at hh
      have g1 := (KO.out.lt g hv).2
      have g2 := (ho2.lt g hh.symm).1
      omega
  have O1 := Lib.hid (own_below KO.out b3)
  have O2 := Lib.hid ho2
  have c13 := R2.cell 0
  have c20 := R2.cell 0
  have c21 := R2.cell 1
  have c22 := R2.cell 2
  have c23' := R2.cell 3
  have c24 := R2.cell 4
  have f24 := R2.free 4
  have c10 := R1.cell 0
  have c11 := R1.cell 1
  have c12 := R1.cell 2
  have c13 := R1.cell 3
  have c14 := R1.cell 4
  have f10 := R1.free 0
  have f11 := R1.free 1
  have f12 := R1.free 2
  have f13 := R1.free 3
  have f14 := R1.free 4
  simp at c20 c21 c22 c23' c24 c10 c11 c12 c13 c14
  have z3 := R2.lt
  have z4 := R1.lt
  have HBB := Lib.hid BB
  have hbase : w.heap.size + 1 + 1 < (w1.setCell ⟨w.heap.size + 1 + 1, 3, none⟩ (.slice A1 x.list.length c1)).heap.size := by simpa using z2
  clear K0 K1 K2 KO KB K b3 ho2 BB R1 R2 c23 f23 c04 z2 z0
  go_wp2
  refine bodyPost_ret (v := .agg #[.int .i64 x.kind, .int .i64 x.field, .int .i64 x.value, .slice A1 x.list.length c1, .slice E2 x.pairs.length d2]) (by simp [results, Try.results61, go_sem, c10, c11, c12, c13, c14]) rfl ?_
  refine ⟨_, _, rfl, OwnW.mono (lo := w.heap.size + 1 + 1 + 1) ⟨?_, ?_, HFar.out⟩ (by omega), ?_⟩
  · exact ownsRow_setCell_below (ownsRow_setCell_below (ownsRow_setCell_below (ownsRow_setCell_below (ownsRow_setCell_below (ownsRow_setCell_below O1.out (by simp) _) (by simp) _) (by simp) _) (by simp) _) (by simp) _) (by simp) _
  · exact ownsRow_setCell_below (ownsRow_setCell_below (ownsRow_setCell_below (ownsRow_setCell_below (ownsRow_setCell_below (ownsRow_setCell_below (own_mono O2.out (by omega)) (by simp) _) (by simp) _) (by simp) _) (by simp) _) (by simp) _) (by simp) _
  · exact (((((HBB.out.setCell (p := ⟨w.heap.size + 1 + 1, 4, none⟩) (by simp; omega) _).setCell (p := ⟨w.heap.size + 1, 0, none⟩) (by simp) _).setCell (p := ⟨w.heap.size + 1, 1, none⟩) (by simp) _).setCell (p := ⟨w.heap.size + 1, 2, none⟩) (by simp) _).setCell (p := ⟨w.heap.size + 1, 3, none⟩) (by simp) _).setCell (p := ⟨w.heap.size + 1, 4, none⟩) (by simp) _
theorem to_wish {A E : Option Addr} {n c m d : Nat} {x : Wi} (w : World) (h : Sl RI 1 w w.heap.size A n c x.list) (g : Sl RP 2 w w.heap.size E m d x.pairs) (ht : x.list.length + x.pairs.length ≤ 1048576) :
    Calls Try.prog 61 #[.agg #[.int .i64 x.kind, .int .i64 x.field, .int .i64 x.value, .slice A n c, .slice E m d]] w (RetW w x) :=
  (toWish w h g ht).mono fun e w' ⟨u, v, he, ho, hb⟩ => by
    obtain ⟨⟨A', n', c', rfl, r1⟩, ⟨E', m', d', rfl, r2⟩⟩ := ho.read ⟨V.fit ⟨A, n, c, rfl, h⟩, fitPairs g⟩
    exact ⟨A', n', c', E', m', d', he, r1, r2, hb⟩
end Go.Proofs.Ytgjghpaenliliaa.Wk

namespace Go.Proofs.Ytgjghpaenliliaa.Wk
open Go.RowKit Go.Proofs.Ytgjghpaenliliaa.M
set_option linter.unusedVariables false
attribute [local go_sem] cell_grow

/-- How many values a list of nodes holds, the nodes themselves counted too. -/
def totN : List Nd → Nat
  | [] => 0
  | x :: t => 1 + (x.wish.list.length + x.wish.pairs.length) + totN t
def valsN (l : List Nd) (k : Nat) : Nat := ((l.take k).map fun x => x.wish.list.length + x.wish.pairs.length).sum
theorem valsN_succ {l : List Nd} {k : Nat} {x : Nd} (hx : l[k]? = some x) : valsN l (k + 1) = valsN l k + (x.wish.list.length + x.wish.pairs.length) := by
  have hl := (List.getElem?_eq_some_iff.1 hx).1
  unfold valsN
  rw [List.take_succ_eq_append_getElem hl]
  rw [List.getElem?_eq_getElem hl] at hx
  injection hx with hx
  rw [hx]; simp
theorem totN_eq (l : List Nd) : totN l = l.length + valsN l l.length := by
  have : ∀ l : List Nd, totN l = l.length + (l.map fun x => x.wish.list.length + x.wish.pairs.length).sum := by
    intro l
    induction l with
    | nil => rfl
    | cons a t ih => simp only [totN, List.length_cons, List.map_cons, List.sum_cons]; omega
  rw [this]; unfold valsN; rw [List.take_length]
theorem valsN_le (l : List Nd) : ∀ k, valsN l k ≤ valsN l l.length := by
  intro k
  unfold valsN
  rw [List.take_length]
  induction l generalizing k with
  | nil => simp
  | cons a t ih =>
    cases k with
    | zero => simp
    | succ k => simp only [List.take_succ_cons, List.map_cons, List.sum_cons]; have := ih k; omega
abbrev nodeAgg (x : Nd) (u v : Value) : Value := .agg #[.int .i64 x.op, .int .i64 x.wish.kind, .int .i64 x.wish.field, .int .i64 x.wish.value, u, v]
set_option maxHeartbeats 800000 in
theorem sz_node {A E : Option Addr} {n c m d : Nat} {x : Nd} {left : Int} (w : World) (h : Sl RI 1 w w.heap.size A n c x.wish.list) (h' : Sl RP 2 w w.heap.size E m d x.wish.pairs) (h0 : 0 ≤ left) (h1 : left ≤ 1048576) :
    Calls Try.prog 23 #[.agg #[.int .i64 x.op, .int .i64 x.wish.kind, .int .i64 x.wish.field, .int .i64 x.wish.value, .slice A n c, .slice E m d], .int .i64 left] w fun e w' => e = .returned (.int .i64 (less left (x.wish.list.length + x.wish.pairs.length))) ∧ Below w.heap.size w w' := by
  have B1 := (Below.refl w.heap.size w).alloc (Nat.le_refl _) (.cells #[.int .i64 x.op, .int .i64 x.wish.kind, .int .i64 x.wish.field, .int .i64 x.wish.value, .slice A n c, .slice E m d] 49)
  have H := Lib.hid (h.on RI.keeps B1)
  have H' := Lib.hid (h'.on RP.keeps B1)
  clear h h'
  by_cases h2 : left < ((x.wish.list.length + x.wish.pairs.length : Nat) : Int)
  · have hv := less_no h2
    go_enter Try.func23, Try.ntmps23
    go_wp2_with (go_at_call 55; refine (sz_wish _ H.out H'.out h0 h1).mono ?_; rintro e w2 ⟨rfl, b2⟩; rw [hv])
    go_ret
    exact ⟨ret_int hv.symm, B1.trans (b2.mono B1.size)⟩
  · have hv := less_fit (left := left) (t := x.wish.list.length + x.wish.pairs.length) (by omega)
    have hpos : 0 ≤ left - ((x.wish.list.length + x.wish.pairs.length : Nat) : Int) := by omega
    go_enter Try.func23, Try.ntmps23
    go_wp2_with (go_at_call 55; refine (sz_wish _ H.out H'.out h0 h1).mono ?_; rintro e w2 ⟨rfl, b2⟩; rw [hv])
    go_ret
    exact ⟨ret_int hv.symm, B1.trans (b2.mono B1.size)⟩
set_option maxHeartbeats 800000 in
theorem sz_nodes {A : Option Addr} {n c : Nat} {l : List Nd} {left : Int} (w : World) (h : Sl RN 6 w w.heap.size A n c l) (h0 : 0 ≤ left) (h1 : left ≤ 1048576) :
    Calls Try.prog 7 #[.slice A n c, .int .i64 left] w fun e w' => e = .returned (.int .i64 (less left (totN l))) ∧ Below w.heap.size w w' := by
  have hn := Nat.le_trans h.le h.max
  have HT := Lib.hid (totN_eq l)
  have HL := Lib.hid h.len
  unfold maxLen at hn
  by_cases hlt0 : left < n
  · have hv : less left (totN l) = -1 := by
      unfold less
      rw [if_pos (by rw [HT.out, HL.out]; omega)]
    have HV := Lib.hid hv
    clear hv h
    go_enter Try.func7, Try.ntmps7
    go_wp2
    go_ret
    exact ⟨ret_int HV.out.symm, Below.refl _ _⟩
  · go_enter Try.func7, Try.ntmps7
    go_wp2
    go_loopw [1, 5] (fun vl vi wr => ∃ k : Nat, k ≤ n ∧ vi = .int .i64 k ∧ vl = .int .i64 (left - n - valsN l k) ∧ 0 ≤ left - n - (valsN l k : Int) ∧ Below w.heap.size w wr) (fun _ vi _ => n - (intOf vi).toNat)
    case atStart => exact ⟨0, Nat.zero_le _, rfl, vint (by simp [valsN]), by simp [valsN]; omega, Below.refl _ _⟩
    case round =>
      obtain ⟨k, hk, rfl, rfl, hpos, hbw⟩ := hrel
      by_cases hlt : k < n
      · obtain ⟨b, o, x, A1, n1, c1, E1, m1, d1, rfl, hb, hx, hf, hs, ht, g0, g1, g2, g3, g4, g5⟩ := nodeAt h hlt
        have e0 := ((cell_of hbw) b (o + k * 6) hb).trans g0
        have e1 := ((cell_of hbw) b (o + k * 6 + 1) hb).trans g1
        have e2 := ((cell_of hbw) b (o + k * 6 + 2) hb).trans g2
        have e3 := ((cell_of hbw) b (o + k * 6 + 3) hb).trans g3
        have e4 := ((cell_of hbw) b (o + k * 6 + 4) hb).trans g4
        have e5 := ((cell_of hbw) b (o + k * 6 + 5) hb).trans g5
        have HS := Lib.hid (valsN_succ hx)
        have HI := Lib.hid (hs.on RI.keeps hbw)
        have HP := Lib.hid (ht.on RP.keeps hbw)
        have HLE := Lib.hid (valsN_le l (k + 1))
        clear g0 g1 g2 g3 g4 g5 h hs ht hx
        by_cases hbad : left - n - (valsN l k : Int) < ((x.wish.list.length + x.wish.pairs.length : Nat) : Int)
        · have hl := less_no hbad
          have HV : Hid (less left (totN l) = -1) := by
            show _ = _
            unfold less
            have e1 := HT.out; have e2 := HL.out; have e3 := HS.out; have e5 := HLE.out
            rw [if_pos (by omega)]
          go_wp2_with fail
          refine (sz_node _ HI.out HP.out hpos (by omega)).mono ?_
          rintro e w2 ⟨rfl, hb2⟩
          rw [hl]
          have B2 := hbw.trans (hb2.mono hbw.size)
          clear hl hb2 hbw e0 e1 e2 e3 e4 e5
          go_wp2
          go_ret
          exact ⟨ret_int HV.out.symm, B2⟩
        · have hl := less_fit (left := left - n - (valsN l k : Int)) (t := x.wish.list.length + x.wish.pairs.length) (by omega)
          go_wp2_with fail
          refine (sz_node _ HI.out HP.out hpos (by omega)).mono ?_
          rintro e w2 ⟨rfl, hb2⟩
          rw [hl]
          have B2 := hbw.trans (hb2.mono hbw.size)
          have hp2 : 0 ≤ left - n - (valsN l k : Int) - ((x.wish.list.length + x.wish.pairs.length : Nat) : Int) := by omega
          clear hl hb2 hbw e0 e1 e2 e3 e4 e5
          go_wp2
          go_roundw
          case rel => exact ⟨k + 1, by omega, by go_num, vint (by have := HS.out; omega), by have := HS.out; omega, B2⟩
          case measure => simp [intOf]; omega
      · have HV : Hid (less left (totN l) = left - n - valsN l k) := by
          show _ = _
          unfold less
          have e1 := HT.out; have e2 := HL.out
          have hkn : k = l.length := by omega
          rw [hkn, if_neg (by rw [hkn] at hpos; omega)]
          rw [hkn] at hpos
          omega
        clear h
        go_wp2
        go_ret
        exact ⟨ret_int HV.out.symm, hbw⟩
theorem info_node : (Try.prog.info? 55).map (fun i => (i.zero, i.size, i.bytes)) = some (some (.agg #[.int .i64 0, .int .i64 0, .int .i64 0, .int .i64 0, .slice none 0 0, .slice none 0 0]), 6, 80) := by kernel_rfl
def zeroN : NdC := (⟨0, ⟨0, 0, 0, [], []⟩⟩, .slice none 0 0, .slice none 0 0)
theorem made_nodes (n : Nat) : madeCells #[.int .i64 0, .int .i64 0, .int .i64 0, .int .i64 0, .slice none 0 0, .slice none 0 0] (n * 6) = (ndc (List.replicate n zeroN)).toArray := by
  apply Array.ext
  · rw [size_madeCells]; simp [ndc_len]
  · intro j h1 h2
    have hj : j < n * 6 := by rw [size_madeCells] at h1; exact h1
    obtain ⟨a0, a1, a2, a3, a4, a5⟩ := ndc_at (List.replicate n zeroN) (j / 6) zeroN (by rw [List.getElem?_replicate, if_pos (by omega)])
    have e : (madeCells #[.int .i64 0, .int .i64 0, .int .i64 0, .int .i64 0, .slice none 0 0, .slice none 0 0] (n * 6))[j] = (#[Value.int .i64 0, .int .i64 0, .int .i64 0, .int .i64 0, .slice none 0 0, .slice none 0 0])[j % 6]! := by simp [madeCells]
    rw [e]
    have key : ∀ r, r < 6 → j % 6 = r → j = j / 6 * 6 + r := fun r _ h => by omega
    have hr : j % 6 < 6 := Nat.mod_lt _ (by decide)
    rcases (by omega : j % 6 = 0 ∨ j % 6 = 1 ∨ j % 6 = 2 ∨ j % 6 = 3 ∨ j % 6 = 4 ∨ j % 6 = 5) with h0 | h0 | h0 | h0 | h0 | h0
    · rw [h0]; rw [show j / 6 * 6 = j by omega] at a0; obtain ⟨_, hh⟩ := List.getElem?_eq_some_iff.1 a0; simpa [zeroN] using hh.symm
    · rw [h0]; rw [show j / 6 * 6 + 1 = j by omega] at a1; obtain ⟨_, hh⟩ := List.getElem?_eq_some_iff.1 a1; simpa [zeroN] using hh.symm
    · rw [h0]; rw [show j / 6 * 6 + 2 = j by omega] at a2; obtain ⟨_, hh⟩ := List.getElem?_eq_some_iff.1 a2; simpa [zeroN] using hh.symm
    · rw [h0]; rw [show j / 6 * 6 + 3 = j by omega] at a3; obtain ⟨_, hh⟩ := List.getElem?_eq_some_iff.1 a3; simpa [zeroN] using hh.symm
    · rw [h0]; rw [show j / 6 * 6 + 4 = j by omega] at a4; obtain ⟨_, hh⟩ := List.getElem?_eq_some_iff.1 a4; simpa [zeroN] using hh.symm
    · rw [h0]; rw [show j / 6 * 6 + 5 = j by omega] at a5; obtain ⟨_, hh⟩ := List.getElem?_eq_some_iff.1 a5; simpa [zeroN] using hh.symm
/-- It returns a node by value, whose rows are the call's own. -/
def RetNO (w : World) (x : Nd) (e : Ending) (w' : World) : Prop :=
  ∃ u v, e = .returned (.agg #[.int .i64 x.op, .int .i64 x.wish.kind, .int .i64 x.wish.field, .int .i64 x.wish.value, u, v]) ∧ OwnW w' w.heap.size 3 92 x.wish u v ∧ Below w.heap.size w w'
set_option maxHeartbeats 1600000 in
theorem toNode {A E : Option Addr} {n c m d : Nat} {x : Nd} (w : World) (h : Sl RI 1 w w.heap.size A n c x.wish.list) (g : Sl RP 2 w w.heap.size E m d x.wish.pairs) (ht : x.wish.list.length + x.wish.pairs.length ≤ 1048576) :
    Calls Try.prog 27 #[.agg #[.int .i64 x.op, .int .i64 x.wish.kind, .int .i64 x.wish.field, .int .i64 x.wish.value, .slice A n c, .slice E m d]] w (RetNO w x) := by
  have hb3 : ∀ o1 o2 o3, Below w.heap.size w (((w.alloc o1).alloc o2).alloc o3) := fun o1 o2 o3 => (((Below.refl _ _).alloc (Nat.le_refl _) _).alloc (by simp) _).alloc (by simp; omega) _
  go_enter Try.func27, Try.ntmps27
  go_wp2_with fail
  refine (toWish (x := x.wish) _ (h.on RI.keeps (hb3 _ _ _)) (g.on RP.keeps (hb3 _ _ _)) ht).mono ?_
  rintro e w1 ⟨v1, v2, rfl, ho, b1⟩
  obtain ⟨A1, c1, rfl, _, _⟩ := own_form ho.1
  obtain ⟨E1, d1, rfl, _, _⟩ := own_form ho.2.1
  have B0 := hb3 (.cells [Value.int .i64 x.op, .int .i64 x.wish.kind, .int .i64 x.wish.field, .int .i64 x.wish.value, .slice A n c, .slice E m d].toArray 49) (.cells [Value.int .i64 0, .int .i64 0, .int .i64 0, .int .i64 0, .slice none 0 0, .slice none 0 0].toArray 55) (.cells [Value.int .i64 x.op, .int .i64 0, .int .i64 0, .int .i64 0, .slice none 0 0, .slice none 0 0].toArray 55)
  have R1 := ((Row.new (w.alloc (.cells [Value.int .i64 x.op, .int .i64 x.wish.kind, .int .i64 x.wish.field, .int .i64 x.wish.value, .slice A n c, .slice E m d].toArray 49)) 55 [.int .i64 0, .int .i64 0, .int .i64 0, .int .i64 0, .slice none 0 0, .slice none 0 0]).alloc (.cells [Value.int .i64 x.op, .int .i64 0, .int .i64 0, .int .i64 0, .slice none 0 0, .slice none 0 0].toArray 55)).below b1 (by simp)
  have R2 := (Row.new ((w.alloc (.cells [Value.int .i64 x.op, .int .i64 x.wish.kind, .int .i64 x.wish.field, .int .i64 x.wish.value, .slice A n c, .slice E m d].toArray 49)).alloc (.cells [Value.int .i64 0, .int .i64 0, .int .i64 0, .int .i64 0, .slice none 0 0, .slice none 0 0].toArray 55)) 55 [.int .i64 x.op, .int .i64 0, .int .i64 0, .int .i64 0, .slice none 0 0, .slice none 0 0]).below b1 (by simp)
  have BB := Lib.hid (B0.trans (b1.mono B0.size))
  simp only [World.size_alloc] at R1 R2 ho
  have O := Lib.hid ho
  have z1 := R1.lt
  have z2 := R2.lt
  have c10 := R1.cell 0
  have f10 := R1.free 0
  have c20 := R2.cell 0
  have f20 := R2.free 0
  have c11 := R1.cell 1
  have f11 := R1.free 1
  have c21 := R2.cell 1
  have f21 := R2.free 1
  have c12 := R1.cell 2
  have f12 := R1.free 2
  have c22 := R2.cell 2
  have f22 := R2.free 2
  have c13 := R1.cell 3
  have f13 := R1.free 3
  have c23 := R2.cell 3
  have f23 := R2.free 3
  have c14 := R1.cell 4
  have f14 := R1.free 4
  have c24 := R2.cell 4
  have f24 := R2.free 4
  have c15 := R1.cell 5
  have f15 := R1.free 5
  have c25 := R2.cell 5
  have f25 := R2.free 5
  simp at c10 c20 c11 c21 c12 c22 c13 c23 c14 c24 c15 c25
  clear R1 R2 B0 b1 ho hb3 h g
  go_wp2
  refine bodyPost_ret (v := .agg #[.int .i64 x.op, .int .i64 x.wish.kind, .int .i64 x.wish.field, .int .i64 x.wish.value, .slice A1 x.wish.list.length c1, .slice E1 x.wish.pairs.length d1]) (by simp [results, Try.results27, go_sem, c10, c11, c12, c13, c14, c15]) rfl ?_
  refine ⟨_, _, rfl, OwnW.mono (lo := w.heap.size + 1 + 1 + 1) ?_ (by omega), ?_⟩
  · repeat (refine OwnW.far ?_ (by first | (simp; done) | (simp; omega)) _)
    exact O.out
  · repeat (refine Below.setCell ?_ (by first | (simp; done) | (simp; omega)) _)
    exact BB.out
/-- It returns a list of nodes that the call laid. -/
def RetNs (w : World) (l : List Nd) (e : Ending) (w' : World) : Prop := ∃ v, e = .returned v ∧ OwnN w' w.heap.size 55 3 92 v l ∧ Below w.heap.size w w'
set_option maxHeartbeats 1600000 in
theorem toNodeS {A : Option Addr} {n c : Nat} {l : List Nd} (w : World) (h : Sl RN 6 w w.heap.size A n c l) (ht : totN l ≤ 1048576) : Calls Try.prog 9 #[.slice A n c] w (RetNs w l) := by
  obtain ⟨i0, hi, hz0, hz1, hz2⟩ := info_parts info_node
  have hn : n ≤ 1048576 := by have := totN_eq l; have := h.len; omega
  have hmk : ∀ w : World, (Instr.makeSlice 25 (.int .i64 (n : Int)) (.int .i64 (n : Int))).run Try.prog w = .ok (.slice (some ⟨w.heap.size, 0, none⟩) n n) (w.alloc (.cells (ndc (List.replicate n zeroN)).toArray 55)) := fun w => by
    have := run_make (P := Try.prog) w 25 55 i0 _ Try.underlying25 hi hz0 .i64 .i64 n n (by omega) (by omega) (by rw [hz2]; omega) (by omega)
    rw [hz1] at this
    rw [← made_nodes]
    simpa [Value.cells] using this
  have hvl : ∀ k, valsN l k ≤ 1048576 := fun k => by have := valsN_le l k; have := totN_eq l; omega
  have HV := Lib.hid hvl
  have HL := Lib.hid h.len
  clear hvl
  go_enter Try.func9, Try.ntmps9
  go_wp2
  clear hmk
  go_loopw [4] (fun vi wr => ∃ (k : Nat) (ps : List NdC), k ≤ n ∧ vi = .int .i64 k ∧ Hid (ps.map (·.1) = l.take k) ∧ OwnNs wr (w.heap.size + 1) 3 92 ps ∧ Row wr w.heap.size 55 (ndc (ps ++ List.replicate (n - k) zeroN)) ∧ Below w.heap.size w wr)
    (fun vi _ => n - (intOf vi).toNat)
  case atStart => exact ⟨0, [], Nat.zero_le _, rfl, rfl, OwnNs.nil _ _ _ _, Row.new w _ _, (Below.refl _ _).alloc (Nat.le_refl _) _⟩
  case round =>
    obtain ⟨k, ps, hk, rfl, hmp, hrows, hrow, hbw⟩ := hrel
    by_cases hlt : k < n
    · obtain ⟨b, o, x, A1, n1, c1, E1, m1, d1, rfl, hb, hx, hf, hs, ht1, g0, g1, g2, g3, g4, g5⟩ := nodeAt h hlt
      have e0 := ((cell_of hbw) b (o + k * 6) hb).trans g0
      have e1 := ((cell_of hbw) b (o + k * 6 + 1) hb).trans g1
      have e2 := ((cell_of hbw) b (o + k * 6 + 2) hb).trans g2
      have e3 := ((cell_of hbw) b (o + k * 6 + 3) hb).trans g3
      have e4 := ((cell_of hbw) b (o + k * 6 + 4) hb).trans g4
      have e5 := ((cell_of hbw) b (o + k * 6 + 5) hb).trans g5
      have hn1 : x.wish.list.length + x.wish.pairs.length ≤ 1048576 := by have := valsN_succ hx; have := HV.out (k + 1); omega
      have HI := Lib.hid (hs.on RI.keeps hbw)
      have HP := Lib.hid (ht1.on RP.keeps hbw)
      have HX := Lib.hid hx
      clear g0 g1 g2 g3 g4 g5 hs ht1 hx h
      go_wp2_with fail
      refine (toNode (x := x) _ HI.out HP.out hn1).mono ?_
      rintro e w2 ⟨v1, v2, rfl, hown, hb2⟩
      have hpl : ps.length = k := by have h1 := congrArg List.length hmp.out; have h2 := HL.out; rw [List.length_map, List.length_take] at h1; omega
      have R2 := hrow.below hb2 hrow.lt
      have hat : (ps ++ List.replicate (n - k) zeroN)[k]? = some zeroN := by
        rw [List.getElem?_append_right (by omega), List.getElem?_replicate, if_pos (by omega)]
      obtain ⟨i0', i1', i2', i3', i4', i5'⟩ := ndc_at _ k _ hat
      have c0 := (R2.cell (k * 6)).trans i0'
      have c1' := (R2.cell (k * 6 + 1)).trans i1'
      have c2' := (R2.cell (k * 6 + 2)).trans i2'
      have c3' := (R2.cell (k * 6 + 3)).trans i3'
      have c4' := (R2.cell (k * 6 + 4)).trans i4'
      have c5' := (R2.cell (k * 6 + 5)).trans i5'
      have f0 := R2.free (k * 6)
      have f1 := R2.free (k * 6 + 1)
      have f2 := R2.free (k * 6 + 2)
      have f3 := R2.free (k * 6 + 3)
      have f4 := R2.free (k * 6 + 4)
      have f5 := R2.free (k * 6 + 5)
      have hlw := R2.lt
      have ROWS := Lib.hid (((((((hrows.snoc (p := (x, v1, v2)) hb2 hown (Nat.le_refl _) (by have := hrow.lt; omega)).far (a := ⟨w.heap.size, k * 6, none⟩) (by simp) (.int .i64 x.op)).far (a := ⟨w.heap.size, k * 6 + 1, none⟩) (by simp) (.int .i64 x.wish.kind)).far (a := ⟨w.heap.size, k * 6 + 2, none⟩) (by simp) (.int .i64 x.wish.field)).far (a := ⟨w.heap.size, k * 6 + 3, none⟩) (by simp) (.int .i64 x.wish.value)).far (a := ⟨w.heap.size, k * 6 + 4, none⟩) (by simp) v1).far (a := ⟨w.heap.size, k * 6 + 5, none⟩) (by simp) v2)
      have ROW : Hid (Row ((((((w2.setCell ⟨w.heap.size, k * 6, none⟩ (.int .i64 x.op)).setCell ⟨w.heap.size, k * 6 + 1, none⟩ (.int .i64 x.wish.kind)).setCell ⟨w.heap.size, k * 6 + 2, none⟩ (.int .i64 x.wish.field)).setCell ⟨w.heap.size, k * 6 + 3, none⟩ (.int .i64 x.wish.value)).setCell ⟨w.heap.size, k * 6 + 4, none⟩ v1).setCell ⟨w.heap.size, k * 6 + 5, none⟩ v2) w.heap.size 55 (ndc ((ps ++ [(x, v1, v2)]) ++ List.replicate (n - (k + 1)) zeroN))) := by
        have := (((((R2.set (k * 6) (.int .i64 x.op)).set (k * 6 + 1) (.int .i64 x.wish.kind)).set (k * 6 + 2) (.int .i64 x.wish.field)).set (k * 6 + 3) (.int .i64 x.wish.value)).set (k * 6 + 4) v1).set (k * 6 + 5) v2
        rw [ndc_set _ k (x, v1, v2)] at this
        rw [show n - k = (n - (k + 1)) + 1 by omega, ← hpl, set_at] at this
        rw [hpl] at this
        exact this
      have BEL := Lib.hid (((((((hbw.trans (hb2.mono hbw.size)).setCell (p := ⟨w.heap.size, k * 6, none⟩) (Nat.le_refl _) (.int .i64 x.op)).setCell (p := ⟨w.heap.size, k * 6 + 1, none⟩) (Nat.le_refl _) (.int .i64 x.wish.kind)).setCell (p := ⟨w.heap.size, k * 6 + 2, none⟩) (Nat.le_refl _) (.int .i64 x.wish.field)).setCell (p := ⟨w.heap.size, k * 6 + 3, none⟩) (Nat.le_refl _) (.int .i64 x.wish.value)).setCell (p := ⟨w.heap.size, k * 6 + 4, none⟩) (Nat.le_refl _) v1).setCell (p := ⟨w.heap.size, k * 6 + 5, none⟩) (Nat.le_refl _) v2)
      have HMP : Hid ((ps ++ [(x, v1, v2)]).map (·.1) = l.take (k + 1)) := by
        show _ = _
        obtain ⟨hl, e⟩ := List.getElem?_eq_some_iff.1 HX.out
        rw [List.map_append, hmp.out, List.take_succ_eq_append_getElem hl, e]
        rfl
      obtain ⟨A', c', rfl, _, _⟩ := own_form hown.1
      obtain ⟨A'', c'', rfl, _, _⟩ := own_form hown.2.1
      clear hrow hrows hbw hb2 hown R2 hat i0' i1' i2' i3' i4' i5' e0 e1 e2 e3 e4 e5 hpl
      go_wp2
      go_roundw
      case rel => exact ⟨k + 1, _, by omega, by go_num, HMP, ROWS.out, ROW.out, BEL.out⟩
      case measure => simp [intOf]; omega
    · have hkn : k = n := by omega
      have e : l.take k = l := List.take_of_length_le (by have := HL.out; omega)
      have hmp' := hmp.out
      rw [e] at hmp'
      rw [hkn, Nat.sub_self, List.replicate_zero, List.append_nil] at hrow
      have hps : ps.length = n := by have h1 := congrArg List.length hmp'; have := HL.out; rw [List.length_map] at h1; omega
      have HR : Hid (OwnN wr w.heap.size 55 3 92 (.slice (some ⟨w.heap.size, 0, none⟩) n n) l) := by
        refine ⟨ps, hmp', hrows.mono (by omega), ?_, fun u hu => ?_⟩
        · rw [HL.out]
          exact hrow.own (Nat.le_refl _) (by rw [ndc_len, hps]) (by unfold maxLen; omega)
        · cases hv : u.ownBlock with
          | none => exact .inl hv
          | some g =>
            refine .inr fun hh => ?_
            rw [hv] at hh
            have := (hrows.lt hu hv).1
            simp [Value.ownBlock] at hh
            omega
      clear hrow hrows h
      go_wp2
      go_ret
      exact ⟨_, rfl, HR.out, hbw⟩
theorem to_nodes {A : Option Addr} {n c : Nat} {l : List Nd} (w : World) (h : Sl RN 6 w w.heap.size A n c l) (ht : totN l ≤ 1048576) : Calls Try.prog 9 #[.slice A n c] w (RetSl RN 6 w l) :=
  (toNodeS w h ht).mono fun e w' ⟨v, he, ho, hb⟩ => by
    obtain ⟨A', n', c', rfl, hs⟩ := ho.read (fitNs h)
    exact ⟨A', n', c', he, hs, hb⟩
set_option maxHeartbeats 800000 in
theorem eq_node {A E A' E' : Option Addr} {n c m d n' c' m' d' : Nat} {x : Nd} (w : World) (h : Sl RI 1 w w.heap.size A n c x.wish.list) (g : Sl RP 2 w w.heap.size E m d x.wish.pairs) (h' : Sl RI 1 w w.heap.size A' n' c' x.wish.list) (g' : Sl RP 2 w w.heap.size E' m' d' x.wish.pairs) :
    Calls Try.prog 31 #[.agg #[.int .i64 x.op, .int .i64 x.wish.kind, .int .i64 x.wish.field, .int .i64 x.wish.value, .slice A n c, .slice E m d], .agg #[.int .i64 x.op, .int .i64 x.wish.kind, .int .i64 x.wish.field, .int .i64 x.wish.value, .slice A' n' c', .slice E' m' d']] w fun e w' => e = .returned (.bool true) ∧ Below w.heap.size w w' := by
  have B2 := ((Below.refl w.heap.size w).alloc (Nat.le_refl _) (.cells #[.int .i64 x.op, .int .i64 x.wish.kind, .int .i64 x.wish.field, .int .i64 x.wish.value, .slice A n c, .slice E m d] 55)).alloc (by simp) (.cells #[.int .i64 x.op, .int .i64 x.wish.kind, .int .i64 x.wish.field, .int .i64 x.wish.value, .slice A' n' c', .slice E' m' d'] 55)
  have H := Lib.hid (h.on RI.keeps B2)
  have H' := Lib.hid (h'.on RI.keeps B2)
  have G := Lib.hid (g.on RP.keeps B2)
  have G' := Lib.hid (g'.on RP.keeps B2)
  have q1 : (x.op != x.op) = false := by simp
  clear h h' g g'
  go_enter Try.func31, Try.ntmps31
  go_wp2_with (go_at_call 68; refine (eq_wish (x := x.wish) _ H.out G.out H'.out G'.out).mono ?_; rintro e w2 ⟨rfl, b2⟩)
  go_ret
  exact ⟨rfl, B2.trans (b2.mono B2.size)⟩
set_option maxHeartbeats 1600000 in
set_option maxRecDepth 100000 in
theorem eq_nodes {A A' : Option Addr} {n n' c c' : Nat} {l : List Nd} (w : World) (h : Sl RN 6 w w.heap.size A n c l) (h' : Sl RN 6 w w.heap.size A' n' c' l) :
    Calls Try.prog 11 #[.slice A n c, .slice A' n' c'] w fun e w' => e = .returned (.bool true) ∧ Below w.heap.size w w' := by
  obtain rfl : n = n' := h.len.symm.trans h'.len
  have mx1 := Nat.le_trans h.le h.max
  unfold maxLen at mx1
  have ht : ((n : Int) != (n : Int)) = false := by simp
  go_enter Try.func11, Try.ntmps11
  go_wp2
  go_loopw [5] (fun vi wr => ∃ k : Nat, k ≤ n ∧ vi = .int .i64 k ∧ Below w.heap.size w wr) (fun vi _ => n - (intOf vi).toNat)
  case atStart => exact ⟨0, Nat.zero_le _, rfl, Below.refl _ _⟩
  case round =>
    obtain ⟨k, hk, rfl, hbw⟩ := hrel
    by_cases hlt : k < n
    · obtain ⟨b, o, x, A1, n1, c1, E1, m1, d1, rfl, hb, hx, hf, hs, ht1, g0, g1, g2, g3, g4, g5⟩ := nodeAt h hlt
      obtain ⟨b', o', y, A2, n2, c2, E2, m2, d2, rfl, hb', hy, hf', hs', ht1', g0', g1', g2', g3', g4', g5'⟩ := nodeAt h' hlt
      obtain rfl : x = y := by rw [hx] at hy; injection hy
      have hsz := hbw.size
      have i1 : b < wr.heap.size := by omega
      have i2 : b' < wr.heap.size := by omega
      have e0 := ((cell_of hbw) b (o + k * 6) hb).trans g0
      have e1 := ((cell_of hbw) b (o + k * 6 + 1) hb).trans g1
      have e2 := ((cell_of hbw) b (o + k * 6 + 2) hb).trans g2
      have e3 := ((cell_of hbw) b (o + k * 6 + 3) hb).trans g3
      have e4 := ((cell_of hbw) b (o + k * 6 + 4) hb).trans g4
      have e5 := ((cell_of hbw) b (o + k * 6 + 5) hb).trans g5
      have e0' := ((cell_of hbw) b' (o' + k * 6) hb').trans g0'
      have e1' := ((cell_of hbw) b' (o' + k * 6 + 1) hb').trans g1'
      have e2' := ((cell_of hbw) b' (o' + k * 6 + 2) hb').trans g2'
      have e3' := ((cell_of hbw) b' (o' + k * 6 + 3) hb').trans g3'
      have e4' := ((cell_of hbw) b' (o' + k * 6 + 4) hb').trans g4'
      have e5' := ((cell_of hbw) b' (o' + k * 6 + 5) hb').trans g5'
      have HS := Lib.hid (hs.on RI.keeps hbw)
      have HS' := Lib.hid (hs'.on RI.keeps hbw)
      have HT := Lib.hid (ht1.on RP.keeps hbw)
      have HT' := Lib.hid (ht1'.on RP.keeps hbw)
      have HB := Lib.hid hbw
      have q1 : (k : Int) < (n : Int) := by omega
      clear hx hy h h' hbw hs hs' ht1 ht1' g0 g1 g2 g3 g4 g5 g0' g1' g2' g3' g4' g5'
      go_wp2_with fail
      refine wp_region_qb (by kernel_rfl) (by kernel_rfl) ?_; (repeat (go_big_quiet_step ((go_at_call 31; exact quietB (eq_node _ (HS.out.gr RI.keeps _ _) (HT.out.gr RP.keeps _ _) (HS'.out.gr RI.keeps _ _) (HT'.out.gr RP.keeps _ _)))))); refine wpQuiet_nil ?_; intro w8 hb8
      go_wp2
      go_roundw
      case rel => exact ⟨k + 1, by omega, by go_num, HB.out.trans (hb8.mono hsz)⟩
      case measure => simp [intOf]; omega
    · clear h h'
      go_wp2
      go_ret
      exact ⟨rfl, hbw⟩
end Go.Proofs.Ytgjghpaenliliaa.Wk

namespace Go.Proofs.Ytgjghpaenliliaa.P
open Go.Proofs.Ytgjghpaenliliaa.M

deriving instance DecidableEq for Wi
deriving instance DecidableEq for Nd
theorem noW_eq (w : Wi) : noW w = decide (w = ⟨0, 0, 0, [], []⟩) := by
  obtain ⟨a, b, c, d, e⟩ := w
  unfold noW
  simp
theorem depth_app (l m : List Nd) : ∀ d, depth (l ++ m) d = (depth l d).bind fun d' => depth m d' := by
  induction l with
  | nil => intro d; rfl
  | cons n t ih =>
    intro d
    simp only [List.cons_append, depth]
    split
    · exact ih _
    · rfl
/-- The stack behind the first k nodes is d deep. -/
def Dep (l : List Nd) (k d : Nat) : Prop := depth (l.take k) 0 = some d
theorem dep_zero (l : List Nd) : Dep l 0 0 := rfl
theorem split_at {α : Type} {l : List α} {k : Nat} {x : α} (hx : l[k]? = some x) : l = l.take k ++ x :: l.drop (k + 1) := by
  obtain ⟨hl, e⟩ := List.getElem?_eq_some_iff.1 hx
  have h1 := (List.take_append_drop k l).symm
  rw [List.drop_eq_getElem_cons hl, e] at h1
  exact h1
theorem dep_step {l : List Nd} {k d : Nat} {x : Nd} (h : Dep l k d) (hx : l[k]? = some x) (h1 : okN x = true) (h2 : opnds x.op ≤ d) : Dep l (k + 1) (d + 1 - opnds x.op) := by
  obtain ⟨hl, e⟩ := List.getElem?_eq_some_iff.1 hx
  unfold Dep at *
  rw [List.take_succ_eq_append_getElem hl, e, depth_app, h]
  simp [depth, h1, h2]
theorem dep_bad {l : List Nd} {k d : Nat} {x : Nd} (h : Dep l k d) (hx : l[k]? = some x) (h1 : okN x = false ∨ d < opnds x.op) : okE l = false := by
  unfold Dep at h
  have e : depth l 0 = none := by
    rw [split_at hx, depth_app, h]
    simp only [Option.bind_some, depth]
    rcases h1 with h1 | h1
    · rw [h1]; rfl
    · rw [if_neg]
      simp; intro _; omega
  unfold okE
  rw [e]; rfl
theorem dep_end {l : List Nd} {k d n : Nat} (h : Dep l k d) (hn : l.length = n) (hk : k = n) : okE l = (decide ((d : Int) = 1) && decide ((n : Int) ≤ 9)) := by
  unfold Dep at h
  rw [List.take_of_length_le (by omega)] at h
  unfold okE
  rw [h, hn]
  congr 1
  · apply decide_eq_decide.2
    simp; omega
  · apply decide_eq_decide.2; omega
theorem dep_le {l : List Nd} : ∀ {k d : Nat}, Dep l k d → d ≤ k := by
  have key : ∀ (m : List Nd) (a b : Nat), depth m a = some b → b ≤ a + m.length := by
    intro m
    induction m with
    | nil => intro a b h; simp [depth] at h; simp; omega
    | cons n t ih =>
      intro a b h
      simp only [depth] at h
      split at h
      · have := ih _ _ h; simp; omega
      · cases h
  intro k d h
  have h2 := key _ _ _ h
  have := List.length_take_le k l
  omega
theorem opnds_0 : opnds 0 = 0 := rfl
theorem opnds_1 : opnds 1 = 2 := rfl
theorem opnds_2 : opnds 2 = 2 := rfl
theorem opnds_3 : opnds 3 = 1 := rfl
theorem opnds_4 : opnds 4 = 2 := rfl
theorem okN_op {x : Nd} (h : inR x.op 0 4 = false) : okN x = false := by unfold okN; rw [h]; rfl
theorem okN_0 {x : Nd} (h : x.op = 0) : okN x = okW x.wish := by unfold okN; rw [h, if_pos rfl]; rfl
theorem okN_1 {x : Nd} (h : inR x.op 0 4 = true) (h' : x.op ≠ 0) : okN x = noW x.wish := by unfold okN; rw [h, if_neg h']; rfl
theorem okE_len {l : List Nd} (h : okE l = true) : l.length ≤ 9 ∧ depth l 0 = some 1 := by
  unfold okE at h
  simp only [Bool.and_eq_true, decide_eq_true_eq] at h
  exact ⟨h.2, h.1⟩
/-- Of a valid expression, each node is valid, and finds its operands. -/
theorem okE_at {l : List Nd} (h : okE l = true) {k : Nat} {x : Nd} (hx : l[k]? = some x) : okN x = true ∧ ∃ d, Dep l k d ∧ opnds x.op ≤ d := by
  obtain ⟨_, hd⟩ := okE_len h
  rw [split_at hx, depth_app] at hd
  cases hp : depth (l.take k) 0 with
  | none => rw [hp] at hd; cases hd
  | some d =>
    rw [hp] at hd
    simp only [Option.bind_some, depth] at hd
    split at hd
    · rename_i hc
      simp only [Bool.and_eq_true, decide_eq_true_eq] at hc
      exact ⟨hc.1, d, hp, hc.2⟩
    · cases hd
end Go.Proofs.Ytgjghpaenliliaa.P

namespace Go.Proofs.Ytgjghpaenliliaa.Wk
open Go.RowKit Go.Proofs.Ytgjghpaenliliaa.M
set_option linter.unusedVariables false
attribute [local go_sem] cell_grow

theorem wi_eq (x y : Wi) : decide (x = y) = (decide (x.kind = y.kind) && decide (x.field = y.field) && decide (x.value = y.value) && decide (x.list = y.list) && decide (x.pairs = y.pairs)) := by
  obtain ⟨a, b, c, d, e⟩ := x
  obtain ⟨a', b', c', d', e'⟩ := y
  simp [Wi.mk.injEq, Bool.decide_and, Bool.and_assoc]
theorem nd_eq (x y : Nd) : decide (x = y) = (decide (x.op = y.op) && decide (x.wish = y.wish)) := by
  obtain ⟨a, b⟩ := x
  obtain ⟨c, d⟩ := y
  simp [Nd.mk.injEq, Bool.decide_and]
set_option maxHeartbeats 1600000 in
set_option maxRecDepth 100000 in
theorem l5SamePairs {A A' : Option Addr} {n n' c c' : Nat} {xs ys : List (Int × Int)} (w : World) (h : Sl RP 2 w w.heap.size A n c xs) (h' : Sl RP 2 w w.heap.size A' n' c' ys) :
    Calls Try.prog 112 #[.slice A n c, .slice A' n' c'] w fun e w' => e = .returned (.bool (decide (xs = ys))) ∧ Below w.heap.size w w' := by
  have m1 := Nat.le_trans h.le h.max
  have m2 := Nat.le_trans h'.le h'.max
  unfold maxLen at m1 m2
  have HL := Lib.hid h.len
  have HL' := Lib.hid h'.len
  by_cases hne : n = n'
  · have HN := Lib.hid hne
    have ht : ((n : Int) != (n' : Int)) = false := by simp [hne]
    clear hne
    go_enter Try.func112, Try.ntmps112
    go_wp2
    go_loopw [5] (fun vk wr => ∃ k : Nat, k ≤ n ∧ vk = .int .i64 k ∧ Hid (P.Agree xs ys k) ∧ Below w.heap.size w wr) (fun vk _ => n - (intOf vk).toNat)
    case atStart => exact ⟨0, Nat.zero_le _, rfl, rfl, Below.refl _ _⟩
    case round =>
      obtain ⟨k, hk, rfl, hup, hbw⟩ := hrel
      by_cases hlt : k < n
      · have hlt' : k < n' := by have := HN.out; omega
        obtain ⟨b, o, x, rfl, hb, hx, hf1, hf2, hc0, hc1⟩ := pairAt h hlt
        obtain ⟨b', o', y, rfl, hb', hy, hf1', hf2', hd0, hd1⟩ := pairAt h' hlt'
        have hsz := hbw.size
        have g1 : b < wr.heap.size := by omega
        have g2 : b' < wr.heap.size := by omega
        have e1 := ((cell_of hbw) b (o + k * 2) hb).trans hc0
        have e2 := ((cell_of hbw) b (o + k * 2 + 1) hb).trans hc1
        have e3 := ((cell_of hbw) b' (o' + k * 2) hb').trans hd0
        have e4 := ((cell_of hbw) b' (o' + k * 2 + 1) hb').trans hd1
        have q1 : (k : Int) < (n : Int) := by omega
        have q2 : (k : Int) < (n' : Int) := by omega
        have HX := Lib.hid hx
        have HY := Lib.hid hy
        clear hx hy h h' hc0 hc1 hd0 hd1
        by_cases hxy : x = y
        · have q : (x.1 != y.1) = false := by simp [hxy]
          have q' : (x.2 != y.2) = false := by simp [hxy]
          have q3 : (x.1 == y.1) = true := by simp [hxy]
          have q4 : (x.2 == y.2) = true := by simp [hxy]
          have HE := Lib.hid (P.agree_step hup.out HX.out (hxy ▸ HY.out))
          clear hxy
          go_wp2_with fail
          refine wp_region_qb (by kernel_rfl) (by kernel_rfl) ?_; (repeat (go_big_quiet_step ((fail)))); refine wpQuiet_nil ?_; intro w8 hb8
          go_wp2
          go_roundw
          case rel => exact ⟨k + 1, by omega, by go_num, HE, hbw.trans (hb8.mono hsz)⟩
          case measure => simp [intOf]; omega
        · have HE : Hid (decide (xs = ys) = false) := by
            show _ = _
            rw [decide_eq_false_iff_not]; exact P.agree_no HX.out HY.out hxy
          by_cases h1 : x.1 = y.1
          · have h2 : x.2 ≠ y.2 := fun h2 => hxy (Prod.ext h1 h2)
            have q : (x.1 != y.1) = false := by simpa using h1
            have q' : (x.2 != y.2) = true := by simpa using h2
            have q3 : (x.1 == y.1) = true := by simpa using h1
            have q4 : (x.2 == y.2) = false := by simpa using h2
            clear hxy h1 h2
            go_wp2_with fail
            refine wp_region_qb (by kernel_rfl) (by kernel_rfl) ?_; (repeat (go_big_quiet_step ((fail)))); refine wpQuiet_nil ?_; intro w8 hb8
            go_wp2
            go_ret
            exact ⟨ret_bool HE.out.symm, hbw.trans (hb8.mono hsz)⟩
          · have q : (x.1 != y.1) = true := by simpa using h1
            have q3 : (x.1 == y.1) = false := by simpa using h1
            clear hxy h1
            go_wp2_with fail
            refine wp_region_qb (by kernel_rfl) (by kernel_rfl) ?_; (repeat (go_big_quiet_step ((fail)))); refine wpQuiet_nil ?_; intro w8 hb8
            go_wp2
            go_ret
            exact ⟨ret_bool HE.out.symm, hbw.trans (hb8.mono hsz)⟩
      · have HE : Hid (decide (xs = ys) = true) := by
          show _ = _
          rw [decide_eq_true_iff]
          exact P.agree_all hup.out HL.out (by rw [HL'.out]; exact HN.out.symm) (by omega)
        clear h h'
        go_wp2
        go_ret
        exact ⟨ret_bool HE.out.symm, hbw⟩
  · have ht : ((n : Int) != (n' : Int)) = true := by simp; omega
    have HE : Hid (decide (xs = ys) = false) := by
      show _ = _
      rw [decide_eq_false_iff_not]
      rintro rfl
      exact hne (HL.out.symm.trans HL'.out)
    clear hne h h'
    go_enter Try.func112, Try.ntmps112
    go_wp2
    go_ret
    exact ⟨ret_bool HE.out.symm, Below.refl _ _⟩
set_option maxHeartbeats 1600000 in
set_option maxRecDepth 100000 in
theorem equalPairs {A A' : Option Addr} {n n' c c' : Nat} {xs ys : List (Int × Int)} (w : World) (h : Sl RP 2 w w.heap.size A n c xs) (h' : Sl RP 2 w w.heap.size A' n' c' ys) :
    Calls Try.prog 91 #[.slice A n c, .slice A' n' c'] w fun e w' => e = .returned (.bool (decide (xs = ys))) ∧ Below w.heap.size w w' := by
  have m1 := Nat.le_trans h.le h.max
  have m2 := Nat.le_trans h'.le h'.max
  unfold maxLen at m1 m2
  have HL := Lib.hid h.len
  have HL' := Lib.hid h'.len
  by_cases hne : n = n'
  · have HN := Lib.hid hne
    have ht : ((n : Int) != (n' : Int)) = false := by simp [hne]
    clear hne
    go_enter Try.func91, Try.ntmps91
    go_wp2
    go_loopw [5, 13] (fun vi vk wr => ∃ k : Nat, k ≤ n ∧ vk = .int .i64 k ∧ Hid (P.Agree xs ys k) ∧ Below w.heap.size w wr) (fun vi vk _ => n - (intOf vk).toNat)
    case atStart => exact ⟨0, Nat.zero_le _, rfl, rfl, Below.refl _ _⟩
    case round =>
      obtain ⟨k, hk, rfl, hup, hbw⟩ := hrel
      by_cases hlt : k < n
      · have hlt' : k < n' := by have := HN.out; omega
        obtain ⟨b, o, x, rfl, hb, hx, hf1, hf2, hc0, hc1⟩ := pairAt h hlt
        obtain ⟨b', o', y, rfl, hb', hy, hf1', hf2', hd0, hd1⟩ := pairAt h' hlt'
        have hsz := hbw.size
        have g1 : b < wr.heap.size := by omega
        have g2 : b' < wr.heap.size := by omega
        have e1 := ((cell_of hbw) b (o + k * 2) hb).trans hc0
        have e2 := ((cell_of hbw) b (o + k * 2 + 1) hb).trans hc1
        have e3 := ((cell_of hbw) b' (o' + k * 2) hb').trans hd0
        have e4 := ((cell_of hbw) b' (o' + k * 2 + 1) hb').trans hd1
        have q1 : (k : Int) < (n : Int) := by omega
        have q2 : (k : Int) < (n' : Int) := by omega
        have HX := Lib.hid hx
        have HY := Lib.hid hy
        clear hx hy h h' hc0 hc1 hd0 hd1
        by_cases hxy : x = y
        · have q : (x.1 != y.1) = false := by simp [hxy]
          have q' : (x.2 != y.2) = false := by simp [hxy]
          have q3 : (x.1 == y.1) = true := by simp [hxy]
          have q4 : (x.2 == y.2) = true := by simp [hxy]
          have HE := Lib.hid (P.agree_step hup.out HX.out (hxy ▸ HY.out))
          clear hxy
          go_wp2_with fail
          refine wp_region_qb (by kernel_rfl) (by kernel_rfl) ?_; (repeat (go_big_quiet_step ((fail)))); refine wpQuiet_nil ?_; intro w8 hb8
          go_wp2
          go_roundw
          case rel => exact ⟨k + 1, by omega, by go_num, HE, hbw.trans (hb8.mono hsz)⟩
          case measure => simp [intOf]; omega
        · have HE : Hid (decide (xs = ys) = false) := by
            show _ = _
            rw [decide_eq_false_iff_not]; exact P.agree_no HX.out HY.out hxy
          by_cases h1 : x.1 = y.1
          · have h2 : x.2 ≠ y.2 := fun h2 => hxy (Prod.ext h1 h2)
            have q : (x.1 != y.1) = false := by simpa using h1
            have q' : (x.2 != y.2) = true := by simpa using h2
            have q3 : (x.1 == y.1) = true := by simpa using h1
            have q4 : (x.2 == y.2) = false := by simpa using h2
            clear hxy h1 h2
            go_wp2_with fail
            refine wp_region_qb (by kernel_rfl) (by kernel_rfl) ?_; (repeat (go_big_quiet_step ((fail)))); refine wpQuiet_nil ?_; intro w8 hb8
            go_wp2
            go_ret
            exact ⟨ret_bool HE.out.symm, hbw.trans (hb8.mono hsz)⟩
          · have q : (x.1 != y.1) = true := by simpa using h1
            have q3 : (x.1 == y.1) = false := by simpa using h1
            clear hxy h1
            go_wp2_with fail
            refine wp_region_qb (by kernel_rfl) (by kernel_rfl) ?_; (repeat (go_big_quiet_step ((fail)))); refine wpQuiet_nil ?_; intro w8 hb8
            go_wp2
            go_ret
            exact ⟨ret_bool HE.out.symm, hbw.trans (hb8.mono hsz)⟩
      · have HE : Hid (decide (xs = ys) = true) := by
          show _ = _
          rw [decide_eq_true_iff]
          exact P.agree_all hup.out HL.out (by rw [HL'.out]; exact HN.out.symm) (by omega)
        clear h h'
        go_wp2
        go_ret
        exact ⟨ret_bool HE.out.symm, hbw⟩
  · have ht : ((n : Int) != (n' : Int)) = true := by simp; omega
    have HE : Hid (decide (xs = ys) = false) := by
      show _ = _
      rw [decide_eq_false_iff_not]
      rintro rfl
      exact hne (HL.out.symm.trans HL'.out)
    clear hne h h'
    go_enter Try.func91, Try.ntmps91
    go_wp2
    go_ret
    exact ⟨ret_bool HE.out.symm, Below.refl _ _⟩
set_option maxHeartbeats 1600000 in
set_option maxRecDepth 100000 in
theorem l5SameWish {A E A' E' : Option Addr} {n c m d n' c' m' d' : Nat} {x y : Wi} (w : World) (h : Sl RI 1 w w.heap.size A n c x.list) (g : Sl RP 2 w w.heap.size E m d x.pairs) (h' : Sl RI 1 w w.heap.size A' n' c' y.list) (g' : Sl RP 2 w w.heap.size E' m' d' y.pairs) :
    Calls Try.prog 98 #[.agg #[.int .i64 x.kind, .int .i64 x.field, .int .i64 x.value, .slice A n c, .slice E m d], .agg #[.int .i64 y.kind, .int .i64 y.field, .int .i64 y.value, .slice A' n' c', .slice E' m' d']] w fun e w' => e = .returned (.bool (decide (x = y))) ∧ Below w.heap.size w w' := by
  have B2 := ((Below.refl w.heap.size w).alloc (Nat.le_refl _) (.cells #[.int .i64 x.kind, .int .i64 x.field, .int .i64 x.value, .slice A n c, .slice E m d] 53)).alloc (by simp) (.cells #[.int .i64 y.kind, .int .i64 y.field, .int .i64 y.value, .slice A' n' c', .slice E' m' d'] 53)
  have H := Lib.hid (h.on RI.keeps B2)
  have H' := Lib.hid (h'.on RI.keeps B2)
  have G := Lib.hid (g.on RP.keeps B2)
  have G' := Lib.hid (g'.on RP.keeps B2)
  clear h h' g g'
  by_cases h0 : x.kind = y.kind
  · have q0 : (x.kind == y.kind) = true := by simpa using h0
    by_cases h1 : x.field = y.field
    · have q1 : (x.field == y.field) = true := by simpa using h1
      by_cases h2 : x.value = y.value
      · have q2 : (x.value == y.value) = true := by simpa using h2
        cases hl : decide (x.list = y.list) with
        | false =>
          have HE : Hid (decide (x = y) = false) := by show _ = _; rw [wi_eq, hl]; simp
          clear h0 h1 h2
          go_enter Try.func98, Try.ntmps98
          go_wp2_with (go_at_call 111; refine (l2Ints _ H.out H'.out).mono ?_; rintro e w2 ⟨rfl, b2⟩; rw [hl])
          go_ret
          exact ⟨ret_bool HE.out.symm, B2.trans (b2.mono B2.size)⟩
        | true =>
          have HE : Hid (decide (x = y) = decide (x.pairs = y.pairs)) := by show _ = _; rw [wi_eq, hl]; simp [h0, h1, h2]
          clear h0 h1 h2
          go_enter Try.func98, Try.ntmps98
          go_wp2_with fail
          refine (l2Ints _ H.out H'.out).mono ?_
          rintro e w2 ⟨rfl, b2⟩
          rw [hl]
          have K := G.out.on RP.keeps b2
          have K' := G'.out.on RP.keeps b2
          have hC := cell_of b2
          have z1 : w.heap.size < w2.heap.size := by have := b2.size; simp at this; omega
          have z2 : w.heap.size + 1 < w2.heap.size := by have := b2.size; simp at this; omega
          go_wp2_with fail
          refine (l5SamePairs _ K K').mono ?_
          rintro e w3 ⟨rfl, b3⟩
          have B3 := (B2.trans (b2.mono B2.size)).trans (b3.mono (B2.trans (b2.mono B2.size)).size)
          clear K K' hC b2 b3 B2
          go_wp2_with fail
          go_ret
          exact ⟨ret_bool HE.out.symm, B3⟩
      · have q2 : (x.value == y.value) = false := by simpa using h2
        have HE : Hid (decide (x = y) = false) := by show _ = _; rw [wi_eq]; simp [h2]
        clear h0 h1 h2
        go_enter Try.func98, Try.ntmps98
        go_wp2_with fail
        go_ret
        exact ⟨ret_bool HE.out.symm, B2⟩
    · have q1 : (x.field == y.field) = false := by simpa using h1
      have HE : Hid (decide (x = y) = false) := by show _ = _; rw [wi_eq]; simp [h1]
      clear h0 h1
      go_enter Try.func98, Try.ntmps98
      go_wp2_with fail
      go_ret
      exact ⟨ret_bool HE.out.symm, B2⟩
  · have q0 : (x.kind == y.kind) = false := by simpa using h0
    have HE : Hid (decide (x = y) = false) := by show _ = _; rw [wi_eq]; simp [h0]
    clear h0
    go_enter Try.func98, Try.ntmps98
    go_wp2_with fail
    go_ret
    exact ⟨ret_bool HE.out.symm, B2⟩
set_option maxHeartbeats 1600000 in
set_option maxRecDepth 100000 in
theorem equalWish {A E A' E' : Option Addr} {n c m d n' c' m' d' : Nat} {x y : Wi} (w : World) (h : Sl RI 1 w w.heap.size A n c x.list) (g : Sl RP 2 w w.heap.size E m d x.pairs) (h' : Sl RI 1 w w.heap.size A' n' c' y.list) (g' : Sl RP 2 w w.heap.size E' m' d' y.pairs) :
    Calls Try.prog 64 #[.agg #[.int .i64 x.kind, .int .i64 x.field, .int .i64 x.value, .slice A n c, .slice E m d], .agg #[.int .i64 y.kind, .int .i64 y.field, .int .i64 y.value, .slice A' n' c', .slice E' m' d']] w fun e w' => e = .returned (.bool (decide (x = y))) ∧ Below w.heap.size w w' := by
  have B2 := ((Below.refl w.heap.size w).alloc (Nat.le_refl _) (.cells #[.int .i64 x.kind, .int .i64 x.field, .int .i64 x.value, .slice A n c, .slice E m d] 53)).alloc (by simp) (.cells #[.int .i64 y.kind, .int .i64 y.field, .int .i64 y.value, .slice A' n' c', .slice E' m' d'] 53)
  have H := Lib.hid (h.on RI.keeps B2)
  have H' := Lib.hid (h'.on RI.keeps B2)
  have G := Lib.hid (g.on RP.keeps B2)
  have G' := Lib.hid (g'.on RP.keeps B2)
  clear h h' g g'
  by_cases h0 : x.kind = y.kind
  · have q0 : (x.kind == y.kind) = true := by simpa using h0
    by_cases h1 : x.field = y.field
    · have q1 : (x.field == y.field) = true := by simpa using h1
      by_cases h2 : x.value = y.value
      · have q2 : (x.value == y.value) = true := by simpa using h2
        cases hl : decide (x.list = y.list) with
        | false =>
          have HE : Hid (decide (x = y) = false) := by show _ = _; rw [wi_eq, hl]; simp
          clear h0 h1 h2
          go_enter Try.func64, Try.ntmps64
          go_wp2_with (go_at_call 90; refine (equalInts _ H.out H'.out).mono ?_; rintro e w2 ⟨rfl, b2⟩; rw [hl])
          go_ret
          exact ⟨ret_bool HE.out.symm, B2.trans (b2.mono B2.size)⟩
        | true =>
          have HE : Hid (decide (x = y) = decide (x.pairs = y.pairs)) := by show _ = _; rw [wi_eq, hl]; simp [h0, h1, h2]
          clear h0 h1 h2
          go_enter Try.func64, Try.ntmps64
          go_wp2_with fail
          refine (equalInts _ H.out H'.out).mono ?_
          rintro e w2 ⟨rfl, b2⟩
          rw [hl]
          have K := G.out.on RP.keeps b2
          have K' := G'.out.on RP.keeps b2
          have hC := cell_of b2
          have z1 : w.heap.size < w2.heap.size := by have := b2.size; simp at this; omega
          have z2 : w.heap.size + 1 < w2.heap.size := by have := b2.size; simp at this; omega
          go_wp2_with fail
          refine (equalPairs _ K K').mono ?_
          rintro e w3 ⟨rfl, b3⟩
          have B3 := (B2.trans (b2.mono B2.size)).trans (b3.mono (B2.trans (b2.mono B2.size)).size)
          clear K K' hC b2 b3 B2
          go_wp2_with fail
          go_ret
          exact ⟨ret_bool HE.out.symm, B3⟩
      · have q2 : (x.value == y.value) = false := by simpa using h2
        have HE : Hid (decide (x = y) = false) := by show _ = _; rw [wi_eq]; simp [h2]
        clear h0 h1 h2
        go_enter Try.func64, Try.ntmps64
        go_wp2_with fail
        go_ret
        exact ⟨ret_bool HE.out.symm, B2⟩
    · have q1 : (x.field == y.field) = false := by simpa using h1
      have HE : Hid (decide (x = y) = false) := by show _ = _; rw [wi_eq]; simp [h1]
      clear h0 h1
      go_enter Try.func64, Try.ntmps64
      go_wp2_with fail
      go_ret
      exact ⟨ret_bool HE.out.symm, B2⟩
  · have q0 : (x.kind == y.kind) = false := by simpa using h0
    have HE : Hid (decide (x = y) = false) := by show _ = _; rw [wi_eq]; simp [h0]
    clear h0
    go_enter Try.func64, Try.ntmps64
    go_wp2_with fail
    go_ret
    exact ⟨ret_bool HE.out.symm, B2⟩
set_option maxHeartbeats 1600000 in
set_option maxRecDepth 100000 in
theorem equalNode {A E A' E' : Option Addr} {n c m d n' c' m' d' : Nat} {x y : Nd} (w : World) (h : Sl RI 1 w w.heap.size A n c x.wish.list) (g : Sl RP 2 w w.heap.size E m d x.wish.pairs) (h' : Sl RI 1 w w.heap.size A' n' c' y.wish.list) (g' : Sl RP 2 w w.heap.size E' m' d' y.wish.pairs) :
    Calls Try.prog 101 #[.agg #[.int .i64 x.op, .int .i64 x.wish.kind, .int .i64 x.wish.field, .int .i64 x.wish.value, .slice A n c, .slice E m d], .agg #[.int .i64 y.op, .int .i64 y.wish.kind, .int .i64 y.wish.field, .int .i64 y.wish.value, .slice A' n' c', .slice E' m' d']] w fun e w' => e = .returned (.bool (decide (x = y))) ∧ Below w.heap.size w w' := by
  have B2 := ((Below.refl w.heap.size w).alloc (Nat.le_refl _) (.cells #[.int .i64 x.op, .int .i64 x.wish.kind, .int .i64 x.wish.field, .int .i64 x.wish.value, .slice A n c, .slice E m d] 55)).alloc (by simp) (.cells #[.int .i64 y.op, .int .i64 y.wish.kind, .int .i64 y.wish.field, .int .i64 y.wish.value, .slice A' n' c', .slice E' m' d'] 55)
  have H := Lib.hid (h.on RI.keeps B2)
  have H' := Lib.hid (h'.on RI.keeps B2)
  have G := Lib.hid (g.on RP.keeps B2)
  have G' := Lib.hid (g'.on RP.keeps B2)
  clear h h' g g'
  by_cases h0 : x.op = y.op
  · have q0 : (x.op == y.op) = true := by simpa using h0
    have HE : Hid (decide (x = y) = decide (x.wish = y.wish)) := by show _ = _; rw [nd_eq]; simp [h0]
    clear h0
    go_enter Try.func101, Try.ntmps101
    go_wp2_with (go_at_call 64; refine (equalWish _ H.out G.out H'.out G'.out).mono ?_; rintro e w2 ⟨rfl, b2⟩)
    go_ret
    exact ⟨ret_bool HE.out.symm, B2.trans (b2.mono B2.size)⟩
  · have q0 : (x.op == y.op) = false := by simpa using h0
    have HE : Hid (decide (x = y) = false) := by show _ = _; rw [nd_eq]; simp [h0]
    clear h0
    go_enter Try.func101, Try.ntmps101
    go_wp2_with fail
    go_ret
    exact ⟨ret_bool HE.out.symm, B2⟩
set_option maxHeartbeats 1600000 in
set_option maxRecDepth 100000 in
theorem specEqualExpressions {A A' : Option Addr} {n n' c c' : Nat} {xs ys : List Nd} (w : World) (h : Sl RN 6 w w.heap.size A n c xs) (h' : Sl RN 6 w w.heap.size A' n' c' ys) :
    Calls Try.prog 78 #[.slice A n c, .slice A' n' c'] w fun e w' => e = .returned (.bool (decide (xs = ys))) ∧ Below w.heap.size w w' := by
  have mx1 := Nat.le_trans h.le h.max
  have mx2 := Nat.le_trans h'.le h'.max
  unfold maxLen at mx1 mx2
  have HL := Lib.hid h.len
  have HL' := Lib.hid h'.len
  by_cases hne : n = n'
  · have HN := Lib.hid hne
    have ht : ((n : Int) != (n' : Int)) = false := by simp [hne]
    clear hne
    go_enter Try.func78, Try.ntmps78
    go_wp2
    go_loopw [5] (fun vk wr => ∃ k : Nat, k ≤ n ∧ vk = .int .i64 k ∧ Hid (P.Agree xs ys k) ∧ Below w.heap.size w wr) (fun vk _ => n - (intOf vk).toNat)
    case atStart => exact ⟨0, Nat.zero_le _, rfl, rfl, Below.refl _ _⟩
    case round =>
      obtain ⟨k, hk, rfl, hup, hbw⟩ := hrel
      by_cases hlt : k < n
      · have hlt' : k < n' := by have := HN.out; omega
        obtain ⟨b, o, x, A1, n1, c1, E1, m1, d1, rfl, hb, hx, hf, hs, ht1, g0, g1, g2, g3, g4, g5⟩ := nodeAt h hlt
        obtain ⟨b', o', y, A2, n2, c2, E2, m2, d2, rfl, hb', hy, hf', hs', ht1', g0', g1', g2', g3', g4', g5'⟩ := nodeAt h' hlt'
        have hsz := hbw.size
        have i1 : b < wr.heap.size := by omega
        have i2 : b' < wr.heap.size := by omega
        have i3 : b < wr.heap.size + 1 := by omega
        have i4 : b' < wr.heap.size + 1 := by omega
        have e0 := ((cell_of hbw) b (o + k * 6) hb).trans g0
        have e1 := ((cell_of hbw) b (o + k * 6 + 1) hb).trans g1
        have e2 := ((cell_of hbw) b (o + k * 6 + 2) hb).trans g2
        have e3 := ((cell_of hbw) b (o + k * 6 + 3) hb).trans g3
        have e4 := ((cell_of hbw) b (o + k * 6 + 4) hb).trans g4
        have e5 := ((cell_of hbw) b (o + k * 6 + 5) hb).trans g5
        have e0' := ((cell_of hbw) b' (o' + k * 6) hb').trans g0'
        have e1' := ((cell_of hbw) b' (o' + k * 6 + 1) hb').trans g1'
        have e2' := ((cell_of hbw) b' (o' + k * 6 + 2) hb').trans g2'
        have e3' := ((cell_of hbw) b' (o' + k * 6 + 3) hb').trans g3'
        have e4' := ((cell_of hbw) b' (o' + k * 6 + 4) hb').trans g4'
        have e5' := ((cell_of hbw) b' (o' + k * 6 + 5) hb').trans g5'
        have q1 : (k : Int) < (n : Int) := by omega
        have q2 : (k : Int) < (n' : Int) := by omega
        have HX := Lib.hid hx
        have HY := Lib.hid hy
        have HS := Lib.hid (hs.on RI.keeps hbw)
        have HS' := Lib.hid (hs'.on RI.keeps hbw)
        have HT := Lib.hid (ht1.on RP.keeps hbw)
        have HT' := Lib.hid (ht1'.on RP.keeps hbw)
        have HBW := Lib.hid hbw
        have f0 : o + k * 6 + 1 + 1 = o + k * 6 + 2 := rfl
        clear hx hy h h' hbw hs hs' ht1 ht1' g0 g1 g2 g3 g4 g5 g0' g1' g2' g3' g4' g5' f0
        by_cases hop : x.op = y.op
        · have q : (x.op != y.op) = false := by simpa using hop
          cases hv : decide (x.wish = y.wish) with
          | true =>
            have hxy : x = y := by
              have := nd_eq x y
              rw [hv] at this
              simpa [hop] using this
            have HE := Lib.hid (P.agree_step hup.out HX.out (hxy ▸ HY.out))
            clear hxy hop
            go_wp2_with fail
            refine wp_region_qb (by kernel_rfl) (by kernel_rfl) ?_; (repeat (go_big_quiet_step ((go_at_call 98; exact quietBb hv (l5SameWish _ (HS.out.gr RI.keeps _ _) (HT.out.gr RP.keeps _ _) (HS'.out.gr RI.keeps _ _) (HT'.out.gr RP.keeps _ _)))))); refine wpQuiet_nil ?_; intro w8 hb8
            go_wp2
            go_roundw
            case rel => exact ⟨k + 1, by omega, by go_num, HE, HBW.out.trans (hb8.mono hsz)⟩
            case measure => simp [intOf]; omega
          | false =>
            have HE : Hid (decide (xs = ys) = false) := by
              show _ = _
              rw [decide_eq_false_iff_not]
              exact P.agree_no HX.out HY.out (by rintro rfl; simp at hv)
            clear hop
            go_wp2_with fail
            refine wp_region_qb (by kernel_rfl) (by kernel_rfl) ?_; (repeat (go_big_quiet_step ((go_at_call 98; exact quietBb hv (l5SameWish _ (HS.out.gr RI.keeps _ _) (HT.out.gr RP.keeps _ _) (HS'.out.gr RI.keeps _ _) (HT'.out.gr RP.keeps _ _)))))); refine wpQuiet_nil ?_; intro w8 hb8
            go_wp2
            go_ret
            exact ⟨ret_bool HE.out.symm, HBW.out.trans (hb8.mono hsz)⟩
        · have q : (x.op != y.op) = true := by simpa using hop
          have HE : Hid (decide (xs = ys) = false) := by
            show _ = _
            rw [decide_eq_false_iff_not]
            exact P.agree_no HX.out HY.out (by rintro rfl; exact hop rfl)
          clear hop
          go_wp2_with fail
          refine wp_region_qb (by kernel_rfl) (by kernel_rfl) ?_; (repeat (go_big_quiet_step ((fail)))); refine wpQuiet_nil ?_; intro w8 hb8
          go_wp2
          go_ret
          exact ⟨ret_bool HE.out.symm, HBW.out.trans (hb8.mono hsz)⟩
      · have HE : Hid (decide (xs = ys) = true) := by
          show _ = _
          rw [decide_eq_true_iff]
          exact P.agree_all hup.out HL.out (by rw [HL'.out]; exact HN.out.symm) (by omega)
        clear h h'
        go_wp2
        go_ret
        exact ⟨ret_bool HE.out.symm, hbw⟩
  · have ht : ((n : Int) != (n' : Int)) = true := by simp; omega
    have HE : Hid (decide (xs = ys) = false) := by
      show _ = _
      rw [decide_eq_false_iff_not]
      rintro rfl
      exact hne (HL.out.symm.trans HL'.out)
    clear hne h h'
    go_enter Try.func78, Try.ntmps78
    go_wp2
    go_ret
    exact ⟨ret_bool HE.out.symm, Below.refl _ _⟩
set_option maxHeartbeats 1600000 in
set_option maxRecDepth 100000 in
theorem equalFuncN {A A' : Option Addr} {n n' c c' : Nat} {xs ys : List Nd} (w : World) (h : Sl RN 6 w w.heap.size A n c xs) (h' : Sl RN 6 w w.heap.size A' n' c' ys) :
    Calls Try.prog 100 #[.slice A n c, .slice A' n' c', .func (Fn.func 101) #[] #[]] w fun e w' => e = .returned (.bool (decide (xs = ys))) ∧ Below w.heap.size w w' := by
  have mx1 := Nat.le_trans h.le h.max
  have mx2 := Nat.le_trans h'.le h'.max
  unfold maxLen at mx1 mx2
  have HL := Lib.hid h.len
  have HL' := Lib.hid h'.len
  by_cases hne : n = n'
  · have HN := Lib.hid hne
    have ht : ((n : Int) != (n' : Int)) = false := by simp [hne]
    clear hne
    go_enter Try.func100, Try.ntmps100
    go_wp2
    go_loopw [7, 8, 9, 17] (fun va vb vc vk wr => ∃ k : Nat, k ≤ n ∧ vk = .int .i64 k ∧ Hid (P.Agree xs ys k) ∧ Below w.heap.size w wr) (fun va vb vc vk _ => n - (intOf vk).toNat)
    case atStart => exact ⟨0, Nat.zero_le _, rfl, rfl, Below.refl _ _⟩
    case round =>
      obtain ⟨k, hk, rfl, hup, hbw⟩ := hrel
      by_cases hlt : k < n
      · have hlt' : k < n' := by have := HN.out; omega
        obtain ⟨b, o, x, A1, n1, c1, E1, m1, d1, rfl, hb, hx, hf, hs, ht1, g0, g1, g2, g3, g4, g5⟩ := nodeAt h hlt
        obtain ⟨b', o', y, A2, n2, c2, E2, m2, d2, rfl, hb', hy, hf', hs', ht1', g0', g1', g2', g3', g4', g5'⟩ := nodeAt h' hlt'
        have hsz := hbw.size
        have i1 : b < wr.heap.size := by omega
        have i2 : b' < wr.heap.size := by omega
        have i3 : b < wr.heap.size + 1 := by omega
        have i4 : b' < wr.heap.size + 1 := by omega
        have e0 := ((cell_of hbw) b (o + k * 6) hb).trans g0
        have e1 := ((cell_of hbw) b (o + k * 6 + 1) hb).trans g1
        have e2 := ((cell_of hbw) b (o + k * 6 + 2) hb).trans g2
        have e3 := ((cell_of hbw) b (o + k * 6 + 3) hb).trans g3
        have e4 := ((cell_of hbw) b (o + k * 6 + 4) hb).trans g4
        have e5 := ((cell_of hbw) b (o + k * 6 + 5) hb).trans g5
        have e0' := ((cell_of hbw) b' (o' + k * 6) hb').trans g0'
        have e1' := ((cell_of hbw) b' (o' + k * 6 + 1) hb').trans g1'
        have e2' := ((cell_of hbw) b' (o' + k * 6 + 2) hb').trans g2'
        have e3' := ((cell_of hbw) b' (o' + k * 6 + 3) hb').trans g3'
        have e4' := ((cell_of hbw) b' (o' + k * 6 + 4) hb').trans g4'
        have e5' := ((cell_of hbw) b' (o' + k * 6 + 5) hb').trans g5'
        have q1 : (k : Int) < (n : Int) := by omega
        have q2 : (k : Int) < (n' : Int) := by omega
        have HX := Lib.hid hx
        have HY := Lib.hid hy
        have BW : Below wr.heap.size wr ((wr.alloc (.cells #[.int .i64 x.op, .int .i64 x.wish.kind, .int .i64 x.wish.field, .int .i64 x.wish.value, .slice A1 n1 c1, .slice E1 m1 d1] 55)).alloc (.cells #[.int .i64 y.op, .int .i64 y.wish.kind, .int .i64 y.wish.field, .int .i64 y.wish.value, .slice A2 n2 c2, .slice E2 m2 d2] 55)) := ((Below.refl _ _).alloc (Nat.le_refl _) _).alloc (by simp) _
        have HS := Lib.hid ((hs.on RI.keeps hbw).on RI.keeps BW)
        have HS' := Lib.hid ((hs'.on RI.keeps hbw).on RI.keeps BW)
        have HT := Lib.hid ((ht1.on RP.keeps hbw).on RP.keeps BW)
        have HT' := Lib.hid ((ht1'.on RP.keeps hbw).on RP.keeps BW)
        have HBW := Lib.hid (hbw.trans (BW.mono hsz))
        clear hx hy h h' hbw hs hs' ht1 ht1' BW g0 g1 g2 g3 g4 g5 g0' g1' g2' g3' g4' g5'
        cases hd : decide (x = y) with
        | true =>
          have HE := Lib.hid (P.agree_step hup.out HX.out ((decide_eq_true_iff.1 hd) ▸ HY.out))
          go_wp2_with (go_at_call 101; refine (equalNode _ HS.out HT.out HS'.out HT'.out).mono ?_; rintro e w9 ⟨rfl, b9⟩; rw [hd])
          go_roundw
          case rel => exact ⟨k + 1, by omega, by go_num, HE, HBW.out.trans (b9.mono (by simp; omega))⟩
          case measure => simp [intOf]; omega
        | false =>
          have HE : Hid (decide (xs = ys) = false) := by
            show _ = _
            rw [decide_eq_false_iff_not]; exact P.agree_no HX.out HY.out (decide_eq_false_iff_not.1 hd)
          go_wp2_with (go_at_call 101; refine (equalNode _ HS.out HT.out HS'.out HT'.out).mono ?_; rintro e w9 ⟨rfl, b9⟩; rw [hd])
          go_ret
          exact ⟨ret_bool HE.out.symm, HBW.out.trans (b9.mono (by simp; omega))⟩
      · have HE : Hid (decide (xs = ys) = true) := by
          show _ = _
          rw [decide_eq_true_iff]
          exact P.agree_all hup.out HL.out (by rw [HL'.out]; exact HN.out.symm) (by omega)
        clear h h'
        go_wp2
        go_ret
        exact ⟨ret_bool HE.out.symm, hbw⟩
  · have ht : ((n : Int) != (n' : Int)) = true := by simp; omega
    have HE : Hid (decide (xs = ys) = false) := by
      show _ = _
      rw [decide_eq_false_iff_not]
      rintro rfl
      exact hne (HL.out.symm.trans HL'.out)
    clear hne h h'
    go_enter Try.func100, Try.ntmps100
    go_wp2
    go_ret
    exact ⟨ret_bool HE.out.symm, Below.refl _ _⟩
theorem implEqualExpressions {A A' : Option Addr} {n n' c c' : Nat} {xs ys : List Nd} (w : World) (h : Sl RN 6 w w.heap.size A n c xs) (h' : Sl RN 6 w w.heap.size A' n' c' ys) :
    Calls Try.prog 80 #[.slice A n c, .slice A' n' c'] w fun e w' => e = .returned (.bool (decide (xs = ys))) ∧ Below w.heap.size w w' := by
  go_enter Try.func80, Try.ntmps80
  go_wp2_with fail
  refine (equalFuncN _ h h').mono ?_
  rintro e w1 ⟨rfl, b1⟩
  clear h h'
  go_wp2
  go_ret
  exact ⟨rfl, b1⟩
end Go.Proofs.Ytgjghpaenliliaa.Wk

namespace Go.Proofs.Ytgjghpaenliliaa.Wk
open Go.RowKit Go.Proofs.Ytgjghpaenliliaa.M
set_option linter.unusedVariables false
attribute [local go_sem] cell_grow

set_option maxHeartbeats 3200000 in
set_option maxRecDepth 100000 in
theorem l5NoWish {A E : Option Addr} {n c m d : Nat} {x : Wi} (w : World) (h : Sl RI 1 w w.heap.size A n c x.list) (g : Sl RP 2 w w.heap.size E m d x.pairs) :
    Calls Try.prog 57 #[.agg #[.int .i64 x.kind, .int .i64 x.field, .int .i64 x.value, .slice A n c, .slice E m d]] w fun e w' => e = .returned (.bool (P.noW x)) ∧ Below w.heap.size w w' := by
  have B1 := (Below.refl w.heap.size w).alloc (Nat.le_refl _) (.cells #[.int .i64 x.kind, .int .i64 x.field, .int .i64 x.value, .slice A n c, .slice E m d] 53)
  have NL := nil_iff h.len
  have NM := nil_iff g.len
  have mx1 := Nat.le_trans h.le h.max
  have mx2 := Nat.le_trans g.le g.max
  unfold maxLen at mx1 mx2
  clear h g
  by_cases h0 : x.kind = 0
  · have q0 : (x.kind == 0) = true := by simpa using h0
    by_cases h1 : x.field = 0
    · have q1 : (x.field == 0) = true := by simpa using h1
      by_cases h2 : x.value = 0
      · have q2 : (x.value == 0) = true := by simpa using h2
        by_cases h3 : n = 0
        · have q3 : ((n : Int) == 0) = true := by simpa using h3
          by_cases h4 : m = 0
          · have q4 : ((m : Int) == 0) = true := by simpa using h4
            have HE : Hid (P.noW x = true) := by show _ = _; rw [P.noW]; simp [h0, h1, h2, NL, NM, h3, h4]
            clear NL NM h0 h1 h2 h3 h4
            go_enter Try.func57, Try.ntmps57
            go_wp2_with fail
            go_ret
            exact ⟨ret_bool HE.out.symm, B1⟩
          · have q4 : ((m : Int) == 0) = false := by simpa using h4
            have HE : Hid (P.noW x = false) := by show _ = _; rw [P.noW]; simp [NL, NM, h4]
            clear NL NM h0 h1 h2 h3 h4
            go_enter Try.func57, Try.ntmps57
            go_wp2_with fail
            go_ret
            exact ⟨ret_bool HE.out.symm, B1⟩
        · have q3 : ((n : Int) == 0) = false := by simpa using h3
          have HE : Hid (P.noW x = false) := by show _ = _; rw [P.noW]; simp [NL, NM, h3]
          clear NL NM h0 h1 h2 h3
          go_enter Try.func57, Try.ntmps57
          go_wp2_with fail
          go_ret
          exact ⟨ret_bool HE.out.symm, B1⟩
      · have q2 : (x.value == 0) = false := by simpa using h2
        have HE : Hid (P.noW x = false) := by show _ = _; rw [P.noW]; simp [NL, NM, h2]
        clear NL NM h0 h1 h2
        go_enter Try.func57, Try.ntmps57
        go_wp2_with fail
        go_ret
        exact ⟨ret_bool HE.out.symm, B1⟩
    · have q1 : (x.field == 0) = false := by simpa using h1
      have HE : Hid (P.noW x = false) := by show _ = _; rw [P.noW]; simp [NL, NM, h1]
      clear NL NM h0 h1
      go_enter Try.func57, Try.ntmps57
      go_wp2_with fail
      go_ret
      exact ⟨ret_bool HE.out.symm, B1⟩
  · have q0 : (x.kind == 0) = false := by simpa using h0
    have HE : Hid (P.noW x = false) := by show _ = _; rw [P.noW]; simp [NL, NM, h0]
    clear NL NM h0
    go_enter Try.func57, Try.ntmps57
    go_wp2_with fail
    go_ret
    exact ⟨ret_bool HE.out.symm, B1⟩
set_option maxHeartbeats 3200000 in
set_option maxRecDepth 100000 in
theorem specIsExpression {A : Option Addr} {n c : Nat} {l : List Nd} (w : World) (h : Sl RN 6 w w.heap.size A n c l) :
    Calls Try.prog 24 #[.slice A n c] w fun e w' => e = .returned (.bool (P.okE l)) ∧ Below w.heap.size w w' := by
  have mx1 := Nat.le_trans h.le h.max
  unfold maxLen at mx1
  have HL := Lib.hid h.len
  go_enter Try.func24, Try.ntmps24
  go_wp2
  go_loopw [3, 4] (fun vd vk wr => ∃ k d : Nat, k ≤ n ∧ vk = .int .i64 k ∧ vd = .int .i64 d ∧ d ≤ k ∧ Hid (P.Dep l k d) ∧ Below w.heap.size w wr) (fun _ vk _ => n - (intOf vk).toNat)
  case atStart => exact ⟨0, 0, Nat.zero_le _, rfl, rfl, Nat.le_refl _, P.dep_zero l, Below.refl _ _⟩
  case round =>
    obtain ⟨k, dp, hk, rfl, rfl, hdk, hdep, hbw⟩ := hrel
    by_cases hlt : k < n
    · have q1 : (k : Int) < (n : Int) := by omega
      obtain ⟨b, o, x, A1, n1, c1, E1, m1, d1, rfl, hb, hx, hf, hs, ht1, g0, g1, g2, g3, g4, g5⟩ := nodeAt h hlt
      have hsz := hbw.size
      have i1 : b < wr.heap.size := by omega
      have e0 := ((cell_of hbw) b (o + k * 6) hb).trans g0
      have e1 := ((cell_of hbw) b (o + k * 6 + 1) hb).trans g1
      have e2 := ((cell_of hbw) b (o + k * 6 + 2) hb).trans g2
      have e3 := ((cell_of hbw) b (o + k * 6 + 3) hb).trans g3
      have e4 := ((cell_of hbw) b (o + k * 6 + 4) hb).trans g4
      have e5 := ((cell_of hbw) b (o + k * 6 + 5) hb).trans g5
      have HS := Lib.hid (hs.on RI.keeps hbw)
      have HT := Lib.hid (ht1.on RP.keeps hbw)
      have HX := Lib.hid hx
      have HB := Lib.hid hbw
      clear hx h hs ht1 hbw g0 g1 g2 g3 g4 g5 HL
      by_cases h0 : x.op = 0
      · have q0 : (x.op == 0) = true := by simpa using h0
        cases hw : P.okW x.wish with
        | false =>
          have HE : Hid (P.okE l = false) := P.dep_bad hdep.out HX.out (.inl (by rw [P.okN_0 h0]; exact hw))
          clear h0
          go_wp2_with (go_at_call 56; refine (specIsWish (x := x.wish) _ HS.out HT.out).mono ?_; rintro e w2 ⟨rfl, b2⟩; rw [hw])
          go_ret
          exact ⟨ret_bool HE.out.symm, HB.out.trans (b2.mono hsz)⟩
        | true =>
          have HD := Lib.hid (P.dep_step hdep.out HX.out (by rw [P.okN_0 h0]; exact hw) (by rw [h0]; exact Nat.zero_le _))
          rw [h0] at HD
          clear h0
          go_wp2_with (go_at_call 56; refine (specIsWish (x := x.wish) _ HS.out HT.out).mono ?_; rintro e w2 ⟨rfl, b2⟩; rw [hw])
          go_roundw
          case rel => exact ⟨k + 1, _, by omega, by go_num, vint (by rw [P.opnds_0]; omega), by rw [P.opnds_0]; omega, HD, HB.out.trans (b2.mono hsz)⟩
          case measure => simp [intOf]; omega
      · have q0 : (x.op == 0) = false := by simpa using h0
        by_cases h3 : x.op = 3
        · have q3 : (x.op == 3) = true := by simpa using h3
          have hc := h3
          clear h3
          have hin : P.inR x.op 0 4 = true := by rw [hc]; rfl
          by_cases hd : dp < 1
          · have q9 : ((dp : Int) < 1) := by omega
            have HE : Hid (P.okE l = false) := P.dep_bad hdep.out HX.out (.inr (by rw [hc]; exact hd))
            clear hc hd h0
            go_wp2_with fail
            go_ret
            exact ⟨ret_bool HE.out.symm, HB.out⟩
          · have q9 : ¬ ((dp : Int) < 1) := by omega
            cases hw : P.noW x.wish with
            | false =>
              have HE : Hid (P.okE l = false) := P.dep_bad hdep.out HX.out (.inl (by rw [P.okN_1 hin h0]; exact hw))
              clear hc hd h0
              go_wp2_with (go_at_call 57; refine (l5NoWish (x := x.wish) _ HS.out HT.out).mono ?_; rintro e w2 ⟨rfl, b2⟩; rw [hw])
              go_ret
              exact ⟨ret_bool HE.out.symm, HB.out.trans (b2.mono hsz)⟩
            | true =>
              have HD := Lib.hid (P.dep_step hdep.out HX.out (by rw [P.okN_1 hin h0]; exact hw) (by rw [hc]; exact Nat.le_of_not_lt hd))
              rw [hc] at HD
              clear hc hd h0 hin
              go_wp2_with (go_at_call 57; refine (l5NoWish (x := x.wish) _ HS.out HT.out).mono ?_; rintro e w2 ⟨rfl, b2⟩; rw [hw])
              go_roundw
              case rel => exact ⟨k + 1, _, by omega, by go_num, vint (by rw [P.opnds_3]; omega), by rw [P.opnds_3]; omega, HD, HB.out.trans (b2.mono hsz)⟩
              case measure => simp [intOf]; omega
        · have q3 : (x.op == 3) = false := by simpa using h3
          by_cases h1 : x.op = 1
          · have q1 : (x.op == 1) = true := by simpa using h1
            have hc := h1
            clear h1
            have hin : P.inR x.op 0 4 = true := by rw [hc]; rfl
            by_cases hd : dp < 2
            · have q9 : ((dp : Int) < 2) := by omega
              have HE : Hid (P.okE l = false) := P.dep_bad hdep.out HX.out (.inr (by rw [hc]; exact hd))
              clear hc hd h0
              go_wp2_with fail
              go_ret
              exact ⟨ret_bool HE.out.symm, HB.out⟩
            · have q9 : ¬ ((dp : Int) < 2) := by omega
              cases hw : P.noW x.wish with
              | false =>
                have HE : Hid (P.okE l = false) := P.dep_bad hdep.out HX.out (.inl (by rw [P.okN_1 hin h0]; exact hw))
                clear hc hd h0
                go_wp2_with (go_at_call 57; refine (l5NoWish (x := x.wish) _ HS.out HT.out).mono ?_; rintro e w2 ⟨rfl, b2⟩; rw [hw])
                go_ret
                exact ⟨ret_bool HE.out.symm, HB.out.trans (b2.mono hsz)⟩
              | true =>
                have HD := Lib.hid (P.dep_step hdep.out HX.out (by rw [P.okN_1 hin h0]; exact hw) (by rw [hc]; exact Nat.le_of_not_lt hd))
                rw [hc] at HD
                clear hc hd h0 hin
                go_wp2_with (go_at_call 57; refine (l5NoWish (x := x.wish) _ HS.out HT.out).mono ?_; rintro e w2 ⟨rfl, b2⟩; rw [hw])
                go_roundw
                case rel => exact ⟨k + 1, _, by omega, by go_num, vint (by rw [P.opnds_1]; omega), by rw [P.opnds_1]; omega, HD, HB.out.trans (b2.mono hsz)⟩
                case measure => simp [intOf]; omega
          · have q1 : (x.op == 1) = false := by simpa using h1
            by_cases h2 : x.op = 2
            · have q2 : (x.op == 2) = true := by simpa using h2
              have hc := h2
              clear h2
              have hin : P.inR x.op 0 4 = true := by rw [hc]; rfl
              by_cases hd : dp < 2
              · have q9 : ((dp : Int) < 2) := by omega
                have HE : Hid (P.okE l = false) := P.dep_bad hdep.out HX.out (.inr (by rw [hc]; exact hd))
                clear hc hd h0
                go_wp2_with fail
                go_ret
                exact ⟨ret_bool HE.out.symm, HB.out⟩
              · have q9 : ¬ ((dp : Int) < 2) := by omega
                cases hw : P.noW x.wish with
                | false =>
                  have HE : Hid (P.okE l = false) := P.dep_bad hdep.out HX.out (.inl (by rw [P.okN_1 hin h0]; exact hw))
                  clear hc hd h0
                  go_wp2_with (go_at_call 57; refine (l5NoWish (x := x.wish) _ HS.out HT.out).mono ?_; rintro e w2 ⟨rfl, b2⟩; rw [hw])
                  go_ret
                  exact ⟨ret_bool HE.out.symm, HB.out.trans (b2.mono hsz)⟩
                | true =>
                  have HD := Lib.hid (P.dep_step hdep.out HX.out (by rw [P.okN_1 hin h0]; exact hw) (by rw [hc]; exact Nat.le_of_not_lt hd))
                  rw [hc] at HD
                  clear hc hd h0 hin
                  go_wp2_with (go_at_call 57; refine (l5NoWish (x := x.wish) _ HS.out HT.out).mono ?_; rintro e w2 ⟨rfl, b2⟩; rw [hw])
                  go_roundw
                  case rel => exact ⟨k + 1, _, by omega, by go_num, vint (by rw [P.opnds_2]; omega), by rw [P.opnds_2]; omega, HD, HB.out.trans (b2.mono hsz)⟩
                  case measure => simp [intOf]; omega
            · have q2 : (x.op == 2) = false := by simpa using h2
              by_cases h4 : x.op = 4
              · have q4 : (x.op == 4) = true := by simpa using h4
                have hc := h4
                clear h4
                have hin : P.inR x.op 0 4 = true := by rw [hc]; rfl
                by_cases hd : dp < 2
                · have q9 : ((dp : Int) < 2) := by omega
                  have HE : Hid (P.okE l = false) := P.dep_bad hdep.out HX.out (.inr (by rw [hc]; exact hd))
                  clear hc hd h0
                  go_wp2_with fail
                  go_ret
                  exact ⟨ret_bool HE.out.symm, HB.out⟩
                · have q9 : ¬ ((dp : Int) < 2) := by omega
                  cases hw : P.noW x.wish with
                  | false =>
                    have HE : Hid (P.okE l = false) := P.dep_bad hdep.out HX.out (.inl (by rw [P.okN_1 hin h0]; exact hw))
                    clear hc hd h0
                    go_wp2_with (go_at_call 57; refine (l5NoWish (x := x.wish) _ HS.out HT.out).mono ?_; rintro e w2 ⟨rfl, b2⟩; rw [hw])
                    go_ret
                    exact ⟨ret_bool HE.out.symm, HB.out.trans (b2.mono hsz)⟩
                  | true =>
                    have HD := Lib.hid (P.dep_step hdep.out HX.out (by rw [P.okN_1 hin h0]; exact hw) (by rw [hc]; exact Nat.le_of_not_lt hd))
                    rw [hc] at HD
                    clear hc hd h0 hin
                    go_wp2_with (go_at_call 57; refine (l5NoWish (x := x.wish) _ HS.out HT.out).mono ?_; rintro e w2 ⟨rfl, b2⟩; rw [hw])
                    go_roundw
                    case rel => exact ⟨k + 1, _, by omega, by go_num, vint (by rw [P.opnds_4]; omega), by rw [P.opnds_4]; omega, HD, HB.out.trans (b2.mono hsz)⟩
                    case measure => simp [intOf]; omega
              · have q4 : (x.op == 4) = false := by simpa using h4
                have hin : P.inR x.op 0 4 = false := by
                  cases hh : P.inR x.op 0 4 with
                  | false => rfl
                  | true => have := P.inR_t hh; omega
                have HE : Hid (P.okE l = false) := P.dep_bad hdep.out HX.out (.inl (P.okN_op hin))
                clear h0 h1 h2 h3 h4 hin
                go_wp2_with fail
                go_ret
                exact ⟨ret_bool HE.out.symm, HB.out⟩
    · have HE := Lib.hid (P.dep_end hdep.out HL.out (by omega))
      have hkn : k = n := by omega
      clear h
      by_cases hd1 : (dp : Int) = 1
      · have q : ((dp : Int) == 1) = true := by simpa using hd1
        have HE2 : Hid (P.okE l = decide ((n : Int) ≤ 9)) := by show _ = _; rw [HE.out, hd1]; rfl
        clear hd1
        go_wp2
        go_ret
        exact ⟨ret_bool HE2.out.symm, hbw⟩
      · have q : ((dp : Int) == 1) = false := by simpa using hd1
        have HE2 : Hid (P.okE l = false) := by show _ = _; rw [HE.out]; simp; omega
        clear hd1
        go_wp2
        go_ret
        exact ⟨ret_bool HE2.out.symm, hbw⟩
theorem operands (op : Int) (w : World) : Calls Try.prog 62 #[.int .i64 op] w fun e w' => e = .returned (.int .i64 (P.opnds op)) ∧ w = w' := by
  by_cases h0 : op = 0
  · subst h0
    go_enter Try.func62, Try.ntmps62
    go_wp2
    go_ret
    exact ⟨rfl, rfl⟩
  · by_cases h3 : op = 3
    · subst h3
      go_enter Try.func62, Try.ntmps62
      go_wp2
      go_ret
      exact ⟨rfl, rfl⟩
    · have q0 : (op == 0) = false := by simpa using h0
      have q3 : (op == 3) = false := by simpa using h3
      have HE : Hid (P.opnds op = 2) := by show _ = _; rw [P.opnds, if_neg h0, if_neg h3]
      clear h0 h3
      go_enter Try.func62, Try.ntmps62
      go_wp2
      go_ret
      exact ⟨ret_int (by rw [HE.out]; rfl), rfl⟩
set_option maxHeartbeats 3200000 in
set_option maxRecDepth 100000 in
theorem implIsExpression {A : Option Addr} {n c : Nat} {l : List Nd} (w : World) (h : Sl RN 6 w w.heap.size A n c l) :
    Calls Try.prog 28 #[.slice A n c] w fun e w' => e = .returned (.bool (P.okE l)) ∧ Below w.heap.size w w' := by
  have mx1 := Nat.le_trans h.le h.max
  unfold maxLen at mx1
  have HL := Lib.hid h.len
  go_enter Try.func28, Try.ntmps28
  go_wp2
  go_loopw [3, 5, 8] (fun vd vb vk wr => ∃ k d : Nat, k ≤ n ∧ vk = .int .i64 k ∧ vd = .int .i64 d ∧ d ≤ k ∧ Hid (P.Dep l k d) ∧ Below w.heap.size w wr) (fun _ _ vk _ => n - (intOf vk).toNat)
  case atStart => exact ⟨0, 0, Nat.zero_le _, rfl, rfl, Nat.le_refl _, P.dep_zero l, Below.refl _ _⟩
  case round =>
    obtain ⟨k, dp, hk, rfl, rfl, hdk, hdep, hbw⟩ := hrel
    by_cases hlt : k < n
    · have q1 : (k : Int) < (n : Int) := by omega
      obtain ⟨b, o, x, A1, n1, c1, E1, m1, d1, rfl, hb, hx, hf, hs, ht1, g0, g1, g2, g3, g4, g5⟩ := nodeAt h hlt
      have hsz := hbw.size
      have i1 : b < wr.heap.size := by omega
      have e0 := ((cell_of hbw) b (o + k * 6) hb).trans g0
      have e1 := ((cell_of hbw) b (o + k * 6 + 1) hb).trans g1
      have e2 := ((cell_of hbw) b (o + k * 6 + 2) hb).trans g2
      have e3 := ((cell_of hbw) b (o + k * 6 + 3) hb).trans g3
      have e4 := ((cell_of hbw) b (o + k * 6 + 4) hb).trans g4
      have e5 := ((cell_of hbw) b (o + k * 6 + 5) hb).trans g5
      have BW := (Below.refl wr.heap.size wr).alloc (Nat.le_refl _) (.cells #[.int .i64 x.op, .int .i64 x.wish.kind, .int .i64 x.wish.field, .int .i64 x.wish.value, .slice A1 n1 c1, .slice E1 m1 d1] 55)
      have HS := Lib.hid ((hs.on RI.keeps hbw).on RI.keeps BW)
      have HT := Lib.hid ((ht1.on RP.keeps hbw).on RP.keeps BW)
      have HX := Lib.hid hx
      have HB := Lib.hid (hbw.trans (BW.mono hsz))
      have hsz2 := HB.out.size
      have ww : wr.heap.size < (wr.alloc (.cells #[.int .i64 x.op, .int .i64 x.wish.kind, .int .i64 x.wish.field, .int .i64 x.wish.value, .slice A1 n1 c1, .slice E1 m1 d1] 55)).heap.size := by simp
      clear hx h hs ht1 hbw g0 g1 g2 g3 g4 g5 HL BW
      cases hin : P.inR x.op 0 4 with
      | false =>
        have HE : Hid (P.okE l = false) := P.dep_bad hdep.out HX.out (.inl (P.okN_op hin))
        go_wp2_with (first | (go_at_call 42; refine (within _ _ _ _).mono ?_; rintro e w9 ⟨rfl, rfl⟩; rw [hin]) | (go_at_call 62; refine (operands _ _).mono ?_; rintro e w9 ⟨rfl, rfl⟩))
        go_ret
        exact ⟨ret_bool HE.out.symm, HB.out⟩
      | true =>
        have hop2 : P.opnds x.op ≤ 2 := by unfold P.opnds; split <;> (try split) <;> omega
        by_cases hd : dp < P.opnds x.op
        · have q9 : ((dp : Int) < (P.opnds x.op : Int)) := by omega
          have HE : Hid (P.okE l = false) := P.dep_bad hdep.out HX.out (.inr hd)
          clear hd
          go_wp2_with (first | (go_at_call 42; refine (within _ _ _ _).mono ?_; rintro e w9 ⟨rfl, rfl⟩; rw [hin]) | (go_at_call 62; refine (operands _ _).mono ?_; rintro e w9 ⟨rfl, rfl⟩))
          go_ret
          exact ⟨ret_bool HE.out.symm, HB.out⟩
        · have q9 : ¬ ((dp : Int) < (P.opnds x.op : Int)) := by omega
          by_cases h0 : x.op = 0
          · have q0 : (x.op == 0) = true := by simpa using h0
            have q0' : (x.op != 0) = false := by simpa using h0
            cases hw : P.okW x.wish with
            | false =>
              have HE : Hid (P.okE l = false) := P.dep_bad hdep.out HX.out (.inl (by rw [P.okN_0 h0]; exact hw))
              clear h0 hd
              go_wp2_with (first | (go_at_call 42; refine (within _ _ _ _).mono ?_; rintro e w9 ⟨rfl, rfl⟩; rw [hin]) | (go_at_call 62; refine (operands _ _).mono ?_; rintro e w9 ⟨rfl, rfl⟩) | (go_at_call 63; refine (implIsWish (x := x.wish) _ HS.out HT.out).mono ?_; rintro e w2 ⟨rfl, b2⟩; rw [hw]))
              go_ret
              exact ⟨ret_bool HE.out.symm, HB.out.trans (b2.mono hsz2)⟩
            | true =>
              have HD := Lib.hid (P.dep_step hdep.out HX.out (by rw [P.okN_0 h0]; exact hw) (Nat.le_of_not_lt hd))
              have hdp := Nat.le_of_not_lt hd
              clear h0 hd
              go_wp2_with (first | (go_at_call 42; refine (within _ _ _ _).mono ?_; rintro e w9 ⟨rfl, rfl⟩; rw [hin]) | (go_at_call 62; refine (operands _ _).mono ?_; rintro e w9 ⟨rfl, rfl⟩) | (go_at_call 63; refine (implIsWish (x := x.wish) _ HS.out HT.out).mono ?_; rintro e w2 ⟨rfl, b2⟩; rw [hw]; have hC2 := cell_of b2; have z0 : wr.heap.size < w2.heap.size := Nat.lt_of_lt_of_le ww b2.size))
              go_roundw
              case rel => exact ⟨k + 1, _, by omega, by go_num, vint (by omega), by omega, HD, HB.out.trans (b2.mono hsz2)⟩
              case measure => simp [intOf]; omega
          · have q0 : (x.op == 0) = false := by simpa using h0
            have q0' : (x.op != 0) = true := by simpa using h0
            cases hw : decide (x.wish = ⟨0, 0, 0, [], []⟩) with
            | false =>
              have HE : Hid (P.okE l = false) := P.dep_bad hdep.out HX.out (.inl (by rw [P.okN_1 hin h0, P.noW_eq]; exact hw))
              clear h0 hd
              go_wp2_with (first | (go_at_call 42; refine (within _ _ _ _).mono ?_; rintro e w9 ⟨rfl, rfl⟩; rw [hin]) | (go_at_call 62; refine (operands _ _).mono ?_; rintro e w9 ⟨rfl, rfl⟩) | (go_at_call 64; refine (equalWish (x := x.wish) (y := ⟨0, 0, 0, [], []⟩) _ HS.out HT.out (Sl.nil _ _) (Sl.nil _ _)).mono ?_; rintro e w2 ⟨rfl, b2⟩; rw [hw]))
              go_ret
              exact ⟨ret_bool HE.out.symm, HB.out.trans (b2.mono hsz2)⟩
            | true =>
              have HD := Lib.hid (P.dep_step hdep.out HX.out (by rw [P.okN_1 hin h0, P.noW_eq]; exact hw) (Nat.le_of_not_lt hd))
              have hdp := Nat.le_of_not_lt hd
              clear h0 hd
              go_wp2_with (first | (go_at_call 42; refine (within _ _ _ _).mono ?_; rintro e w9 ⟨rfl, rfl⟩; rw [hin]) | (go_at_call 62; refine (operands _ _).mono ?_; rintro e w9 ⟨rfl, rfl⟩) | (go_at_call 64; refine (equalWish (x := x.wish) (y := ⟨0, 0, 0, [], []⟩) _ HS.out HT.out (Sl.nil _ _) (Sl.nil _ _)).mono ?_; rintro e w2 ⟨rfl, b2⟩; rw [hw]; have hC2 := cell_of b2; have z0 : wr.heap.size < w2.heap.size := Nat.lt_of_lt_of_le ww b2.size))
              go_roundw
              case rel => exact ⟨k + 1, _, by omega, by go_num, vint (by omega), by omega, HD, HB.out.trans (b2.mono hsz2)⟩
              case measure => simp [intOf]; omega
    · have HE := Lib.hid (P.dep_end hdep.out HL.out (by omega))
      have hkn : k = n := by omega
      clear h
      by_cases hd1 : (dp : Int) = 1
      · have q : ((dp : Int) == 1) = true := by simpa using hd1
        have HE2 : Hid (P.okE l = decide ((n : Int) ≤ 9)) := by show _ = _; rw [HE.out, hd1]; rfl
        clear hd1
        go_wp2
        go_ret
        exact ⟨ret_bool HE2.out.symm, hbw⟩
      · have q : ((dp : Int) == 1) = false := by simpa using hd1
        have HE2 : Hid (P.okE l = false) := by show _ = _; rw [HE.out]; simp; omega
        clear hd1
        go_wp2
        go_ret
        exact ⟨ret_bool HE2.out.symm, hbw⟩
end Go.Proofs.Ytgjghpaenliliaa.Wk

namespace Go.Proofs.Ytgjghpaenliliaa.P

theorem glueTo_sizeS {b : ByteArray} {l : List ByteArray} {B S : Nat} (hb : b.size ≤ B) (hl : ∀ x ∈ l, x.size ≤ S) : ∀ k, (glueTo b l k).size ≤ (S + B) * k
  | 0 => by simp [glueTo, ByteArray.size]
  | k + 1 => by
    have ih := glueTo_sizeS hb hl k
    have hx : (l.getD k ⟨#[]⟩).size ≤ S := by
      simp only [List.getD]
      cases e : l[k]? with
      | none => simp [ByteArray.size]
      | some x => exact hl x (List.mem_of_getElem? e)
    rw [glueTo, Nat.mul_succ]
    split <;> simp only [ByteArray.size_append] <;> omega
theorem glue_sizeS {b : ByteArray} {l : List ByteArray} {B S n : Nat} (hb : b.size ≤ B) (hl : ∀ x ∈ l, x.size ≤ S) (hn : l.length ≤ n) : (glue b l).size ≤ (S + B) * n :=
  Nat.le_trans (glueTo_sizeS hb hl _) (Nat.mul_le_mul_left _ hn)
end Go.Proofs.Ytgjghpaenliliaa.P

namespace Go.Proofs.Ytgjghpaenliliaa.Wk
open Go.RowKit Go.Proofs.Ytgjghpaenliliaa.M
set_option linter.unusedVariables false
attribute [local go_sem] cell_grow

theorem wishS_size {x : Wi} (h : FitW x) : (wishS x).size ≤ 4096 := by
  obtain ⟨_, f1, f2, f3, f4⟩ := h
  have s1 := fmtS_size f1
  have s2 := fmtS_size f2
  unfold wishS
  cases hok : P.okW x with
  | false => simp [ByteArray.size]
  | true =>
    have hl := P.okW_listlen hok
    have s3 : (numsS ⟨#[44]⟩ x.list).size ≤ 250 := by
      unfold numsS
      refine Nat.le_trans (P.glue_sizeS (B := 1) (S := 20) (n := 10) (by decide) (fun t ht => ?_) (by rw [List.length_map]; exact hl)) (by decide)
      obtain ⟨y, hy, rfl⟩ := List.mem_map.1 ht
      exact fmtS_size (f3 y hy)
    have s4 : (pairsS x.pairs).size ≤ 400 := by
      unfold pairsS
      split
      · rename_i hp
        split
        · decide
        · refine Nat.le_trans (P.glue_sizeS (B := 1) (S := 41) (n := 8) (by decide) (fun t ht => ?_) (by rw [List.length_map]; exact P.okP_len hp)) (by decide)
          obtain ⟨y, hy, rfl⟩ := List.mem_map.1 ht
          exact pairS_size (f4 y hy)
      · decide
    have a0 : (⟨#[108, 111, 119]⟩ : ByteArray).size = 3 := rfl
    have a1 : (⟨#[104, 105, 103, 104]⟩ : ByteArray).size = 4 := rfl
    have a2 : (⟨#[110, 101, 97, 114]⟩ : ByteArray).size = 4 := rfl
    have a3 : (⟨#[97, 109, 111, 110, 103]⟩ : ByteArray).size = 5 := rfl
    have a4 : (⟨#[111, 114, 100, 101, 114]⟩ : ByteArray).size = 5 := rfl
    have a5 : (⟨#[32, 102]⟩ : ByteArray).size = 2 := rfl
    have a6 : (⟨#[32]⟩ : ByteArray).size = 1 := rfl
    rw [if_pos rfl]
    repeat' split
    all_goals simp only [ByteArray.size_append]; omega
/-- An operator's word. -/
def wordS (op : Int) : ByteArray := if op = 1 then ⟨#[97, 110, 100]⟩ else if op = 2 then ⟨#[116, 104, 101, 110]⟩ else if op = 3 then ⟨#[110, 111, 116]⟩ else ⟨#[98, 111, 116, 104]⟩
theorem wordS_size (op : Int) : (wordS op).size ≤ 4 := by
  unfold wordS
  repeat' split
  all_goals decide
theorem wordS_at {k : Int} (h0 : 1 ≤ k) (h4 : k ≤ 4) : (#[Value.string ⟨#[97, 110, 100]⟩, .string ⟨#[116, 104, 101, 110]⟩, .string ⟨#[110, 111, 116]⟩, .string ⟨#[98, 111, 116, 104]⟩] : Array Value)[(k - 1).toNat]? = some (.string (wordS k)) := by
  rcases (by omega : k = 1 ∨ k = 2 ∨ k = 3 ∨ k = 4) with rfl | rfl | rfl | rfl <;> rfl
/-- A node as a text. -/
noncomputable def ndS (x : Nd) : ByteArray := if x.op = 0 then wishS x.wish else wordS x.op
theorem ndS_all {l : List Nd} (h : ∀ x ∈ l, FitN x) : ∀ t ∈ l.map ndS, t.size ≤ 4096 := by
  intro t ht
  obtain ⟨x, hx, rfl⟩ := List.mem_map.1 ht
  unfold ndS
  split
  · exact wishS_size (h x hx).2
  · have := wordS_size x.op; omega
/-- What FormatExpression writes. -/
noncomputable def exprS (l : List Nd) : ByteArray := if P.okE l then P.glue ⟨#[59, 32]⟩ (l.map ndS) else ⟨#[]⟩
theorem okE_op {l : List Nd} (h : P.okE l = true) {k : Nat} {x : Nd} (hx : l[k]? = some x) : 0 ≤ x.op ∧ x.op ≤ 4 := by
  have := (P.okE_at h hx).1
  unfold P.okN at this
  rw [Bool.and_eq_true] at this
  exact P.inR_t this.1
set_option maxHeartbeats 3200000 in
set_option maxRecDepth 100000 in
theorem l5Word (op : Int) (w : World) (h0 : 1 ≤ op) (h4 : op ≤ 4) : Calls Try.prog 26 #[.int .i64 op] w fun e w' => e = .returned (.string (wordS op)) ∧ Below w.heap.size w w' := by
  by_cases h1 : op = 1
  · subst h1
    go_enter Try.func26, Try.ntmps26
    go_wp2
    go_ret
    exact ⟨rfl, Below.refl _ _⟩
  · by_cases h2 : op = 2
    · subst h2
      go_enter Try.func26, Try.ntmps26
      go_wp2
      go_ret
      exact ⟨rfl, Below.refl _ _⟩
    · by_cases h3 : op = 3
      · subst h3
        go_enter Try.func26, Try.ntmps26
        go_wp2
        go_ret
        exact ⟨rfl, Below.refl _ _⟩
      · obtain rfl : op = 4 := by omega
        go_enter Try.func26, Try.ntmps26
        go_wp2
        go_ret
        exact ⟨rfl, Below.refl _ _⟩
set_option maxHeartbeats 3200000 in
set_option maxRecDepth 100000 in
theorem specFormatExpression {A : Option Addr} {n c : Nat} {l : List Nd} (w : World) (h : Sl RN 6 w w.heap.size A n c l) : Calls Try.prog 8 #[.slice A n c] w fun e w' => e = .returned (.string (exprS l)) ∧ Below w.heap.size w w' := by
  have HL := Lib.hid h.len
  have hle := h.le
  cases hok : P.okE l with
  | false =>
    have HE : Hid (exprS l = ⟨#[]⟩) := by show _ = _; unfold exprS; rw [hok]; rfl
    go_enter Try.func8, Try.ntmps8
    go_wp2_with (go_at_call 24; refine (specIsExpression _ h).mono ?_; rintro e w2 ⟨rfl, hb2⟩; rw [hok])
    go_ret
    exact ⟨ret_str HE.out.symm, hb2⟩
  | true =>
    have hn9 : n ≤ 9 := by have := (P.okE_len hok).1; have := HL.out; omega
    have HF := Lib.hid (ndS_all (fitNs h))
    have HK := Lib.hid hok
    have HE : Hid (exprS l = P.glue ⟨#[59, 32]⟩ (l.map ndS)) := by show _ = _; unfold exprS; rw [hok]; rfl
    go_enter Try.func8, Try.ntmps8
    go_wp2_with fail
    refine (specIsExpression _ h).mono ?_
    rintro e w2 ⟨rfl, hb2⟩
    rw [hok]
    clear hok
    go_wp2
    go_loopw [3, 4] (fun vs vk wr => ∃ k : Nat, k ≤ n ∧ vk = .int .i64 k ∧ vs = .string (P.glueTo ⟨#[59, 32]⟩ (l.map ndS) k) ∧ Below w.heap.size w wr) (fun _ vk _ => n - (intOf vk).toNat)
    case atStart => exact ⟨0, Nat.zero_le _, rfl, rfl, hb2⟩
    case round =>
      clear hb2
      obtain ⟨k, hk, rfl, rfl, hbw⟩ := hrel
      by_cases hlt : k < n
      · obtain ⟨b, o, x, A1, n1, c1, E1, m1, d1, rfl, hb, hx, hf, hs, ht1, g0, g1, g2, g3, g4, g5⟩ := nodeAt h hlt
        have hsz := hbw.size
        have i1 : b < wr.heap.size := by omega
        have q1 : (k : Int) < (n : Int) := by omega
        have hop := okE_op HK.out hx
        obtain ⟨f0, f1, f2, f3⟩ := hf
        have e0 := ((cell_of hbw) b (o + k * 6) hb).trans g0
        have e1 := ((cell_of hbw) b (o + k * 6 + 1) hb).trans g1
        have e2 := ((cell_of hbw) b (o + k * 6 + 2) hb).trans g2
        have e3 := ((cell_of hbw) b (o + k * 6 + 3) hb).trans g3
        have e4 := ((cell_of hbw) b (o + k * 6 + 4) hb).trans g4
        have e5 := ((cell_of hbw) b (o + k * 6 + 5) hb).trans g5
        have q2 : (n : Int) ≤ (c : Int) := by omega
        have s0 := P.glueTo_size (b := ⟨#[59, 32]⟩) (by decide) HF.out k
        have s3 : (⟨#[59, 32]⟩ : ByteArray).size = 2 := rfl
        have hx2 : (l.map ndS)[k]? = some (ndS x) := by rw [List.getElem?_map, hx]; rfl
        have sN : (ndS x).size ≤ 4096 := HF.out _ (List.mem_of_getElem? hx2)
        have HS := Lib.hid (hs.on RI.keeps hbw)
        have HT := Lib.hid (ht1.on RP.keeps hbw)
        by_cases hp0 : x.op = 0
        · have q0 : (x.op == 0) = true := by simpa using hp0
          have en : ndS x = wishS x.wish := by unfold ndS; rw [if_pos hp0]
          rw [en] at hx2 sN
          by_cases h0 : k = 0
          · have q : decide (0 < k) = false := by simp; omega
            have HG := Lib.hid (P.glueTo_one (b := ⟨#[59, 32]⟩) h0 hx2)
            clear hx hx2 h h0 g0 g1 g2 g3 g4 g5 hs ht1 hp0 en
            go_wp2_with (go_at_call 25; refine (specFormatWish (x := x.wish) _ HS.out HT.out f1 f2 f3).mono ?_; rintro e w3 ⟨rfl, hb3⟩)
            go_roundw
            case rel => exact ⟨k + 1, by omega, by go_num, vstr HG.out.symm, hbw.trans (hb3.mono hsz)⟩
            case measure => simp [intOf]; omega
          · have q : decide (0 < k) = true := by simp; omega
            have HG := Lib.hid (P.glueTo_more (b := ⟨#[59, 32]⟩) h0 hx2)
            clear hx hx2 h h0 g0 g1 g2 g3 g4 g5 hs ht1 hp0 en
            go_wp2_with (go_at_call 25; refine (specFormatWish (x := x.wish) _ HS.out HT.out f1 f2 f3).mono ?_; rintro e w3 ⟨rfl, hb3⟩)
            go_roundw
            case rel => exact ⟨k + 1, by omega, by go_num, vstr HG.out.symm, hbw.trans (hb3.mono hsz)⟩
            case measure => simp [intOf]; omega
        · have q0 : (x.op == 0) = false := by simpa using hp0
          have en : ndS x = wordS x.op := by unfold ndS; rw [if_neg hp0]
          rw [en] at hx2 sN
          have hp1 : 1 ≤ x.op := by omega
          have hp4 := hop.2
          by_cases h0 : k = 0
          · have q : decide (0 < k) = false := by simp; omega
            have HG := Lib.hid (P.glueTo_one (b := ⟨#[59, 32]⟩) h0 hx2)
            clear hx hx2 h h0 g0 g1 g2 g3 g4 g5 hs ht1 hp0 en
            go_wp2_with (go_at_call 26; refine (l5Word x.op _ hp1 hp4).mono ?_; rintro e w3 ⟨rfl, hb3⟩)
            go_roundw
            case rel => exact ⟨k + 1, by omega, by go_num, vstr HG.out.symm, hbw.trans (hb3.mono hsz)⟩
            case measure => simp [intOf]; omega
          · have q : decide (0 < k) = true := by simp; omega
            have HG := Lib.hid (P.glueTo_more (b := ⟨#[59, 32]⟩) h0 hx2)
            clear hx hx2 h h0 g0 g1 g2 g3 g4 g5 hs ht1 hp0 en
            go_wp2_with (go_at_call 26; refine (l5Word x.op _ hp1 hp4).mono ?_; rintro e w3 ⟨rfl, hb3⟩)
            go_roundw
            case rel => exact ⟨k + 1, by omega, by go_num, vstr HG.out.symm, hbw.trans (hb3.mono hsz)⟩
            case measure => simp [intOf]; omega
      · have HG := Lib.hid (P.glue_at (b := ⟨#[59, 32]⟩) (l := l.map ndS) (k := k) (n := n) (by rw [List.length_map, HL.out]) (by omega))
        clear h
        go_wp2
        go_ret
        exact ⟨ret_str (HE.out.trans HG.out).symm, hbw⟩
set_option maxHeartbeats 3200000 in
set_option maxRecDepth 100000 in
theorem implFormatExpression {A : Option Addr} {n c : Nat} {l : List Nd} (w : World) (h : Sl RN 6 w w.heap.size A n c l) : Calls Try.prog 10 #[.slice A n c] w fun e w' => e = .returned (.string (exprS l)) ∧ Below w.heap.size w w' := by
  have HL := Lib.hid h.len
  have hle := h.le
  obtain ⟨i0, hi, hz0, hz1, hz2⟩ := info_parts info_str
  cases hok : P.okE l with
  | false =>
    have HE : Hid (exprS l = ⟨#[]⟩) := by show _ = _; unfold exprS; rw [hok]; rfl
    go_enter Try.func10, Try.ntmps10
    go_wp2_with (go_at_call 28; refine (implIsExpression _ h).mono ?_; rintro e w2 ⟨rfl, hb2⟩; rw [hok])
    go_ret
    exact ⟨ret_str HE.out.symm, hb2⟩
  | true =>
    have hn9 : n ≤ 9 := by have := (P.okE_len hok).1; have := HL.out; omega
    have HF := Lib.hid (ndS_all (fitNs h))
    have HK := Lib.hid hok
    have HE : Hid (exprS l = P.glue ⟨#[59, 32]⟩ (l.map ndS)) := by show _ = _; unfold exprS; rw [hok]; rfl
    go_enter Try.func10, Try.ntmps10
    go_wp2_with fail
    refine (implIsExpression _ h).mono ?_
    rintro e w2 ⟨rfl, hb2⟩
    rw [hok]
    clear hok
    go_wp2
    go_loopw [3, 5, 12] (fun vo vb vk wr => ∃ k : Nat, k ≤ n ∧ vk = .int .i64 k ∧ wr.ownsRow w.heap.size 9 1 vo k (((l.map ndS).take k).map Value.string) ∧ Below w.heap.size w wr) (fun _ _ vk _ => n - (intOf vk).toNat)
    case atStart => exact ⟨0, Nat.zero_le _, rfl, own_mono (own_empty _ _) hb2.size, hb2.alloc hb2.size _⟩
    case round =>
      clear hb2
      obtain ⟨k, hk, rfl, hown, hbw⟩ := hrel
      by_cases hlt : k < n
      · obtain ⟨b, o, x, A1, n1, c1, E1, m1, d1, rfl, hb, hx, hf, hs, ht1, g0, g1, g2, g3, g4, g5⟩ := nodeAt h hlt
        have hsz := hbw.size
        have i1 : b < wr.heap.size := by omega
        have q1 : (k : Int) < (n : Int) := by omega
        have hop := okE_op HK.out hx
        obtain ⟨f0, f1, f2, f3⟩ := hf
        have e0 := ((cell_of hbw) b (o + k * 6) hb).trans g0
        have e1 := ((cell_of hbw) b (o + k * 6 + 1) hb).trans g1
        have e2 := ((cell_of hbw) b (o + k * 6 + 2) hb).trans g2
        have e3 := ((cell_of hbw) b (o + k * 6 + 3) hb).trans g3
        have e4 := ((cell_of hbw) b (o + k * 6 + 4) hb).trans g4
        have e5 := ((cell_of hbw) b (o + k * 6 + 5) hb).trans g5
        have hx2 : (l.map ndS)[k]? = some (ndS x) := by rw [List.getElem?_map, hx]; rfl
        have BW := (Below.refl wr.heap.size wr).alloc (Nat.le_refl _) (.cells #[.int .i64 x.op, .int .i64 x.wish.kind, .int .i64 x.wish.field, .int .i64 x.wish.value, .slice A1 n1 c1, .slice E1 m1 d1] 55)
        have HS := Lib.hid ((hs.on RI.keeps hbw).on RI.keeps BW)
        have HT := Lib.hid ((ht1.on RP.keeps hbw).on RP.keeps BW)
        have HO := Lib.hid (own_below hown BW)
        have HB := Lib.hid (hbw.trans (BW.mono hsz))
        have hsz2 := HB.out.size
        obtain ⟨A', c', rfl, _, _⟩ := own_form hown
        by_cases hp0 : x.op = 0
        · have q0 : (x.op == 0) = true := by simpa using hp0
          have en : ndS x = wishS x.wish := by unfold ndS; rw [if_pos hp0]
          rw [en] at hx2
          have HX := Lib.hid hx2
          clear hx hx2 h g0 g1 g2 g3 g4 g5 hs ht1 hp0 en hown hbw BW
          go_wp2_with fail
          refine (implFormatWish (x := x.wish) _ HS.out HT.out f1 f2 f3).mono ?_
          rintro e w8 ⟨rfl, hb8⟩
          have hown8 := own_below HO.out hb8
          have hbw8 := HB.out.trans (hb8.mono hsz2)
          have hsz8 := hbw8.size
          clear HO HB hb8
          go_wp2_with (at_builtin; refine wpList_append_own _ rfl _ _ 59 rfl w.heap.size 9 i0 (.string ⟨#[]⟩) 1 16 Try.underlying59 hi hz0 hz1 hz2 rfl (by decide) _ _ _ rfl (hown8.alloc _) ⟨w8.heap.size, 0, none⟩ 1 1 [_] rfl rfl (one_new _ _ _) (by simp [Value.oneCell']) (by unfold maxLen; omega) (by omega) (by simp; omega) ?_)
          intro v' w3 hown3 hgrow _
          have hbw3 := Lib.hid (app_below hbw8 hown8 hgrow)
          have hown4 : Hid (w3.ownsRow w.heap.size 9 1 v' (k + 1) (((l.map ndS).take (k + 1)).map Value.string)) := by
            refine Lib.hid ?_
            rw [← take_map_snoc HX.out]
            simpa using hown3
          clear hown3 hgrow hown8 hbw8
          go_wp2
          go_roundw
          case rel => exact ⟨k + 1, by omega, by go_num, hown4.out, hbw3.out⟩
          case measure => simp [intOf]; omega
        · have q0 : (x.op == 0) = false := by simpa using hp0
          have en : ndS x = wordS x.op := by unfold ndS; rw [if_neg hp0]
          rw [en] at hx2
          have hp1 : 1 ≤ x.op := by omega
          have HX := Lib.hid hx2
          clear hx hx2 h g0 g1 g2 g3 g4 g5 hs ht1 en hown hbw BW
          have hlit := wordS_at hp1 hop.2
          have hlit2 := hlit
          rw [List.getElem?_toArray] at hlit2
          have hlit3 : ∀ hh, ([Value.string ⟨#[97, 110, 100]⟩, .string ⟨#[116, 104, 101, 110]⟩, .string ⟨#[110, 111, 116]⟩, .string ⟨#[98, 111, 116, 104]⟩] : List Value)[(x.op - 1).toNat]'hh = .string (wordS x.op) := fun hh => by
            rw [List.getElem?_eq_getElem hh] at hlit2
            exact Option.some.inj hlit2
          have hlit5 := hlit2
          rw [show (x.op - 1).toNat = x.op.toNat - 1 by omega] at hlit5
          have hlit4 : ∀ hh, ([Value.string ⟨#[97, 110, 100]⟩, .string ⟨#[116, 104, 101, 110]⟩, .string ⟨#[110, 111, 116]⟩, .string ⟨#[98, 111, 116, 104]⟩] : List Value)[x.op.toNat - 1]'hh = .string (wordS x.op) := fun hh => by
            rw [List.getElem?_eq_getElem hh] at hlit5
            exact Option.some.inj hlit5
          have sw := wordS_size x.op
          have q7 : x.op - 1 < 4 := by have := hop.2; omega
          have q8 : 0 ≤ x.op - 1 := by omega
          have HO2 := Lib.hid (HO.out.alloc (.cells #[Value.string ⟨#[97, 110, 100]⟩, .string ⟨#[116, 104, 101, 110]⟩, .string ⟨#[110, 111, 116]⟩, .string ⟨#[98, 111, 116, 104]⟩] 9))
          have HB2 := Lib.hid (HB.out.alloc hsz2 (.cells #[Value.string ⟨#[97, 110, 100]⟩, .string ⟨#[116, 104, 101, 110]⟩, .string ⟨#[110, 111, 116]⟩, .string ⟨#[98, 111, 116, 104]⟩] 9))
          have hsz3 := HB2.out.size
          have hnew := one_new ((wr.alloc (.cells #[.int .i64 x.op, .int .i64 x.wish.kind, .int .i64 x.wish.field, .int .i64 x.wish.value, .slice A1 n1 c1, .slice E1 m1 d1] 55)).alloc (.cells #[Value.string ⟨#[97, 110, 100]⟩, .string ⟨#[116, 104, 101, 110]⟩, .string ⟨#[110, 111, 116]⟩, .string ⟨#[98, 111, 116, 104]⟩] 9)) (.string (wordS x.op)) 9
          rw [World.size_alloc, World.size_alloc] at hnew
          have hHO2 := HO2.out
          go_wp2_with (at_builtin; refine wpList_append_own _ rfl _ _ 59 rfl w.heap.size 9 i0 (.string ⟨#[]⟩) 1 16 Try.underlying59 hi hz0 hz1 hz2 rfl (by decide) _ _ _ rfl (hHO2.alloc _) ⟨wr.heap.size + 1 + 1, 0, none⟩ 1 1 [_] rfl rfl hnew (by simp [Value.oneCell']) (by unfold maxLen; omega) (by omega) (by simp; omega) ?_)
          intro v' w3 hown3 hgrow _
          have hbw3 := Lib.hid (app_below HB2.out HO2.out hgrow)
          have hown4 : Hid (w3.ownsRow w.heap.size 9 1 v' (k + 1) (((l.map ndS).take (k + 1)).map Value.string)) := by
            refine Lib.hid ?_
            rw [← take_map_snoc HX.out]
            simpa using hown3
          clear hown3 hgrow
          go_wp2
          go_roundw
          case rel => exact ⟨k + 1, by omega, by go_num, hown4.out, hbw3.out⟩
          case measure => simp [intOf]; omega
      · have hl : (l.map ndS).length = n := by rw [List.length_map, HL.out]
        have e : (l.map ndS).take k = l.map ndS := List.take_of_length_le (by omega)
        rw [e, show k = (l.map ndS).length by omega] at hown
        obtain ⟨A', n', c', e', hS⟩ := own_strs hown (fun x hx => by have := HF.out x hx; unfold maxLen; omega)
        subst e'
        have hn' : n' ≤ 1048576 := by have := hS.len; omega
        clear hl e hown h
        go_wp2_with fail
        refine (glued _ hS hn' (by decide) HF.out).mono ?_
        rintro e w2 ⟨rfl, hb2⟩
        clear hS
        go_wp2
        go_ret
        exact ⟨ret_str HE.out.symm, hbw.trans (hb2.mono hbw.size)⟩
end Go.Proofs.Ytgjghpaenliliaa.Wk

namespace Go.Proofs.Ytgjghpaenliliaa.Wk
open Go.RowKit Go.Proofs.Ytgjghpaenliliaa.M
set_option linter.unusedVariables false

set_option maxHeartbeats 3200000 in
set_option maxRecDepth 100000 in
theorem FnExactFormatExpression_no0 (w : World) (v0 : Value) (x0 : List Nd) (e0 : V RN 6 w w.heap.size v0 x0)  (hbad : 1048576 < totN x0) : Calls Try.prog 3 #[v0] w fun e w' => e = .returned (.bool true) ∧ Below w.heap.size w w' := by
  obtain ⟨A0, n0, c0, rfl, S0⟩ := e0
  have HS0 := Lib.hid S0
  have B0 := Below.refl w.heap.size w
  clear S0
  go_enter Try.func3, Try.ntmps3
  go_wp2_with fail
  refine (sz_nodes _ (HS0.out.on RN.keeps B0) (by omega) (by omega)).mono ?_
  rintro e w1 ⟨rfl, b1⟩
  have B1 := B0.trans (b1.mono B0.size)
  clear  b1
  rw [less_no (left := 1048576) (t := totN x0) (by omega)]
  go_wp2_with fail
  go_ret
  exact ⟨rfl, B1⟩
set_option maxHeartbeats 3200000 in
set_option maxRecDepth 100000 in
theorem FnExactFormatExpression_yes (w : World) (v0 : Value) (x0 : List Nd) (e0 : V RN 6 w w.heap.size v0 x0) (hfit : totN x0 ≤ 1048576) : Calls Try.prog 3 #[v0] w fun e w' => e = .returned (.bool true) ∧ Below w.heap.size w w' := by
  obtain ⟨A0, n0, c0, rfl, S0⟩ := e0
  have HS0 := Lib.hid S0
  have B0 := Below.refl w.heap.size w
  clear S0
  go_enter Try.func3, Try.ntmps3
  go_wp2_with fail
  refine (sz_nodes _ (HS0.out.on RN.keeps B0) (by omega) (by omega)).mono ?_
  rintro e w1 ⟨rfl, b1⟩
  have B1 := B0.trans (b1.mono B0.size)
  clear  b1
  rw [less_fit (left := 1048576) (t := totN x0) (by omega)]
  go_wp2_with fail
  refine (to_nodes _ (HS0.out.on RN.keeps B1) (by omega)).mono ?_
  rintro e w2 ⟨A2, n2, c2, rfl, S2, b2⟩
  have B2 := B1.trans (b2.mono B1.size)
  skip
  clear b2
  go_wp2_with fail
  refine (specFormatExpression _ S2).mono ?_
  rintro e w3 ⟨rfl, b3⟩
  have B3 := B2.trans (b3.mono B2.size)
  clear  b3
  clear S2
  go_wp2_with fail
  refine (to_nodes _ (HS0.out.on RN.keeps B3) (by omega)).mono ?_
  rintro e w4 ⟨A4, n4, c4, rfl, S4, b4⟩
  have B4 := B3.trans (b4.mono B3.size)
  skip
  clear b4
  go_wp2_with fail
  refine (implFormatExpression _ S4).mono ?_
  rintro e w5 ⟨rfl, b5⟩
  have B5 := B4.trans (b5.mono B4.size)
  skip
  have S4 := S4.on RN.keeps b5
  clear b5
  go_wp2_with fail
  refine (to_nodes _ (HS0.out.on RN.keeps B5) (by omega)).mono ?_
  rintro e w6 ⟨A6, n6, c6, rfl, S6, b6⟩
  have B6 := B5.trans (b6.mono B5.size)
  skip
  have S4 := S4.on RN.keeps b6
  clear b6
  go_wp2_with fail
  refine (eq_nodes _ S4 S6).mono ?_
  rintro e w7 ⟨rfl, b7⟩
  have B7 := B6.trans (b7.mono B6.size)
  skip
  have S4 := S4.on RN.keeps b7
  clear b7 S6
  go_wp2_with fail
  go_ret
  exact ⟨rfl, B7⟩
theorem FnExactFormatExpression  (w : World) (v0 : Value) (x0 : List Nd) (e0 : V RN 6 w w.heap.size v0 x0) : Calls Try.prog 3 #[v0] w fun e w' => e = .returned (.bool true) ∧ Below w.heap.size w w' := by
  by_cases h0 : 1048576 < totN x0
  · exact FnExactFormatExpression_no0 w v0 x0 e0  h0
  exact FnExactFormatExpression_yes w v0 x0 e0 (by omega)
end Go.Proofs.Ytgjghpaenliliaa.Wk

namespace Go.Proofs.Ytgjghpaenliliaa
open Go Go.RowKit Go.ChangeShapes Go.WideShapes Go.Deep Go.Proofs.Ytgjghpaenliliaa.M

theorem op_node {H : Type} {enc : TypeId × Value → H} {W : World} {P : Program} {e ti tw : TypeId} {f0 f1 : Field} (hs : P.underlying e = some (.struct #[f0, f1])) (hi : P.underlying ti = some (.int .i64)) (hC : P.cellsOf e = 6) (hci : P.cellsOf ti = 1) (hcw : P.cellsOf tw = 5)
    (t0 : f0.type = ti) (t1 : f1.type = tw) (o0 : f0.offset = 0) (o1 : f1.offset = 1) (opw : ∀ fuel cs (x : DataW H × List MemPlace), DataW.trod enc P W 0 (fun _ => true) true fuel tw cs = some x → ∃ a, RW W W.heap.size a cs)
    {fuel : Nat} {cs : List Value} {x : DataW H × List MemPlace} (h : DataW.trod enc P W 0 (fun _ => true) true fuel e cs = some x) : ∃ a, RN W W.heap.size a cs := by
  obtain ⟨xs, n, _, _, hcl, hxl, hg⟩ := DataW.trod_struct hs h
  obtain ⟨y0, h0⟩ := field_at hxl hg 0 f0 rfl
  obtain ⟨y1, h1⟩ := field_at hxl hg 1 f1 rfl
  rw [hC] at hcl
  rw [t0, o0, hci] at h0
  rw [t1, o1, hcw] at h1
  match cs, hcl with
  | c0 :: rest, hcl =>
    have hr : rest.length = 5 := by simpa using hcl
    obtain ⟨a, e0, _, w0⟩ := DataW.trod_int hi h0
    have e1 : ((c0 :: rest).drop 1).take 5 = rest := by rw [List.drop_one, List.tail_cons]; exact List.take_of_length_le (Nat.le_of_eq hr)
    rw [e1] at h1
    obtain ⟨b, hb⟩ := opw _ _ _ h1
    simp at e0
    subst e0
    exact ⟨⟨a, b⟩, rest, rfl, fit_wf w0, hb⟩
theorem cells_node : Try.prog.cellsOf 49 = 6 := by kernel_rfl
set_option maxRecDepth 100000 in
theorem opN {H : Type} {enc : TypeId × Value → H} {W : World} {fuel : Nat} {cs : List Value} {x : DataW H × List MemPlace} (h : DataW.trod enc Try.prog W 0 (fun _ => true) true fuel 49 cs = some x) : ∃ a, RN W W.heap.size a cs :=
  op_node Try.underlying49 Try.underlying3 cells_node cells_int cells_wish rfl rfl rfl rfl (fun _ _ _ hh => opW hh) h
set_option maxRecDepth 100000 in
theorem open_nodes {H : Type} {enc : TypeId × Value → H} {W : World} {b0 : Nat} {v : Value} {d : DataW H} {p : List MemPlace} (hv : Value.okWide Try.prog W .any b0 22 v) (h : DataW.Trod enc Try.prog W 0 (fun _ => true) true 22 v d p) : ∃ l, V RN 6 W W.heap.size v l :=
  trod_slice_V Try.underlying22 cells_node (by omega) (fun _ _ _ hh => opN hh) hv h
end Go.Proofs.Ytgjghpaenliliaa

namespace Go.Proofs.Ytgjghpaenliliaa.LFnExactFormatExpression
open Go.ChangeShapes Go.WideShapes Go.ChangeAt Go.RowKit
open Go.ChangeMaps (open_string shut_string)
set_option linter.unusedVariables false

theorem own : ownKnob Try.prog.godebug = none := by kernel_rfl
theorem laidOut : laidOutB Try.prog = true := by kernel_rfl

set_option maxRecDepth 100000 in
theorem lifted (os : Os) (started : os.Started) (H : Type) (enc : TypeId × Value → H) :
    ReturnsInHanded {} Try.checked os 3 .any (Rows.fnExactFormatExpressionSpec.pre6 enc Try.prog Try.f3 Rows.fnExactFormatExpressionRow.domain false) (Rows.fnExactFormatExpressionSpec.post enc Try.prog Try.f3 false true false false) := by
  refine returnsInHanded_of_change (C := Try.checked) own started (by kernel_rfl) Try.func3
    (ChangeSpec.witness6 (enc := enc) (C := Try.checked) false ⟨#[], #[.slice none 0 0], []⟩ 8 (by kernel_rfl) (by kernel_rfl) (by kernel_rfl) (by kernel_rfl)) ?_
  intro W base args ds gs before hval0 hW hcnd _
  have hval : ∀ (j : Nat) t v, Try.f3.params[j]? = some t → args[j]? = some v → Value.okWide Try.prog W .any base t v := hval0
  have hW' := hW
  obtain ⟨p, q, hA0, hV, rfl, hfz, hnd⟩ := hW
  have hA : DataW.TrodAll enc Try.prog W 0 (fun _ => true) true Try.f3.params.toList args.toList ds p := hA0
  rw [Try.params3] at hA hval
  obtain ⟨v0, vs0, d0, ds0, p0, q0, hargs, rfl, rfl, h0, r0⟩ := trodAll_cons hA
  obtain ⟨rfl, rfl, rfl⟩ := trodAll_nil r0
  obtain rfl : args = #[v0] := by cases args; simp_all
  obtain ⟨rfl, rfl⟩ := trodVars_none hV
  have k0 := h0
  have lt0 : ∀ x ∈ p0, x.block < W.heap.size := by obtain ⟨m, hm⟩ := k0; exact DataW.trod_lt m _ _ _ hm
  obtain ⟨l0, w0⟩ := open_nodes (hval 0 22 v0 rfl rfl) h0
  clear hA0 hval0
  refine (Wk.FnExactFormatExpression (w := W) v0 l0 w0).mono fun e W' ⟨he, bel⟩ => ?_
  subst he
  exact ⟨_, rfl, _, _, _, [], _, [], hW', trodAll_mk1 (shut_bool Try.underlying4 _), (trodAll_cons_mk (Below.trod laidOut (by kernel_rfl) (of_decide_eq_true (by kernel_rfl)) k0 bel lt0) trodAll_mk0), rfl, bel.frame _, fun h => by cases h⟩

/-- The given statement. -/
theorem proved : Rows.FnExactFormatExpressionSaid :=
  OpenClaim.holds_of_wide 3 Try.f3 rfl rfl rfl rfl rfl rfl rfl ⟨rfl, rfl, rfl, rfl, rfl⟩ rfl rfl rfl rfl rfl (by as_aux_lemma => kernel_rfl) Try.func3 (by as_aux_lemma => kernel_rfl)
    (of_decide_eq_true (by as_aux_lemma => kernel_rfl)) (by unfold Func.isWrapper; first | (rw [if_pos (by decide +kernel)]; kernel_rfl) | (rw [if_neg (by decide +kernel)]; exact ⟨rfl, rfl⟩))
    (fun os started H enc _ => lifted os started H enc)
#print axioms proved
end Go.Proofs.Ytgjghpaenliliaa.LFnExactFormatExpression
