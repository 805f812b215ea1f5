/-
  The given statement on laws.FnTexts: for every input that the row speaks of, the call returns true and the arguments read as before.
  Conditions: none beyond the row's own.
-/
import Derived.Test.YtphbochfpidgeaaW12
import Derived.Test.YtphbochfpidgeaaW30
import Derived.Test.YtphbochfpidgeaaU1
import Derived.Test.YtphbochfpidgeaaO2
import Derived.Test.YtphbochfpidgeaaM12
import Derived.Test.YtphbochfpidgeaaU5
import Derived.Test.YtphbochfpidgeaaM13
import Derived.Laws.AppendOwnNone
import Derived.Deep.RegionHeld3
import Derived.Deep.AppendLies
import Derived.Maps.AppendAt
import Derived.Test.YtphbochfpidgeaaM20
import Derived.Test.YtphbochfpidgeaaW86
import Derived.Laws.OwnMore
import Derived.Test.YtphbochfpidgeaaP4
import Derived.Test.YtphbochfpidgeaaW16
import Derived.Test.YtphbochfpidgeaaM7
import Derived.Test.YtphbochfpidgeaaP7
import Derived.Test.YtphbochfpidgeaaP3
import Derived.Test.YtphbochfpidgeaaM9
import Derived.Deep.WholeRow
namespace Go.Proofs.Ytphbochfpidgeaa.Wk
open Go.RowKit Go.Proofs.Ytphbochfpidgeaa.M
set_option linter.unusedVariables false
attribute [local go_sem] cell_grow

theorem V_sl {α : Type} {R : Rep α} {sz B n c : Nat} {w : World} {A : Option Addr} {l : List α} (h : V R sz w B (.slice A n c) l) : Sl R sz w B A n c l := by
  obtain ⟨A', n', c', e, hs⟩ := h
  injection e with e1 e2 e3
  subst e1 e2 e3
  exact hs
/-- It returns a wish by value that reads as x. -/
abbrev RetW (w : World) (x : Wi) (e : Ending) (w' : World) : Prop :=
  ∃ A n c E m d, e = .returned (.agg #[.int .i64 x.kind, .int .i64 x.field, .int .i64 x.value, .slice A n c, .slice E m d]) ∧ Sl RI 1 w' w'.heap.size A n c x.list ∧ Sl RP 2 w' w'.heap.size E m d x.pairs ∧ Below w.heap.size w w'
/-- It returns a wish by value, whose rows are the call's own. -/
def RetWO (w : World) (x : Wi) (e : Ending) (w' : World) : Prop :=
  ∃ u v, e = .returned (.agg #[.int .i64 x.kind, .int .i64 x.field, .int .i64 x.value, u, v]) ∧ OwnW w' w.heap.size 3 74 x u v ∧ Below w.heap.size w w'
end Go.Proofs.Ytphbochfpidgeaa.Wk

namespace Go.Proofs.Ytphbochfpidgeaa.Wk
open Go.RowKit Go.Proofs.Ytphbochfpidgeaa.M
set_option linter.unusedVariables false
attribute [local go_sem] cell_grow

/-- How many values a list of nodes holds, the nodes themselves counted too. -/
def totN : List Nd → Nat
  | [] => 0
  | x :: t => 1 + (x.wish.list.length + x.wish.pairs.length) + totN t
def valsN (l : List Nd) (k : Nat) : Nat := ((l.take k).map fun x => x.wish.list.length + x.wish.pairs.length).sum
theorem valsN_succ {l : List Nd} {k : Nat} {x : Nd} (hx : l[k]? = some x) : valsN l (k + 1) = valsN l k + (x.wish.list.length + x.wish.pairs.length) := by
  have hl := (List.getElem?_eq_some_iff.1 hx).1
  unfold valsN
  rw [List.take_succ_eq_append_getElem hl]
  rw [List.getElem?_eq_getElem hl] at hx
  injection hx with hx
  rw [hx]; simp
theorem totN_eq (l : List Nd) : totN l = l.length + valsN l l.length := by
  have : ∀ l : List Nd, totN l = l.length + (l.map fun x => x.wish.list.length + x.wish.pairs.length).sum := by
    intro l
    induction l with
    | nil => rfl
    | cons a t ih => simp only [totN, List.length_cons, List.map_cons, List.sum_cons]; omega
  rw [this]; unfold valsN; rw [List.take_length]
theorem valsN_le (l : List Nd) : ∀ k, valsN l k ≤ valsN l l.length := by
  intro k
  unfold valsN
  rw [List.take_length]
  induction l generalizing k with
  | nil => simp
  | cons a t ih =>
    cases k with
    | zero => simp
    | succ k => simp only [List.take_succ_cons, List.map_cons, List.sum_cons]; have := ih k; omega
abbrev nodeAgg (x : Nd) (u v : Value) : Value := .agg #[.int .i64 x.op, .int .i64 x.wish.kind, .int .i64 x.wish.field, .int .i64 x.wish.value, u, v]
theorem info_node : (Try.prog.info? 83).map (fun i => (i.zero, i.size, i.bytes)) = some (some (.agg #[.int .i64 0, .int .i64 0, .int .i64 0, .int .i64 0, .slice none 0 0, .slice none 0 0]), 6, 80) := by kernel_rfl
def zeroN : NdC := (⟨0, ⟨0, 0, 0, [], []⟩⟩, .slice none 0 0, .slice none 0 0)
theorem made_nodes (n : Nat) : madeCells #[.int .i64 0, .int .i64 0, .int .i64 0, .int .i64 0, .slice none 0 0, .slice none 0 0] (n * 6) = (ndc (List.replicate n zeroN)).toArray := by
  apply Array.ext
  · rw [size_madeCells]; simp [ndc_len]
  · intro j h1 h2
    have hj : j < n * 6 := by rw [size_madeCells] at h1; exact h1
    obtain ⟨a0, a1, a2, a3, a4, a5⟩ := ndc_at (List.replicate n zeroN) (j / 6) zeroN (by rw [List.getElem?_replicate, if_pos (by omega)])
    have e : (madeCells #[.int .i64 0, .int .i64 0, .int .i64 0, .int .i64 0, .slice none 0 0, .slice none 0 0] (n * 6))[j] = (#[Value.int .i64 0, .int .i64 0, .int .i64 0, .int .i64 0, .slice none 0 0, .slice none 0 0])[j % 6]! := by simp [madeCells]
    rw [e]
    have key : ∀ r, r < 6 → j % 6 = r → j = j / 6 * 6 + r := fun r _ h => by omega
    have hr : j % 6 < 6 := Nat.mod_lt _ (by decide)
    rcases (by omega : j % 6 = 0 ∨ j % 6 = 1 ∨ j % 6 = 2 ∨ j % 6 = 3 ∨ j % 6 = 4 ∨ j % 6 = 5) with h0 | h0 | h0 | h0 | h0 | h0
    · rw [h0]; rw [show j / 6 * 6 = j by omega] at a0; obtain ⟨_, hh⟩ := List.getElem?_eq_some_iff.1 a0; simpa [zeroN] using hh.symm
    · rw [h0]; rw [show j / 6 * 6 + 1 = j by omega] at a1; obtain ⟨_, hh⟩ := List.getElem?_eq_some_iff.1 a1; simpa [zeroN] using hh.symm
    · rw [h0]; rw [show j / 6 * 6 + 2 = j by omega] at a2; obtain ⟨_, hh⟩ := List.getElem?_eq_some_iff.1 a2; simpa [zeroN] using hh.symm
    · rw [h0]; rw [show j / 6 * 6 + 3 = j by omega] at a3; obtain ⟨_, hh⟩ := List.getElem?_eq_some_iff.1 a3; simpa [zeroN] using hh.symm
    · rw [h0]; rw [show j / 6 * 6 + 4 = j by omega] at a4; obtain ⟨_, hh⟩ := List.getElem?_eq_some_iff.1 a4; simpa [zeroN] using hh.symm
    · rw [h0]; rw [show j / 6 * 6 + 5 = j by omega] at a5; obtain ⟨_, hh⟩ := List.getElem?_eq_some_iff.1 a5; simpa [zeroN] using hh.symm
/-- It returns a node by value, whose rows are the call's own. -/
def RetNO (w : World) (x : Nd) (e : Ending) (w' : World) : Prop :=
  ∃ u v, e = .returned (.agg #[.int .i64 x.op, .int .i64 x.wish.kind, .int .i64 x.wish.field, .int .i64 x.wish.value, u, v]) ∧ OwnW w' w.heap.size 3 74 x.wish u v ∧ Below w.heap.size w w'
/-- It returns a list of nodes that the call laid. -/
def RetNs (w : World) (l : List Nd) (e : Ending) (w' : World) : Prop := ∃ v, e = .returned v ∧ OwnN w' w.heap.size 83 3 74 v l ∧ Below w.heap.size w w'
end Go.Proofs.Ytphbochfpidgeaa.Wk

namespace Go.Proofs.Ytphbochfpidgeaa.Wk
open Go.RowKit Go.Proofs.Ytphbochfpidgeaa.M
set_option linter.unusedVariables false

/-! ### marks of nodes -/
def cnt1 (x : Nd) : Nat := 4 + x.wish.list.length + 2 * x.wish.pairs.length
def cntN : List Nd → Nat
  | [] => 0
  | x :: t => cnt1 x + cntN t
def mkNd (k : Int) (x : Nd) : Nd := ⟨k, ⟨k + 1, k + 2, k + 3, allI x.wish.list.length (k + 4), allP x.wish.pairs.length (k + 4 + x.wish.list.length)⟩⟩
def allN : List Nd → Int → List Nd
  | [], _ => []
  | x :: t, k => mkNd k x :: allN t (k + cnt1 x)
theorem allN_len : ∀ (l : List Nd) (k : Int), (allN l k).length = l.length
  | [], _ => rfl
  | x :: t, k => by rw [allN, List.length_cons, allN_len t, List.length_cons]
theorem cntN_app : ∀ (l m : List Nd), cntN (l ++ m) = cntN l + cntN m
  | [], m => by simp [cntN]
  | x :: t, m => by simp only [List.cons_append, cntN, cntN_app t m]; omega
theorem cntN_succ {l : List Nd} {i : Nat} {x : Nd} (h : l[i]? = some x) : cntN (l.take (i + 1)) = cntN (l.take i) + cnt1 x := by
  obtain ⟨hl, e⟩ := List.getElem?_eq_some_iff.1 h
  rw [List.take_succ_eq_append_getElem hl, e, cntN_app]; rfl
theorem cntN_le (l : List Nd) (i : Nat) : cntN (l.take i) ≤ cntN l := by
  have := cntN_app (l.take i) (l.drop i)
  rw [List.take_append_drop] at this; omega
theorem allN_at : ∀ {l : List Nd} {k : Int} {i : Nat} {x : Nd}, l[i]? = some x → (allN l k)[i]? = some (mkNd (k + cntN (l.take i)) x)
  | [], _, _, _, h => by simp at h
  | y :: t, k, 0, x, h => by
    simp at h; subst h
    simp [allN, cntN]
  | y :: t, k, i + 1, x, h => by
    rw [allN, List.getElem?_cons_succ, allN_at (by simpa using h), List.take_succ_cons, cntN]
    have : k + (cnt1 y : Int) + (cntN (List.take i t) : Int) = k + ((cnt1 y + cntN (List.take i t) : Nat) : Int) := by omega
    rw [this]
theorem fit_allN : ∀ {l : List Nd} {k : Int}, 0 ≤ k → k + cntN l ≤ 4611686018427387904 → ∀ x ∈ allN l k, FitN x
  | [], _, _, _, x, hx => by simp [allN] at hx
  | y :: t, k, h0, h1, x, hx => by
    have hc : cntN (y :: t) = cnt1 y + cntN t := rfl
    rw [hc] at h1
    have hcy : cnt1 y = 4 + y.wish.list.length + 2 * y.wish.pairs.length := rfl
    rw [allN] at hx
    rcases List.mem_cons.1 hx with rfl | hx
    · refine ⟨by unfold Fit mkNd; simp only; omega, by unfold Fit mkNd; simp only; omega, by unfold Fit mkNd; simp only; omega, by unfold Fit mkNd; simp only; omega, ?_, ?_⟩
      · exact fit_allI (by omega) (by omega)
      · exact fit_allP (by omega) (by omega)
    · exact fit_allN (by omega) (by omega) x hx
/-- Rows that share no block: what turns one of them leaves the others. -/
theorem far_ne {vs : List Value} (h : vs.Pairwise Far) {i j : Nat} {a b : Value} (hij : i ≠ j) (ha : vs[i]? = some a) (hb : vs[j]? = some b) : ∀ g, b.ownBlock = some g → ¬ (a.ownBlock = some g) := by
  intro g hg hh
  obtain ⟨hi, e1⟩ := List.getElem?_eq_some_iff.1 ha
  obtain ⟨hj, e2⟩ := List.getElem?_eq_some_iff.1 hb
  rw [List.pairwise_iff_getElem] at h
  rcases Nat.lt_or_ge i j with hlt | hge
  · rcases h i j hi hj hlt with h1 | h1
    · rw [e1, hh] at h1; cases h1
    · exact h1 (by rw [e1, e2, hh, hg])
  · rcases h j i hj hi (by omega) with h1 | h1
    · rw [e2, hg] at h1; cases h1
    · exact h1 (by rw [e1, e2, hh, hg])
theorem ndv_at : ∀ {ps : List NdC} {j : Nat} {p : NdC}, ps[j]? = some p → (ndv ps)[2 * j]? = some p.2.1 ∧ (ndv ps)[2 * j + 1]? = some p.2.2
  | [], _, _, h => by simp at h
  | q :: t, 0, p, h => by simp at h; subst h; simp [ndv]
  | q :: t, j + 1, p, h => by
    obtain ⟨h1, h2⟩ := ndv_at (ps := t) (j := j) (p := p) (by simpa using h)
    have e : ndv (q :: t) = q.2.1 :: q.2.2 :: ndv t := rfl
    rw [e, show 2 * (j + 1) = 2 * j + 1 + 1 by omega, List.getElem?_cons_succ, List.getElem?_cons_succ, List.getElem?_cons_succ, List.getElem?_cons_succ]
    exact ⟨h1, h2⟩
theorem ndc_set_app (ps : List NdC) (cs : List Value) {k : Nat} (p : NdC) (h : k < ps.length) (hq : ∀ q, ps[k]? = some q → q.2 = p.2) :
    (((((ndc ps ++ cs).set (k * 6) (.int .i64 p.1.op)).set (k * 6 + 1) (.int .i64 p.1.wish.kind)).set (k * 6 + 2) (.int .i64 p.1.wish.field)).set (k * 6 + 3) (.int .i64 p.1.wish.value)) = ndc (ps.set k p) ++ cs := by
  have hl := ndc_len ps
  have h0 := ndc_set ps k p
  obtain ⟨q, hq1⟩ : ∃ q, ps[k]? = some q := ⟨_, List.getElem?_eq_getElem h⟩
  have h2 := hq q hq1
  obtain ⟨_, _, _, _, a4, a5⟩ := ndc_at ps k q hq1
  rw [set_app (by omega), set_app (by simp only [List.length_set]; omega), set_app (by simp only [List.length_set]; omega), set_app (by simp only [List.length_set]; omega)]
  congr 1
  rw [← h0]
  have s4 : ∀ (L : List Value), L[k * 6 + 4]? = some p.2.1 → L.set (k * 6 + 4) p.2.1 = L := fun L hL => by
    apply List.ext_getElem?
    intro t
    rw [List.getElem?_set]
    by_cases e : k * 6 + 4 = t
    · subst e
      rw [if_pos rfl, if_pos (List.getElem?_eq_some_iff.1 hL).1, hL]
    · rw [if_neg e]
  have s5 : ∀ (L : List Value), L[k * 6 + 5]? = some p.2.2 → L.set (k * 6 + 5) p.2.2 = L := fun L hL => by
    apply List.ext_getElem?
    intro t
    rw [List.getElem?_set]
    by_cases e : k * 6 + 5 = t
    · subst e
      rw [if_pos rfl, if_pos (List.getElem?_eq_some_iff.1 hL).1, hL]
    · rw [if_neg e]
  rw [s4 _ (by
    rw [List.getElem?_set_ne (by omega), List.getElem?_set_ne (by omega), List.getElem?_set_ne (by omega), List.getElem?_set_ne (by omega), a4, h2]), s5 _ (by
    rw [List.getElem?_set_ne (by omega), List.getElem?_set_ne (by omega), List.getElem?_set_ne (by omega), List.getElem?_set_ne (by omega), a5, h2])]
def OwnNd (w : World) (lo hi : Nat) (v : Value) (l : List Nd) : Prop :=
  ∃ ps : List NdC, ps.map (·.1) = l ∧ (∀ p ∈ ps, OwnW w lo 3 74 p.1.wish p.2.1 p.2.2 ∧ Und p.2.1 hi ∧ Und p.2.2 hi) ∧ (ndv ps).Pairwise Far ∧ w.ownsRow lo 83 6 v l.length (ndc ps) ∧ Und v hi ∧ ∀ u ∈ ndv ps, Far u v
def RetNd (w : World) (l : List Nd) (e : Ending) (w' : World) : Prop := ∃ v, e = .returned v ∧ OwnNd w' w.heap.size w'.heap.size v l ∧ Below w.heap.size w w'
section
variable {w w' : World} {lo hi lo' hi' : Nat} {v : Value} {l : List Nd}
theorem OwnNd.of (h : OwnN w lo 83 3 74 v l) : OwnNd w lo w.heap.size v l := by
  obtain ⟨ps, h1, h2, h3, h4⟩ := h
  exact ⟨ps, h1, fun p hp => ⟨h2.each p hp, own_und (h2.each p hp).1, own_und (h2.each p hp).2.1⟩, h2.apart, h3, own_und h3, h4⟩
theorem OwnNd.below (h : OwnNd w lo hi v l) (hb : Below w.heap.size w w') : OwnNd w' lo hi v l := by
  obtain ⟨ps, h1, h2, h3, h4, h5, h6⟩ := h
  exact ⟨ps, h1, fun p hp => ⟨(h2 p hp).1.below hb, (h2 p hp).2⟩, h3, own_below h4 hb, h5, h6⟩
theorem OwnNd.rng (h : OwnNd w lo hi v l) (hc : Chg (Rng lo' hi') w w') (hd : hi' ≤ lo ∨ hi ≤ lo') : OwnNd w' lo hi v l := by
  obtain ⟨ps, h1, h2, h3, h4, h5, h6⟩ := h
  exact ⟨ps, h1, fun p hp => ⟨⟨own_rng (h2 p hp).1.1 (h2 p hp).2.1 hc hd, own_rng (h2 p hp).1.2.1 (h2 p hp).2.2 hc hd, (h2 p hp).1.2.2⟩, (h2 p hp).2⟩, h3, own_rng h4 h5 hc hd, h5, h6⟩
theorem OwnNd.ownN (h : OwnNd w lo hi v l) : OwnN w lo 83 3 74 v l := by
  obtain ⟨ps, h1, h2, h3, h4, h5, h6⟩ := h
  exact ⟨ps, h1, ⟨fun p hp => (h2 p hp).1, h3⟩, h4, h6⟩
theorem OwnNd.read (h : OwnNd w lo hi v l) (hf : ∀ x ∈ l, FitN x) : V RN 6 w w.heap.size v l := h.ownN.read hf
end
theorem fitNsV {w : World} {B : Nat} {v : Value} {l : List Nd} (h : V RN 6 w B v l) : ∀ x ∈ l, FitN x := by
  obtain ⟨A, n, c, rfl, hs⟩ := h
  exact fitNs hs
end Go.Proofs.Ytphbochfpidgeaa.Wk

namespace Go.Proofs.Ytphbochfpidgeaa.M
open Go Go.RowKit

section
variable {P : Program} {w : World} {ops : Array Oper} {rest : List Oper} {o : Oper} {a : Act} {Q : Exit → Act → World → Prop}
theorem run_append_none (base : Nat) (t ty e : TypeId) (i : TypeInfo) (size : Nat) (ht : P.underlying t = some (.slice e)) (hi : P.info? e = some i)
    (v : Value) (n c : Nat) (xs : List Value) (hown : w.ownsRow base e size v n xs) :
    (Builtin.append_ #[t, t] ty #[v, .slice none 0 c]).run P w = .ok v w := by
  rcases hown.2 with ⟨rfl, rfl⟩ | ⟨g, cap, cur, rfl, _, _, hnc, _⟩
  · simp [Builtin.append_, run_underlying ht, sizeOf, typeInfo, hi, Builtin.lenOf, Builtin.firstCells]
  · simp [Builtin.append_, run_underlying ht, sizeOf, typeInfo, hi, Builtin.lenOf, Builtin.firstCells, hnc, storeCells]
theorem wpList_append_none (hgd : o.guard = none) (s x : Operand) (t : TypeId)
    (ho : o.op = .call { callee := .builtin .append, args := #[s, x], argTypes := #[t, t] })
    (base : Nat) (e : TypeId) (i : TypeInfo) (size : Nat) (ht : P.underlying t = some (.slice e)) (hi : P.info? e = some i)
    (v : Value) (n c : Nat) (xs : List Value) (hs : a.eval s = v) (hown : w.ownsRow base e size v n xs) (hx : a.eval x = .slice none 0 c)
    (h : wpList P ops Q rest (a.put o.dst v) w) : wpList P ops Q (o :: rest) a w := by
  refine wpList_plain hgd fun K hK => ?_
  have hrun := run_append_none (P := P) (w := w) base t o.type e i size ht hi v n c xs hown
  unfold Oper.wp
  simp [execOp, ho, resolve, invoke, builtin, hs, hx, hrun, Result.andThen]
  exact hK _ _ h
/-- The source is any slice whose cells are known. -/
theorem append_slice (hgd : o.guard = none) (s x : Operand) (t : TypeId)
    (ho : o.op = .call { callee := .builtin .append, args := #[s, x], argTypes := #[t, t] })
    (base : Nat) (e : TypeId) (i : TypeInfo) (z : Value) (size bytes : Nat) (ht : P.underlying t = some (.slice e)) (hi : P.info? e = some i) (hz : i.zero = some z)
    (hsize : i.size = size) (hby : i.bytes = bytes) (hzs : z.cells.size = size) (hsz : 0 < size)
    (v : Value) (n : Nat) (xs : List Value) (hs : a.eval s = v) (hown : w.ownsRow base e size v n xs)
    (A : Option Addr) (m c : Nat) (news : List Value) (hx : a.eval x = .slice A m c) (hl : news.length = m * size) (hA : 0 < m → A ≠ none) (hnews : ∀ ad, A = some ad → ∀ j u, news[j]? = some u → w.cell? (ad.add j) = some u) (h1 : ∀ u ∈ news, u.oneCell' = true)
    (h63 : n + m ≤ maxLen) (hbytes : (n + m) * bytes ≤ 140737488355328) (hbase : base ≤ w.heap.size)
    (h : ∀ v' w', w'.ownsRow base e size v' (n + m) (xs ++ news) → w.grownBy w' v.ownBlock → wpList P ops Q rest (a.put o.dst v') w') : wpList P ops Q (o :: rest) a w := by
  cases A with
  | some ad => exact wpList_append_own w hgd s x t ho base e i z size bytes ht hi hz hsize hby hzs hsz v n xs hs hown ad m c news hx hl (hnews ad rfl) h1 h63 hbytes hbase fun v' w' h2 h3 _ => h v' w' h2 h3
  | none =>
    have hm : m = 0 := by
      rcases Nat.eq_zero_or_pos m with h0 | h0
      · exact h0
      · exact absurd rfl (hA h0)
    subst hm
    have hn0 : news = [] := List.eq_nil_of_length_eq_zero (by omega)
    subst hn0
    exact wpList_append_none hgd s x t ho base e i size ht hi v n c xs hs hown hx (h v w (by simpa using hown) ⟨rfl, rfl, rfl, Nat.le_refl _, fun _ _ _ => rfl⟩)
end
section
variable {w : World} {B n c : Nat} {A : Option Addr}
theorem slI_some {α : Type} {R : Rep α} {sz : Nat} {l : List α} (h : Sl R sz w B A n c l) : 0 < n → A ≠ none := fun hn => by
  obtain ⟨b, o, e, _⟩ := h.at_ hn
  rw [e]; simp
theorem slI_cells {xs : List Int} (h : Sl RI 1 w B A n c xs) : ∀ ad, A = some ad → ∀ j u, (xs.map (Value.int .i64))[j]? = some u → w.cell? (ad.add j) = some u := by
  intro ad hA j u hu
  rw [List.getElem?_map] at hu
  cases hx : xs[j]? with
  | none => rw [hx] at hu; cases hu
  | some x =>
    rw [hx] at hu
    simp at hu
    subst hu
    have hj : j < n := by have := (List.getElem?_eq_some_iff.1 hx).1; have := h.len; omega
    obtain ⟨b, o, y, e, _, hy, _, hc⟩ := h.int hj
    rw [hx] at hy
    injection hy with hy
    subst hy
    rw [e] at hA
    injection hA with hA
    subst hA
    have e0 : (⟨b, o, none⟩ : Addr).add j = ⟨b, o + j, none⟩ := by by_cases h0 : j = 0 <;> simp [Addr.add, h0]
    rw [e0]; exact hc
theorem slP_cells {l : List (Int × Int)} (h : Sl RP 2 w B A n c l) : ∀ ad, A = some ad → ∀ j u, (prc l)[j]? = some u → w.cell? (ad.add j) = some u := by
  intro ad hA j u hu
  have hjl : j < l.length * 2 := by have := (List.getElem?_eq_some_iff.1 hu).1; rw [prc_len] at this; exact this
  have hk : j / 2 < n := by have := h.len; omega
  obtain ⟨b, o, p, e, _, hp, _, _, c0, c1⟩ := pairAt h hk
  rw [e] at hA
  injection hA with hA
  subst hA
  have e0 : (⟨b, o, none⟩ : Addr).add j = ⟨b, o + j, none⟩ := by by_cases h0 : j = 0 <;> simp [Addr.add, h0]
  rw [e0]
  obtain ⟨p0, p1⟩ := prc_at l _ _ hp
  rcases Nat.mod_two_eq_zero_or_one j with h0 | h0
  · rw [show j / 2 * 2 = j by omega] at p0 c0
    rw [p0] at hu
    injection hu with hu
    rw [← hu]; exact c0
  · rw [show j / 2 * 2 + 1 = j by omega] at p1
    rw [show o + j / 2 * 2 + 1 = o + j by omega] at c1
    rw [p1] at hu
    injection hu with hu
    rw [← hu]; exact c1
theorem ints_one (xs : List Int) : ∀ u ∈ xs.map (Value.int .i64), u.oneCell' = true := by
  intro u hu
  obtain ⟨x, _, rfl⟩ := List.mem_map.1 hu
  rfl
theorem prc_one (l : List (Int × Int)) : ∀ u ∈ prc l, u.oneCell' = true := by
  intro u hu
  unfold prc itc at hu
  obtain ⟨p, hp, hup⟩ := List.mem_flatMap.1 hu
  obtain ⟨q, _, rfl⟩ := List.mem_map.1 hp
  simp [p2] at hup
  rcases hup with rfl | rfl <;> rfl
end
end Go.Proofs.Ytphbochfpidgeaa.M

namespace Go.Proofs.Ytphbochfpidgeaa.M
open Go Go.RowKit

/-- The rows of a list of nodes that the call is laying. -/
structure PartN (w : World) (lo EN E EP : Nat) (v : Value) (ps : List NdC) : Prop where
  rows : OwnNs w lo E EP ps
  out : w.ownsRow lo EN 6 v ps.length (ndc ps)
  far : ∀ u ∈ ndv ps, Far u v
section
variable {w w' w8 wA w1 : World} {lo lo2 EN E EP gg cap : Nat} {v u1 u2 : Value} {ps : List NdC} {x : Nd}
theorem PartN.below (h : PartN w lo EN E EP v ps) (hb : Below w.heap.size w w') : PartN w' lo EN E EP v ps := ⟨h.rows.below hb, own_below h.out hb, h.far⟩
theorem PartN.nil (w : World) (EN E EP : Nat) : PartN (w.alloc (.cells #[] EN)) w.heap.size EN E EP (.slice (some ⟨w.heap.size, 0, none⟩) 0 0) [] :=
  ⟨OwnNs.nil _ _ _ _, own_emptyS w EN 6, fun u hu => absurd hu (by simp [ndv])⟩
theorem PartN.append (h : PartN w lo EN E EP v ps) (hb : Below w.heap.size w w8) (hn : OwnW w8 lo2 E EP x.wish u1 u2) (hlo2 : w.heap.size ≤ lo2) (hlo : lo ≤ w.heap.size) (hA : Below w8.heap.size w8 wA) (hg : wA.grownBy w1 v.ownBlock)
    (hown1 : w1.ownsRow lo EN 6 (.slice (some ⟨gg, 0, none⟩) (ps.length + 1) cap) (ps.length + 1) (ndc ps ++ nd6 (x, u1, u2))) (hat : v.ownBlock = some gg ∨ gg = wA.heap.size) :
    PartN w1 lo EN E EP (.slice (some ⟨gg, 0, none⟩) (ps.length + 1) cap) (ps ++ [(x, u1, u2)]) := by
  have S := h.rows.snoc (p := (x, u1, u2)) hb hn hlo2 (by omega)
  have key : ∀ u ∈ ndv (ps ++ [(x, u1, u2)]), ∀ q, u.ownBlock = some q → v.ownBlock ≠ some q := by
    intro u hu q hq hv
    rw [ndv_snoc] at hu
    have hvl := (h.out.lt q hv).2
    rcases List.mem_append.1 hu with hu | hu
    · rcases h.far u hu with h1 | h1
      · rw [hq] at h1; cases h1
      · exact h1 (hq.trans hv.symm)
    · simp at hu
      rcases hu with rfl | rfl
      · have := (hn.1.lt q hq).1; omega
      · have := (hn.2.1.lt q hq).1; omega
  have SA := S.below hA
  refine ⟨⟨fun p hp => ?_, S.apart⟩, ?_, fun u hu => ?_⟩
  · obtain ⟨a1, a2, a3⟩ := SA.each p hp
    have m1 : p.2.1 ∈ ndv (ps ++ [(x, u1, u2)]) := List.mem_flatMap.2 ⟨p, hp, by simp⟩
    have m2 : p.2.2 ∈ ndv (ps ++ [(x, u1, u2)]) := List.mem_flatMap.2 ⟨p, hp, by simp⟩
    exact ⟨own_grown a1 hg (fun q hq e => key _ m1 q hq e.symm), own_grown a2 hg (fun q hq e => key _ m2 q hq e.symm), a3⟩
  · rw [ndc_snoc, List.length_append]
    exact hown1
  · cases hq : u.ownBlock with
    | none => exact .inl hq
    | some q =>
      refine .inr fun hh => ?_
      rw [hq] at hh
      have hgq : gg = q := by
        simp [Value.ownBlock] at hh
        exact hh.symm
      rcases hat with h1 | h1
      · exact key u hu q hq (by rw [h1, hgq])
      · have h2 := (S.lt hu hq).2
        have h3 := hA.size
        omega
end
end Go.Proofs.Ytphbochfpidgeaa.M

namespace Go.Proofs.Ytphbochfpidgeaa.Wk
open Go.RowKit Go.Proofs.Ytphbochfpidgeaa.M
set_option linter.unusedVariables false
attribute [local go_sem] cell_grow

theorem info_i4 : (Try.prog.info? 3).map (fun i => (i.zero, i.size, i.bytes)) = some (some (.int .i64 0), 1, 8) := by kernel_rfl
theorem info_p4 : (Try.prog.info? 74).map (fun i => (i.zero, i.size, i.bytes)) = some (some (.agg #[.int .i64 0, .int .i64 0]), 2, 16) := by kernel_rfl
set_option maxHeartbeats 800000 in
theorem copyInts {A : Option Addr} {n c : Nat} {xs : List Int} (w : World) (h : Sl RI 1 w w.heap.size A n c xs) (hn : n ≤ 1048576) :
    Calls Try.prog 89 #[.slice A n c] w fun e w' => ∃ v, e = .returned v ∧ w'.ownsRow w.heap.size 3 1 v xs.length (xs.map (Value.int .i64)) ∧ Below w.heap.size w w' := by
  obtain ⟨i0, hi, hz0, hz1, hz2⟩ := info_parts info_i4
  have BW := (Below.refl w.heap.size w).alloc (Nat.le_refl _) (.cells #[] 3)
  have h1 := h.on RI.keeps BW
  have hl := h.len
  have HC := Lib.hid (slI_cells h1)
  have HS := Lib.hid (slI_some h1)
  have hown := own_emptyS w 3 1
  clear h h1
  go_enter Try.func89, Try.ntmps89
  go_wp2_with (at_builtin; refine append_slice rfl _ _ 24 rfl w.heap.size 3 i0 (.int .i64 0) 1 8 Try.underlying24 hi hz0 hz1 hz2 rfl (by decide) _ 0 [] rfl hown A n c (xs.map (Value.int .i64)) rfl (by rw [List.length_map]; omega) HS.out HC.out (ints_one xs) (by unfold maxLen; omega) (by omega) (by simp) ?_)
  intro v' w4 hown4 hgrow
  have hbw4 := Lib.hid (BW.grown hgrow BW.size (fun k hk => (hown.lt k hk).1))
  have hown5 : Hid (w4.ownsRow w.heap.size 3 1 v' xs.length (xs.map (Value.int .i64))) := by
    refine Lib.hid ?_
    rw [hl]
    simpa using hown4
  clear hown4 hgrow hown
  go_wp2
  go_ret
  exact ⟨_, rfl, hown5.out, hbw4.out⟩
set_option maxHeartbeats 1600000 in
set_option maxRecDepth 100000 in
theorem copyWish {A E : Option Addr} {n c m d : Nat} {x : Wi} (w : World) (h : Sl RI 1 w w.heap.size A n c x.list) (g : Sl RP 2 w w.heap.size E m d x.pairs) (hn : n ≤ 1048576) (hm : m ≤ 1048576) :
    Calls Try.prog 84 #[.agg #[.int .i64 x.kind, .int .i64 x.field, .int .i64 x.value, .slice A n c, .slice E m d]] w (RetWO w x) := by
  obtain ⟨i0, hi, hz0, hz1, hz2⟩ := info_parts info_p4
  have B2 := ((Below.refl w.heap.size w).alloc (Nat.le_refl _) (.cells [Value.int .i64 x.kind, .int .i64 x.field, .int .i64 x.value, .slice A n c, .slice E m d].toArray 39)).alloc (by simp) (.cells [Value.int .i64 0, .int .i64 0, .int .i64 0, .slice none 0 0, .slice none 0 0].toArray 39)
  have R0 := (Row.new w 39 [.int .i64 x.kind, .int .i64 x.field, .int .i64 x.value, .slice A n c, .slice E m d]).alloc (.cells [Value.int .i64 0, .int .i64 0, .int .i64 0, .slice none 0 0, .slice none 0 0].toArray 39)
  have R1 := Row.new (w.alloc (.cells [Value.int .i64 x.kind, .int .i64 x.field, .int .i64 x.value, .slice A n c, .slice E m d].toArray 39)) 39 [.int .i64 0, .int .i64 0, .int .i64 0, .slice none 0 0, .slice none 0 0]
  have H2 := h.on RI.keeps B2
  have G2 := g.on RP.keeps B2
  have gl := g.len
  clear h
  go_enter Try.func84, Try.ntmps84
  go_wp2_with fail
  refine (copyInts _ H2 hn).mono ?_
  rintro e w1 ⟨v1, rfl, ho1, b1⟩
  obtain ⟨A1, c1, rfl, _, _⟩ := own_form ho1
  have R0 := R0.below b1 (by simp; omega)
  have R1 := R1.below b1 (by simp)
  have BB := B2.trans (b1.mono B2.size)
  simp only [World.size_alloc] at R1 ho1
  have z2 : w.heap.size + 1 + 1 ≤ w1.heap.size := by have := b1.size; simp at this; omega
  have BS := BB.setCell (p := ⟨w.heap.size, 3, none⟩) (Nat.le_refl _) (.slice A1 x.list.length c1)
  have S0 := (R0.set 3 (.slice A1 x.list.length c1)).alloc (.cells #[] 74)
  have S1 := (R1.far (p := ⟨w.heap.size, 3, none⟩) (by simp) (.slice A1 x.list.length c1)).alloc (.cells #[] 74)
  have OS := (ownsRow_setCell_below ho1 (a := ⟨w.heap.size, 3, none⟩) (by simp; omega) (.slice A1 x.list.length c1)).alloc (.cells #[] 74)
  have hz : (w1.setCell ⟨w.heap.size, 3, none⟩ (.slice A1 x.list.length c1)).heap.size = w1.heap.size := by simp
  have BS2 := BS.alloc (by rw [hz]; omega) (.cells #[] 74)
  have OP := own_emptyS (w1.setCell ⟨w.heap.size, 3, none⟩ (.slice A1 x.list.length c1)) 74 2
  rw [hz] at OP
  have G4 := g.on RP.keeps BS2
  have HC := Lib.hid (slP_cells G4)
  have HS := Lib.hid (slI_some G4)
  have hsW2 : ((w1.setCell ⟨w.heap.size, 3, none⟩ (.slice A1 x.list.length c1)).alloc (.cells #[] 74)).heap.size = w1.heap.size + 1 := by simp
  have hoA : ∀ q, (Value.slice A1 x.list.length c1).ownBlock = some q → w.heap.size + 1 + 1 ≤ q ∧ q < w1.heap.size := fun q hq => ho1.lt q hq
  have c00 := R0.cell 0
  have c01 := R0.cell 1
  have c02 := R0.cell 2
  have c03 := R0.cell 3
  have c04 := R0.cell 4
  have f03 := R0.free 3
  have f04 := R0.free 4
  simp at c00 c01 c02 c03 c04
  have z0 := R0.lt
  have z1 := R1.lt
  clear ho1 G4 G2 H2 g BB B2 b1
  go_wp2_with (at_builtin; refine append_slice rfl _ _ 31 rfl w1.heap.size 74 i0 (.agg #[.int .i64 0, .int .i64 0]) 2 16 Try.underlying31 hi hz0 hz1 hz2 rfl (by decide) _ 0 [] rfl OP E m d (prc x.pairs) rfl (by rw [prc_len]; omega) HS.out HC.out (prc_one x.pairs) (by unfold maxLen; omega) (by omega) (by rw [hsW2]; omega) ?_)
  intro v' w4 hown4 hgrow
  have hne : ∀ k, (Value.slice (some ⟨w1.heap.size, 0, none⟩) 0 0).ownBlock = some k → k = w1.heap.size := fun k hk => by injection hk with hk; exact hk.symm
  have Q0 := S0.grown hgrow (fun e => by have := hne _ e.symm; omega)
  have Q1 := S1.grown hgrow (fun e => by have := hne _ e.symm; omega)
  have OA := own_grown OS hgrow (fun q hq e => by have := hne _ e.symm; have := (hoA q hq).2; omega)
  have B4 := Lib.hid (BS2.grown hgrow BS2.size (fun k hk => by have := hne k hk; omega))
  obtain ⟨E2, d2, rfl, _, _⟩ := own_form hown4
  have OB : Hid (w4.ownsRow w1.heap.size 74 2 (.slice E2 m d2) x.pairs.length (prc x.pairs)) := by
    refine Lib.hid ?_
    have h3 : w4.ownsRow w1.heap.size 74 2 (.slice E2 m d2) m (prc x.pairs) := by simpa using hown4
    rw [gl]
    exact h3
  have HFar : Hid (Far (.slice A1 x.list.length c1) (.slice E2 m d2)) := by
    cases hv : (Value.slice A1 x.list.length c1).ownBlock with
    | none => exact .inl hv
    | some q =>
      refine .inr fun hh => ?_
      rw [hv] at hh
      have g1 := (hoA q hv).2
      have g2 := (hown4.lt q hh.symm).1
      omega
  have HOA := Lib.hid OA
  have q00 := Q0.cell 0
  have q01 := Q0.cell 1
  have q02 := Q0.cell 2
  have q03 := Q0.cell 3
  have q04 := Q0.cell 4
  have h04 := Q0.free 4
  have q10 := Q1.cell 0
  have q11 := Q1.cell 1
  have q12 := Q1.cell 2
  have q13 := Q1.cell 3
  have q14 := Q1.cell 4
  have h10 := Q1.free 0
  have h11 := Q1.free 1
  have h12 := Q1.free 2
  have h13 := Q1.free 3
  have h14 := Q1.free 4
  have y0 := Q0.lt
  have y1 := Q1.lt
  simp at q00 q01 q02 q03 q04 q10 q11 q12 q13 q14
  clear S0 S1 OS BS2 OP hown4 hgrow OA Q0 Q1 R0 R1 BS HC HS hne c00 c01 c02 c03 c04 f03 f04
  go_wp2
  refine bodyPost_ret (v := .agg #[.int .i64 x.kind, .int .i64 x.field, .int .i64 x.value, .slice A1 x.list.length c1, .slice E2 m d2]) (by simp [results, Try.results84, go_sem, q10, q11, q12, q13, q14]) rfl ?_
  refine ⟨_, _, rfl, OwnW.mono (lo := w.heap.size + 1 + 1) ?_ (by omega), ?_⟩
  · repeat (refine OwnW.far ?_ (by first | (simp; done) | (simp; omega)) _)
    exact ⟨HOA.out, own_mono OB.out (by omega), HFar.out⟩
  · repeat (refine Below.setCell ?_ (by first | (simp; done) | (simp; omega)) _)
    exact B4.out
theorem copyWishE {A E : Option Addr} {n c m d : Nat} {x : Wi} (w : World) (h : Sl RI 1 w w.heap.size A n c x.list) (g : Sl RP 2 w w.heap.size E m d x.pairs) (hn : n ≤ 1048576) (hm : m ≤ 1048576) :
    Calls Try.prog 84 #[.agg #[.int .i64 x.kind, .int .i64 x.field, .int .i64 x.value, .slice A n c, .slice E m d]] w fun e w' => ∃ A2 c2 E2 d2, e = .returned (.agg #[.int .i64 x.kind, .int .i64 x.field, .int .i64 x.value, .slice A2 x.list.length c2, .slice E2 x.pairs.length d2]) ∧ OwnW w' w.heap.size 3 74 x (.slice A2 x.list.length c2) (.slice E2 x.pairs.length d2) ∧ Below w.heap.size w w' :=
  (copyWish w h g hn hm).mono fun e w' ⟨u, v, he, ho, hb⟩ => by
    obtain ⟨A2, c2, rfl, _, _⟩ := own_form ho.1
    obtain ⟨E2, d2, rfl, _, _⟩ := own_form ho.2.1
    exact ⟨A2, c2, E2, d2, he, ho, hb⟩
theorem six_new (w : World) (a b c d e f : Value) (t : TypeId) : ∀ j u, [a, b, c, d, e, f][j]? = some u → (w.alloc (.cells #[a, b, c, d, e, f] t)).cell? ((⟨w.heap.size, 0, none⟩ : Addr).add j) = some u := by
  intro j u hj
  match j, hj with
  | 0, hj => simp at hj; subst hj; simp [Addr.add]
  | 1, hj => simp at hj; subst hj; simp [Addr.add]
  | 2, hj => simp at hj; subst hj; simp [Addr.add]
  | 3, hj => simp at hj; subst hj; simp [Addr.add]
  | 4, hj => simp at hj; subst hj; simp [Addr.add]
  | 5, hj => simp at hj; subst hj; simp [Addr.add]
  | j + 6, hj => simp at hj
theorem below_of_drew {W w8 : World} (h : Below W.drew.heap.size W.drew w8) : Below W.heap.size W w8 := (Below.refl W.heap.size W).drew.trans h
theorem row_of_drew {w w8 : World} {E : TypeId} {xs : List Value} (h : Below (w.alloc (.cells xs.toArray E)).drew.heap.size (w.alloc (.cells xs.toArray E)).drew w8) : Row w8 w.heap.size E xs :=
  (Row.new w E xs).drew.below h (by
    have : (w.alloc (.cells xs.toArray E)).drew.heap.size = (w.alloc (.cells xs.toArray E)).heap.size := rfl
    rw [this]; simp)
theorem sl_drew {α : Type} {R : Rep α} {sz n c : Nat} {A : Option Addr} {l : List α} {w : World} (h : Sl R sz w w.heap.size A n c l) (K : Keeps R) : Sl R sz w.drew w.drew.heap.size A n c l := h.on K (Below.refl _ _).drew
theorem lt_alloc_drew (w : World) (o : Obj) : w.heap.size < (w.alloc o).drew.heap.size := by
  have : (w.alloc o).drew.heap.size = (w.alloc o).heap.size := rfl
  rw [this]; simp
/-- What a region holds on to of a box of six cells. -/
theorem boxS {w' : World} {g : Nat} {E : TypeId} {a b c d e f : Value} (h : Row w' g E [a, b, c, d, e, f]) :
    Row w' g E [a, b, c, d, e, f] ∧ w'.cell? ⟨g, 0, none⟩ = some a ∧ w'.cell? ⟨g, 1, none⟩ = some b ∧ w'.cell? ⟨g, 2, none⟩ = some c ∧ w'.cell? ⟨g, 3, none⟩ = some d ∧ w'.cell? ⟨g, 4, none⟩ = some e ∧ w'.cell? ⟨g, 5, none⟩ = some f :=
  ⟨h, h.cell 0, h.cell 1, h.cell 2, h.cell 3, h.cell 4, h.cell 5⟩
theorem size_le_alloc (w : World) (o : Obj) : w.heap.size ≤ (w.alloc o).heap.size := by simp
theorem ones6 {a b c d e f : Value} (h1 : a.oneCell' = true) (h2 : b.oneCell' = true) (h3 : c.oneCell' = true) (h4 : d.oneCell' = true) (h5 : e.oneCell' = true) (h6 : f.oneCell' = true) : ∀ u ∈ [a, b, c, d, e, f], u.oneCell' = true := by
  intro u hu
  simp at hu
  rcases hu with rfl | rfl | rfl | rfl | rfl | rfl <;> assumption
set_option maxHeartbeats 3200000 in
set_option maxRecDepth 100000 in
theorem copyNodes {A : Option Addr} {n c : Nat} {l : List Nd} (w : World) (h : Sl RN 6 w w.heap.size A n c l) (hn : n ≤ 1048576) (hfit : ∀ x ∈ l, x.wish.list.length ≤ 1048576 ∧ x.wish.pairs.length ≤ 1048576) : Calls Try.prog 68 #[.slice A n c] w (RetNd w l) := by
  obtain ⟨i0, hi, hz0, hz1, hz2⟩ := info_parts info_node
  have HL := Lib.hid h.len
  have HFI := Lib.hid hfit
  go_enter Try.func68, Try.ntmps68
  go_wp2
  go_loopw [3, 5, 9] (fun vo v5 vk wr => ∃ (k : Nat) (ps : List NdC), k ≤ n ∧ vk = .int .i64 k ∧ Hid (ps.map (·.1) = l.take k) ∧ Hid (ps.length = k) ∧ PartN wr w.heap.size 83 3 74 vo ps ∧ Below w.heap.size w wr) (fun _ _ vk _ => n - (intOf vk).toNat)
  case atStart => exact ⟨0, [], Nat.zero_le _, rfl, rfl, rfl, PartN.nil w _ _ _, (Below.refl _ _).alloc (Nat.le_refl _) _⟩
  case round =>
    clear hfit
    obtain ⟨k, ps, hk, rfl, HM, HPL, hpart, hbw⟩ := hrel
    by_cases hlt : k < n
    · obtain ⟨b, o, x, A1, n1, c1, E1, m1, d1, rfl, hb, hx, hf, hs, ht1, g0, g1, g2, g3, g4, g5⟩ := nodeAt h hlt
      have e0 := ((cell_of hbw) b (o + k * 6) hb).trans g0
      have e1 := ((cell_of hbw) b (o + k * 6 + 1) hb).trans g1
      have e2 := ((cell_of hbw) b (o + k * 6 + 2) hb).trans g2
      have e3 := ((cell_of hbw) b (o + k * 6 + 3) hb).trans g3
      have e4 := ((cell_of hbw) b (o + k * 6 + 4) hb).trans g4
      have e5 := ((cell_of hbw) b (o + k * 6 + 5) hb).trans g5
      have hsz := hbw.size
      have BW := (Below.refl wr.heap.size wr).alloc (Nat.le_refl _) (.cells #[.int .i64 x.op, .int .i64 x.wish.kind, .int .i64 x.wish.field, .int .i64 x.wish.value, .slice A1 n1 c1, .slice E1 m1 d1] 83)
      have HS := Lib.hid ((hs.on RI.keeps hbw).on RI.keeps BW)
      have HT := Lib.hid ((ht1.on RP.keeps hbw).on RP.keeps BW)
      have HPT := Lib.hid (hpart.below BW)
      have HB := Lib.hid (hbw.trans (BW.mono hsz))
      obtain ⟨fl, fp⟩ := HFI.out x (List.mem_of_getElem? hx)
      have n1e : n1 ≤ 1048576 := by have := hs.len; omega
      have m1e : m1 ≤ 1048576 := by have := ht1.len; omega
      have HX := Lib.hid hx
      obtain ⟨A', c', hv, _, _⟩ := own_form hpart.out
      subst hv
      have hpl := HPL.out
      subst hpl
      have h63 : ps.length + 1 ≤ maxLen := by unfold maxLen; omega
      have hby : (ps.length + 1) * 80 ≤ 140737488355328 := by omega
      have hw : (wr.alloc (.cells #[.int .i64 x.op, .int .i64 x.wish.kind, .int .i64 x.wish.field, .int .i64 x.wish.value, .slice A1 n1 c1, .slice E1 m1 d1] 83)).heap.size = wr.heap.size + 1 := by simp
      have hne : some wr.heap.size ≠ (Value.slice A' ps.length c').ownBlock := fun e => by have := (hpart.out.lt _ e.symm).2; omega
      clear h hx g0 g1 g2 g3 g4 g5 hs ht1 hpart hbw BW hf
      go_wp2_with fail
      go_region_held3 (fun w' => Row w' wr.heap.size 83 [.int .i64 x.op, .int .i64 x.wish.kind, .int .i64 x.wish.field, .int .i64 x.wish.value, .slice A1 n1 c1, .slice E1 m1 d1] ∧ w'.cell? ⟨wr.heap.size, 0, none⟩ = some (.int .i64 x.op) ∧ w'.cell? ⟨wr.heap.size, 1, none⟩ = some (.int .i64 x.wish.kind) ∧ w'.cell? ⟨wr.heap.size, 2, none⟩ = some (.int .i64 x.wish.field) ∧ w'.cell? ⟨wr.heap.size, 3, none⟩ = some (.int .i64 x.wish.value) ∧ w'.cell? ⟨wr.heap.size, 4, none⟩ = some (.slice A1 n1 c1) ∧ w'.cell? ⟨wr.heap.size, 5, none⟩ = some (.slice E1 m1 d1)) (first | exact boxS (Row.new wr 83 [.int .i64 x.op, .int .i64 x.wish.kind, .int .i64 x.wish.field, .int .i64 x.wish.value, .slice A1 n1 c1, .slice E1 m1 d1]).drew | exact boxS hR8 | exact boxS (hR8.alloc _) | exact boxS ((hR8.alloc _).grown hgrow hne) | fail) (first | (go_simp; go_at_call 84; with_reducible (refine (copyWishE (x := x.wish) _ (sl_drew HS.out RI.keeps) (sl_drew HT.out RP.keeps) n1e m1e).mono ?_); rintro e w8 ⟨A2, c2, E2, d2, rfl, how, hb8⟩; have hR8 := row_of_drew hb8; have hS8 := below_of_drew hb8; have hs8 : w.heap.size ≤ w8.heap.size := Nat.le_trans HB.out.size hS8.size) | (refine step_append_lies _ (by rfl) _ _ _ (by rfl) w.heap.size 83 i0 _ 6 80 Try.underlying44 hi hz0 hz1 hz2 rfl (Nat.zero_lt_succ 5) _ _ _ (by rfl) ((HPT.out.below hS8).out.alloc _) ⟨w8.heap.size, 0, none⟩ 1 1 [.int .i64 x.op, .int .i64 x.wish.kind, .int .i64 x.wish.field, .int .i64 x.wish.value, .slice A2 x.wish.list.length c2, .slice E2 x.wish.pairs.length d2] (by rfl) (by rfl) (six_new _ _ _ _ _ _ _ _) (ones6 rfl rfl rfl rfl rfl rfl) Nat.one_pos h63 hby (Nat.le_trans hs8 (size_le_alloc _ _)) _ rfl ?_; intro gg cap w1 hown1 hgrow hat hgl) | fail)
      have hP1 : Hid (PartN w1 w.heap.size 83 3 74 (.slice (some ⟨gg, 0, none⟩) (ps.length + 1) cap) (ps ++ [(x, .slice A2 x.wish.list.length c2, .slice E2 x.wish.pairs.length d2)])) :=
        HPT.out.append (x := x) hS8 how (by first | exact Nat.le_refl _ | (simp; done)) HB.out.size ((Below.refl w8.heap.size w8).alloc (Nat.le_refl _) _) hgrow hown1 hat
      have hB1 := Lib.hid (((HB.out.trans (hS8.mono HB.out.size)).alloc hs8 (.cells #[.int .i64 x.op, .int .i64 x.wish.kind, .int .i64 x.wish.field, .int .i64 x.wish.value, .slice A2 x.wish.list.length c2, .slice E2 x.wish.pairs.length d2] 83)).grown hgrow (by simp; omega) (fun q hq => (HPT.out.out.lt q hq).1))
      have HM2 : Hid ((ps ++ [(x, Value.slice A2 x.wish.list.length c2, Value.slice E2 x.wish.pairs.length d2)]).map (·.1) = l.take (ps.length + 1)) := by
        show _ = _
        obtain ⟨hl, e⟩ := List.getElem?_eq_some_iff.1 HX.out
        rw [List.map_append, HM.out, List.take_succ_eq_append_getElem hl, e]
        rfl
      have HPL2 : Hid ((ps ++ [(x, Value.slice A2 x.wish.list.length c2, Value.slice E2 x.wish.pairs.length d2)]).length = ps.length + 1) := by show _ = _; rw [List.length_append]; rfl
      clear how hb8 hS8 hown1 hgrow hat
      go_wp2
      go_roundw
      case rel => exact ⟨ps.length + 1, _, by omega, by go_num, HM2, HPL2, hP1.out, hB1.out⟩
      case measure => simp [intOf]; omega
    · have hkn : k = n := by omega
      obtain ⟨A', c', hv, _, _⟩ := own_form hpart.out
      subst hv
      have HM3 : Hid (ps.map (·.1) = l) := by
        show _ = _
        rw [HM.out, List.take_of_length_le (by have := HL.out; omega)]
      have HO : Hid (OwnNd wr w.heap.size wr.heap.size (.slice A' ps.length c') l) := by
        refine ⟨ps, HM3.out, fun p hp => ⟨hpart.rows.each p hp, own_und (hpart.rows.each p hp).1, own_und (hpart.rows.each p hp).2.1⟩, hpart.rows.apart, ?_, own_und hpart.out, hpart.far⟩
        rw [← HM3.out, List.length_map]
        exact hpart.out
      clear h hpart
      go_wp2
      go_ret
      exact ⟨_, rfl, by first | exact HO.out | (rw [← HPL.out]; exact HO.out), hbw⟩
end Go.Proofs.Ytphbochfpidgeaa.Wk

namespace Go.Proofs.Ytphbochfpidgeaa.M
open Go Go.RowKit

section
variable {P : Program} {w : World} {ops : Array Oper} {rest : List Oper} {o : Oper} {a : Act} {Q : Exit → Act → World → Prop}
theorem append_at (hgd : o.guard = none) (s x : Operand) (t : TypeId)
    (ho : o.op = .call { callee := .builtin .append, args := #[s, x], argTypes := #[t, t] })
    (base : Nat) (e : TypeId) (i : TypeInfo) (z : Value) (size bytes : Nat) (ht : P.underlying t = some (.slice e)) (hi : P.info? e = some i) (hz : i.zero = some z)
    (hsize : i.size = size) (hby : i.bytes = bytes) (hzs : z.cells.size = size) (hsz : 0 < size)
    (v : Value) (n : Nat) (xs : List Value) (hs : a.eval s = v) (hown : w.ownsRow base e size v n xs)
    (A : Option Addr) (m c : Nat) (news : List Value) (hx : a.eval x = .slice A m c) (hl : news.length = m * size) (hA : 0 < m → A ≠ none) (hnews : ∀ ad, A = some ad → ∀ j u, news[j]? = some u → w.cell? (ad.add j) = some u) (h1 : ∀ u ∈ news, u.oneCell' = true)
    (h63 : n + m ≤ maxLen) (hbytes : (n + m) * bytes ≤ 140737488355328) (hbase : base ≤ w.heap.size)
    (h : ∀ v' w', w'.ownsRow base e size v' (n + m) (xs ++ news) → w.grownBy w' v.ownBlock → (v'.ownBlock = v.ownBlock ∨ v'.ownBlock = some w.heap.size) → wpList P ops Q rest (a.put o.dst v') w') : wpList P ops Q (o :: rest) a w := by
  cases A with
  | some ad =>
    obtain ⟨v', w', hr, h2, h3, _, h5⟩ := run_append_own_at (P := P) (w := w) base t o.type e i z size bytes ht hi hz hsize hby hzs hsz v n xs hown ad m c news hl (hnews ad rfl) h1 h63 hbytes hbase
    refine wpList_plain hgd fun K hK => ?_
    unfold Oper.wp
    simp [execOp, ho, resolve, invoke, builtin, hs, hx, hr, Result.andThen]
    exact hK _ _ (h v' w' h2 h3 h5)
  | none =>
    have hm : m = 0 := by
      rcases Nat.eq_zero_or_pos m with h0 | h0
      · exact h0
      · exact absurd rfl (hA h0)
    subst hm
    have hn0 : news = [] := List.eq_nil_of_length_eq_zero (by omega)
    subst hn0
    exact wpList_append_none hgd s x t ho base e i size ht hi v n c xs hs hown hx (h v w (by simpa using hown) ⟨rfl, rfl, rfl, Nat.le_refl _, fun _ _ _ => rfl⟩ (.inl rfl))
end
theorem oneC_of {w : World} {base E sz n : Nat} {v : Value} {xs : List Value} (h : w.ownsRow base E sz v n xs) : v.oneCell' = true := by
  obtain ⟨A, c, rfl, _⟩ := own_form h
  rfl
theorem ndc_one {w : World} {lo E EP : Nat} {ps : List NdC} (h : OwnNs w lo E EP ps) : ∀ u ∈ ndc ps, u.oneCell' = true := by
  intro u hu
  unfold ndc at hu
  obtain ⟨p, hp, hup⟩ := List.mem_flatMap.1 hu
  obtain ⟨h1, h2, _⟩ := h.each p hp
  unfold nd6 at hup
  simp at hup
  rcases hup with rfl | rfl | rfl | rfl | rfl | rfl
  · rfl
  · rfl
  · rfl
  · rfl
  · exact oneC_of h1
  · exact oneC_of h2
theorem own_cells {w : World} {base E sz n : Nat} {A : Option Addr} {m c : Nat} {xs : List Value} (h : w.ownsRow base E sz (.slice A m c) n xs) : (0 < n → A ≠ none) ∧ ∀ ad, A = some ad → ∀ j u, xs[j]? = some u → w.cell? (ad.add j) = some u := by
  rcases h.2 with ⟨h1, h2⟩ | ⟨g, c', cur, h1, h2⟩
  · injection h1 with h1 _ _
    subst h1
    exact ⟨fun h0 => absurd h2 (by omega), fun ad hA => by cases hA⟩
  · injection h1 with e1 _ _
    subst e1
    refine ⟨fun _ => by simp, fun ad hA => ?_⟩
    injection hA with hA
    subst hA
    exact h.cells (g := g) rfl
/-- A list of nodes of the call's own, behind which others are laid. -/
theorem PartN.join {w0 w w' : World} {lo lo2 EN E EP : Nat} {v v' : Value} {ps qs : List NdC} (h1 : PartN w0 lo EN E EP v ps) (hb : Below w0.heap.size w0 w) (h2 : OwnNs w lo2 E EP qs) (hlo2 : w0.heap.size ≤ lo2) (hlo : lo ≤ lo2)
    (hg : w.grownBy w' v.ownBlock) (hown : w'.ownsRow lo EN 6 v' (ps.length + qs.length) (ndc ps ++ ndc qs)) (hat : v'.ownBlock = v.ownBlock ∨ v'.ownBlock = some w.heap.size) : PartN w' lo EN E EP v' (ps ++ qs) := by
  have R1 := h1.rows.below hb
  have hnv : ndv (ps ++ qs) = ndv ps ++ ndv qs := by unfold ndv; rw [List.flatMap_append]
  have hnc : ndc (ps ++ qs) = ndc ps ++ ndc qs := by unfold ndc; rw [List.flatMap_append]
  have key : ∀ u ∈ ndv (ps ++ qs), ∀ q, u.ownBlock = some q → v.ownBlock ≠ some q ∧ q < w.heap.size := by
    intro u hu q hq
    rw [hnv] at hu
    rcases List.mem_append.1 hu with hu | hu
    · refine ⟨fun hv => ?_, (R1.lt hu hq).2⟩
      rcases h1.far u hu with e | e
      · rw [hq] at e; cases e
      · exact e (hq.trans hv.symm)
    · have := h2.lt hu hq
      exact ⟨fun hv => by have := (h1.out.lt q hv).2; omega, this.2⟩
  have AP : (ndv (ps ++ qs)).Pairwise Far := by
    rw [hnv, List.pairwise_append]
    refine ⟨h1.rows.apart, h2.apart, fun a ha c hc => ?_⟩
    cases hva : a.ownBlock with
    | none => exact .inl hva
    | some g =>
      refine .inr fun hh => ?_
      rw [hva] at hh
      have g1 := (h1.rows.lt ha hva).2
      have g2 := (h2.lt hc hh.symm).1
      omega
  refine ⟨⟨fun p hp => ?_, AP⟩, ?_, fun u hu => ?_⟩
  · have m1 : p.2.1 ∈ ndv (ps ++ qs) := List.mem_flatMap.2 ⟨p, hp, by simp⟩
    have m2 : p.2.2 ∈ ndv (ps ++ qs) := List.mem_flatMap.2 ⟨p, hp, by simp⟩
    have a0 : OwnW w lo E EP p.1.wish p.2.1 p.2.2 := by
      rcases List.mem_append.1 hp with hp | hp
      · exact R1.each p hp
      · exact (h2.each p hp).mono hlo
    obtain ⟨a1, a2, a3⟩ := a0
    exact ⟨own_grown a1 hg (fun q hq e => (key _ m1 q hq).1 e.symm), own_grown a2 hg (fun q hq e => (key _ m2 q hq).1 e.symm), a3⟩
  · rw [hnc, List.length_append]
    exact hown
  · cases hq : u.ownBlock with
    | none => exact .inl hq
    | some q =>
      refine .inr fun hh => ?_
      rw [hq] at hh
      obtain ⟨k1, k2⟩ := key u hu q hq
      rcases hat with h3 | h3
      · exact k1 (h3.symm.trans hh.symm)
      · rw [h3] at hh
        injection hh with hh
        omega
/-- A wish that holds nothing. -/
def noWi : Wi := ⟨0, 0, 0, [], []⟩
theorem ownNs_none (w : World) (lo E EP : Nat) (op : Int) : OwnNs w lo E EP [(⟨op, noWi⟩, .slice none 0 0, .slice none 0 0)] := by
  refine ⟨fun p hp => ?_, ?_⟩
  · simp at hp
    subst hp
    exact ⟨World.ownsRow_nil w lo E 1, World.ownsRow_nil w lo EP 2, .inl rfl⟩
  · simp [ndv, Far, Value.ownBlock]
end Go.Proofs.Ytphbochfpidgeaa.M

namespace Go.Proofs.Ytphbochfpidgeaa.M
open Go Go.RowKit
set_option linter.unusedVariables false

/-- Elements with their cells. -/
def gcs {α : Type} (qs : List (α × List Value)) : List Value := qs.flatMap (·.2)
/-- An element that reads by R as long as its own rows stand. -/
structure El {α : Type} (R : Rep α) (sz : Nat) (w : World) (base : Nat) (p : α × List Value) : Prop where
  len : p.2.length = sz
  one : ∀ u ∈ p.2, u.oneCell' = true
  at_ : ∀ u ∈ p.2, ∀ g, u.ownBlock = some g → base ≤ g ∧ g < w.heap.size
  rd : ∀ w' : World, w.heap.size ≤ w'.heap.size → (∀ u ∈ p.2, ∀ g, u.ownBlock = some g → w'.heap[g]? = w.heap[g]?) → R w' w'.heap.size p.1 p.2
structure PartG {α : Type} (R : Rep α) (sz : Nat) (w : World) (base E : Nat) (v : Value) (qs : List (α × List Value)) : Prop where
  row : w.ownsRow base E sz v qs.length (gcs qs)
  el : ∀ p ∈ qs, El R sz w base p
  far : ∀ p ∈ qs, ∀ u ∈ p.2, ∀ g, u.ownBlock = some g → v.ownBlock ≠ some g
section
variable {α : Type} {R : Rep α} {sz p base base' E m : Nat} {w w' : World} {v v' : Value} {q : α × List Value} {qs rs : List (α × List Value)}
theorem gcs_app : gcs (qs ++ rs) = gcs qs ++ gcs rs := by unfold gcs; rw [List.flatMap_append]
theorem gcs_one (q : α × List Value) : gcs [q] = q.2 := by unfold gcs; simp
theorem gcs_len : ∀ {qs : List (α × List Value)}, (∀ p ∈ qs, p.2.length = sz) → (gcs qs).length = qs.length * sz
  | [], _ => by simp [gcs]
  | a :: t, h => by
    have h1 := h a (by simp)
    have h2 := gcs_len (qs := t) (fun p hp => h p (List.mem_cons_of_mem _ hp))
    unfold gcs at *
    rw [List.flatMap_cons, List.length_append, h1, h2, List.length_cons, Nat.add_mul]
    omega
theorem own_same {n : Nat} {xs : List Value} (h : w.ownsRow base E sz v n xs) (ho : ∀ g, v.ownBlock = some g → w'.heap[g]? = w.heap[g]?) : w'.ownsRow base E sz v n xs := by
  obtain ⟨h1, h2⟩ := h
  refine ⟨h1, ?_⟩
  rcases h2 with h2 | ⟨g, c, cur, a1, a2, a3, a4⟩
  · exact .inl h2
  · exact .inr ⟨g, c, cur, a1, a2, (ho g (by rw [a1]; rfl)).trans a3, a4⟩
theorem El.on (h : El R sz w base q) (hs : w.heap.size ≤ w'.heap.size) (ho : ∀ u ∈ q.2, ∀ g, u.ownBlock = some g → w'.heap[g]? = w.heap[g]?) : El R sz w' base q :=
  ⟨h.len, h.one, fun u hu g hg => ⟨(h.at_ u hu g hg).1, Nat.lt_of_lt_of_le (h.at_ u hu g hg).2 hs⟩, fun w'' hs2 h2 => h.rd w'' (Nat.le_trans hs hs2) fun u hu g hg => (h2 u hu g hg).trans (ho u hu g hg)⟩
theorem El.dr (h : El R sz w base q) (hd : Dr p w w') (hp : p < base) : El R sz w' base q :=
  h.on hd.size fun u hu g hg => by have := h.at_ u hu g hg; exact hd.block g this.2 (by omega)
theorem El.below (h : El R sz w base q) (hb : Below w.heap.size w w') : El R sz w' base q := h.on hb.size fun u hu g hg => hb.block g (h.at_ u hu g hg).2
theorem El.mono (h : El R sz w base q) (hb : base' ≤ base) : El R sz w base' q := ⟨h.len, h.one, fun u hu g hg => by have := h.at_ u hu g hg; omega, h.rd⟩
theorem PartG.nil (w : World) (E : Nat) : PartG (α := α) R sz (w.alloc (.cells #[] E)) w.heap.size E (.slice (some ⟨w.heap.size, 0, none⟩) 0 0) [] := ⟨own_emptyS w E sz, fun p hp => absurd hp (by simp), fun p hp => absurd hp (by simp)⟩
theorem PartG.dr (h : PartG R sz w base E v qs) (hd : Dr p w w') (hp : p < base) : PartG R sz w' base E v qs := ⟨own_dr_past h.row hd hp, fun q hq => (h.el q hq).dr hd hp, h.far⟩
theorem PartG.below (h : PartG R sz w base E v qs) (hb : Below w.heap.size w w') : PartG R sz w' base E v qs := ⟨own_below h.row hb, fun q hq => (h.el q hq).below hb, h.far⟩
theorem PartG.mono (h : PartG R sz w base E v qs) (hb : base' ≤ base) : PartG R sz w base' E v qs := ⟨own_mono h.row hb, fun q hq => (h.el q hq).mono hb, h.far⟩
theorem PartG.len (h : PartG R sz w base E v qs) : (gcs qs).length = qs.length * sz := gcs_len fun p hp => (h.el p hp).len
theorem PartG.one (h : PartG R sz w base E v qs) : ∀ u ∈ gcs qs, u.oneCell' = true := by
  intro u hu
  unfold gcs at hu
  obtain ⟨p, hp, hup⟩ := List.mem_flatMap.1 hu
  exact (h.el p hp).one u hup
/-- Others are laid behind. -/
theorem PartG.join (h : PartG R sz w base E v qs) (g : ∀ p ∈ rs, El R sz w base p) (hf : ∀ p ∈ rs, ∀ u ∈ p.2, ∀ g, u.ownBlock = some g → v.ownBlock ≠ some g) (hm : rs.length = m)
    (hg : w.grownBy w' v.ownBlock) (hown : w'.ownsRow base E sz v' (qs.length + m) (gcs qs ++ gcs rs)) (hat : v'.ownBlock = v.ownBlock ∨ v'.ownBlock = some w.heap.size) : PartG R sz w' base E v' (qs ++ rs) := by
  have key : ∀ p ∈ qs ++ rs, El R sz w base p ∧ ∀ u ∈ p.2, ∀ g, u.ownBlock = some g → v.ownBlock ≠ some g := by
    intro p hp
    rcases List.mem_append.1 hp with hp | hp
    · exact ⟨h.el p hp, h.far p hp⟩
    · exact ⟨g p hp, hf p hp⟩
  refine ⟨?_, fun p hp => ?_, fun p hp u hu k hk => ?_⟩
  · rw [gcs_app, List.length_append, hm]; exact hown
  · obtain ⟨k1, k2⟩ := key p hp
    exact k1.on hg.size fun u hu k hk => hg.block k (k1.at_ u hu k hk).2 fun e => k2 u hu k hk e.symm
  · obtain ⟨k1, k2⟩ := key p hp
    rcases hat with e | e
    · rw [e]; exact k2 u hu k hk
    · rw [e]
      intro e2
      injection e2 with e2
      have := (k1.at_ u hu k hk).2
      omega
theorem PartG.V (h : PartG R sz w base E v qs) : V R sz w w.heap.size v (qs.map (·.1)) := by
  refine own_V (css := qs.map (·.2)) (by rw [List.length_map, ← List.flatMap_def]; exact h.row) (by simp) (fun i x cs hx hc => ?_)
  rw [List.getElem?_map] at hx hc
  cases hp : qs[i]? with
  | none => rw [hp] at hx; cases hx
  | some q =>
    rw [hp] at hx hc
    simp at hx hc
    subst hx hc
    have := h.el q (List.mem_of_getElem? hp)
    exact ⟨this.len, this.rd w (Nat.le_refl _) fun _ _ _ _ => rfl⟩
/-- One element in a block of its own. -/
theorem PartG.new (h : El R sz w base q) (hb : base ≤ w.heap.size) : PartG R sz (w.alloc (.cells q.2.toArray E)) base E (.slice (some ⟨w.heap.size, 0, none⟩) 1 1) [q] := by
  refine ⟨?_, fun p hp => ?_, fun p hp u hu k hk e => ?_⟩
  · have := (Row.new w E q.2).own (sz := sz) (m := 1) hb (by rw [h.len, Nat.one_mul]) (by unfold maxLen; omega)
    rw [gcs_one]; exact this
  · simp at hp; subst hp
    exact h.below ((Below.refl w.heap.size w).alloc (Nat.le_refl _) _)
  · simp at hp; subst hp
    have := (h.at_ u hu k hk).2
    simp [Value.ownBlock] at e
    omega
/-- Another row has grown. -/
theorem PartG.grown {row : Option Nat} (h : PartG R sz w base E v qs) (hg : w.grownBy w' row) (hne : ∀ k, row = some k → k < base ∨ w.heap.size ≤ k) : PartG R sz w' base E v qs := by
  have ne : ∀ g, base ≤ g → g < w.heap.size → some g ≠ row := fun g h1 h2 e => by have := hne g e.symm; omega
  exact ⟨own_same h.row fun g hg2 => hg.block g (h.row.lt g hg2).2 (ne g (h.row.lt g hg2).1 (h.row.lt g hg2).2), fun q hq => (h.el q hq).on hg.size fun u hu g hg2 => by
    obtain ⟨h1, h2⟩ := (h.el q hq).at_ u hu g hg2
    exact hg.block g h2 (ne g h1 h2), h.far⟩
theorem PartG.block (h : PartG R sz w base E v qs) {k : Nat} (hk : v.ownBlock = some k) : base ≤ k ∧ k < w.heap.size := h.row.lt k hk
end
/-! ### the elements -/
theorem elNode {w : World} {base E EP : Nat} {x : Nd} {u v : Value} (h : OwnW w base E EP x.wish u v) (hf : FitN x) : El RN 6 w base (x, nd6 (x, u, v)) := by
  obtain ⟨h1, h2, _⟩ := h
  obtain ⟨f0, f1, f2, f3, f4, f5⟩ := hf
  obtain ⟨A, c, e1, _, _⟩ := own_form h1
  obtain ⟨D, d, e2, _, _⟩ := own_form h2
  refine ⟨rfl, ?_, ?_, fun w' hs ho => ?_⟩
  · intro z hz
    simp [nd6] at hz
    rcases hz with rfl | rfl | rfl | rfl | rfl | rfl
    · rfl
    · rfl
    · rfl
    · rfl
    · rw [e1]; rfl
    · rw [e2]; rfl
  · intro z hz g hg
    simp [nd6] at hz
    rcases hz with rfl | rfl | rfl | rfl | rfl | rfl
    · cases hg
    · cases hg
    · cases hg
    · cases hg
    · exact h1.lt g hg
    · exact h2.lt g hg
  · have k1 := own_same h1 (fun g hg => ho u (by simp [nd6]) g hg)
    have k2 := own_same h2 (fun g hg => ho v (by simp [nd6]) g hg)
    exact ⟨_, rfl, f0, _, _, rfl, f1, f2, f3, own_ints k1 f4, own_pairs k2 f5⟩
/-- A node that holds no wish. -/
theorem elBare (w : World) (base E EP : Nat) {x : Nd} (hx : x.wish = ⟨0, 0, 0, [], []⟩) (ho : Fit x.op) : El RN 6 w base (x, [.int .i64 x.op, .int .i64 0, .int .i64 0, .int .i64 0, .slice none 0 0, .slice none 0 0]) := by
  have := elNode (w := w) (base := base) (E := E) (EP := EP) (x := x) (u := .slice none 0 0) (v := .slice none 0 0) (by rw [hx]; exact ⟨World.ownsRow_nil w base E 1, World.ownsRow_nil w base EP 2, .inl rfl⟩) ⟨ho, by rw [hx]; exact ⟨by unfold Fit; simp, by unfold Fit; simp, by unfold Fit; simp, by simp, by simp⟩⟩
  unfold nd6 at this
  rw [hx] at this
  exact this
theorem elItem {w : World} {base E : Nat} {x : It} {u : Value} (h : w.ownsRow base E 1 u x.vals.length (x.vals.map (Value.int .i64))) (hf : Fit x.id ∧ ∀ y ∈ x.vals, Fit y) : El RIt 2 w base (x, [.int .i64 x.id, u]) := by
  obtain ⟨A, c, e1, _, _⟩ := own_form h
  refine ⟨rfl, ?_, ?_, fun w' hs ho => ?_⟩
  · intro z hz
    simp at hz
    rcases hz with rfl | rfl
    · rfl
    · rw [e1]; rfl
  · intro z hz g hg
    simp at hz
    rcases hz with rfl | rfl
    · cases hg
    · exact h.lt g hg
  · have k1 := own_same h (fun g hg => ho u (by simp) g hg)
    exact ⟨_, rfl, hf.1, own_ints k1 hf.2⟩
/-- What reads as a list, whatever becomes of the blocks below base. -/
def DrV {α : Type} (R : Rep α) (sz base : Nat) (w : World) (v : Value) (l : List α) : Prop := ∀ w' : World, w.heap.size ≤ w'.heap.size → (∀ b, base ≤ b → b < w.heap.size → w'.heap[b]? = w.heap[b]?) → V R sz w' w'.heap.size v l
section
variable {α : Type} {R : Rep α} {sz p base base' E : Nat} {w w' : World} {v : Value} {l : List α} {qs : List (α × List Value)}
theorem DrV.on (h : DrV R sz base w v l) (hs : w.heap.size ≤ w'.heap.size) (ho : ∀ b, base ≤ b → b < w.heap.size → w'.heap[b]? = w.heap[b]?) : DrV R sz base w' v l :=
  fun w'' h1 h2 => h w'' (Nat.le_trans hs h1) fun b h3 h4 => (h2 b h3 (Nat.lt_of_lt_of_le h4 hs)).trans (ho b h3 h4)
theorem DrV.dr (h : DrV R sz base w v l) (hd : Dr p w w') (hp : p < base) : DrV R sz base w' v l := h.on hd.size fun b h1 h2 => hd.block b h2 (by omega)
theorem DrV.set (h : DrV R sz base w v l) {a : Addr} (ha : a.block < base) (u : Value) : DrV R sz base (w.setCell a u) v l := h.on (by simp) fun b h1 _ => Below.heap_setCell w a u b (by rintro rfl; omega)
theorem DrV.below (h : DrV R sz base w v l) (hb : Below w.heap.size w w') : DrV R sz base w' v l := h.on hb.size fun b _ h2 => hb.block b h2
theorem DrV.mono (h : DrV R sz base w v l) (hb : base' ≤ base) : DrV R sz base' w v l := fun w' h1 h2 => h w' h1 fun b h3 h4 => h2 b (by omega) h4
theorem DrV.now (h : DrV R sz base w v l) : V R sz w w.heap.size v l := h w (Nat.le_refl _) fun _ _ _ => rfl
theorem PartG.on (h : PartG R sz w base E v qs) (hs : w.heap.size ≤ w'.heap.size) (ho : ∀ b, base ≤ b → b < w.heap.size → w'.heap[b]? = w.heap[b]?) : PartG R sz w' base E v qs :=
  ⟨own_same h.row fun g hg => ho g (h.row.lt g hg).1 (h.row.lt g hg).2, fun q hq => (h.el q hq).on hs fun u hu g hg => ho g ((h.el q hq).at_ u hu g hg).1 ((h.el q hq).at_ u hu g hg).2, h.far⟩
theorem PartG.drV (h : PartG R sz w base E v qs) : DrV R sz base w v (qs.map (·.1)) := fun w' h1 h2 => (h.on h1 h2).V
end
end Go.Proofs.Ytphbochfpidgeaa.M

namespace Go.Proofs.Ytphbochfpidgeaa.Wk
open Go.RowKit Go.Proofs.Ytphbochfpidgeaa.M
set_option linter.unusedVariables false
set_option linter.unusedSimpArgs false
attribute [local go_sem] cell_grow

/-- What a drawn node's wish holds is short. -/
def LenN (x : Nd) : Prop := x.wish.list.length ≤ 5 ∧ x.wish.pairs.length ≤ 5
theorem lenN_bare (op : Int) : LenN ⟨op, ⟨0, 0, 0, [], []⟩⟩ := ⟨Nat.zero_le _, Nat.zero_le _⟩
/-- Nodes drawn, their rows the call's own. -/
def DrNd (w : World) (p m : Nat) (e : Ending) (w' : World) : Prop := ∃ (A : Option Addr) (c : Nat) (qs : List (Nd × List Value)), e = .returned (.slice A qs.length c) ∧ PartG RN 6 w' w.heap.size 83 (.slice A qs.length c) qs ∧ (1 ≤ qs.length ∧ qs.length ≤ m) ∧ Hid (∀ q ∈ qs, LenN q.1) ∧ Cur w' p ∧ Dr p w w'
/-- Nodes drawn, that read so whatever is drawn behind them. -/
def DrNv (w : World) (p m : Nat) (e : Ending) (w' : World) : Prop := ∃ (v : Value) (l : List Nd), e = .returned v ∧ DrV RN 6 w.heap.size w' v l ∧ l.length ≤ m ∧ Hid (∀ x ∈ l, LenN x) ∧ Cur w' p ∧ Dr p w w'
set_option maxHeartbeats 2000000 in
set_option maxRecDepth 100000 in
theorem l5DrawS {p d m m' : Nat} (hd : d ≤ 2) (hm1 : 1 ≤ m) (hm2 : 2 * m' + 1 ≤ m) (hm7 : m ≤ 7) (w : World) (h : Cur w p)
    (ih : Hid (0 < d → ∀ w : World, Cur w p → Calls Try.prog 88 #[.pointer (some ⟨p, 0, none⟩), .int .i64 ((d : Int) - 1)] w (DrNd w p m'))) : Calls Try.prog 88 #[.pointer (some ⟨p, 0, none⟩), .int .i64 d] w (DrNd w p m) := by
  obtain ⟨i0, hi, hz0, hz1, hz2⟩ := info_parts info_node
  have hp := h.lt
  have one : ∀ {w2 w3 : World} {x : Wi} {A : Option Addr} {c : Nat} {E : Option Addr} {d : Nat}, Dr p w w2 → OwnW w3 w2.heap.size 3 74 x (.slice A x.list.length c) (.slice E x.pairs.length d) → Hid (FitW x) → (x.list.length ≤ 4 ∧ x.pairs.length ≤ 4) → Cur w3 p → Dr p w2 w3 → DrNd w p m (.returned (.slice (some ⟨w3.heap.size, 0, none⟩) 1 1)) (w3.alloc (.cells #[.int .i64 0, .int .i64 x.kind, .int .i64 x.field, .int .i64 x.value, .slice A x.list.length c, .slice E x.pairs.length d] 83)) := by
    intro w2 w3 x A c E d D2 hO HF hln hC hD
    have e := elNode (x := ⟨0, x⟩) (hO.mono D2.size) ⟨by unfold Fit; simp, HF.out⟩
    exact ⟨some ⟨w3.heap.size, 0, none⟩, 1, [((⟨0, x⟩ : Nd), [.int .i64 0, .int .i64 x.kind, .int .i64 x.field, .int .i64 x.value, .slice A x.list.length c, .slice E x.pairs.length d])], rfl, PartG.new (E := 83) e (Nat.le_trans D2.size hD.size), ⟨Nat.le_refl _, hm1⟩, (fun q hq => by simp at hq; subst hq; exact ⟨by show x.list.length ≤ 5; omega, by show x.pairs.length ≤ 5; omega⟩), hC.alloc _, (D2.trans hD).alloc _⟩
  by_cases h0 : d = 0
  · subst h0
    go_enter Try.func88, Try.ntmps88
    go_wp2_with fail
    refine (l4Wish _ h).mono ?_
    rintro e w3 ⟨x, A, c, E, d, rfl, hO, HF, hln, hC, hD⟩
    go_wp2
    go_ret
    exact one (Dr.refl p w) hO HF hln hC hD
  · have q0 : ((d : Int) == 0) = false := by simp; omega
    have hd1 : 0 < d := by omega
    have q1 : (d : Int) ≤ 2 := by omega
    have q2 : (1 : Int) ≤ (d : Int) := by omega
    clear h0
    go_enter Try.func88, Try.ntmps88
    go_wp2_with fail
    refine (l1Once _ h (by omega) (by omega)).mono ?_
    rintro e w2 ⟨t, rfl, hC2, hD2⟩
    cases t with
    | true =>
      go_wp2_with fail
      refine (l4Wish _ hC2).mono ?_
      rintro e w3 ⟨x, A, c, E, d, rfl, hO, HF, hln, hC, hD⟩
      go_wp2
      go_ret
      exact one hD2 hO HF hln hC hD
    | false =>
      clear one
      go_wp2_with fail
      refine (l1Below (n := 4) _ hC2 (by omega) (by omega)).mono ?_
      rintro e w3 ⟨b, rfl, b0, b1, hC3, hD3⟩
      have D3 := hD2.trans hD3
      have fb : Fit (1 + b) := by unfold Fit; omega
      clear hC2 hD2 hD3
      by_cases h3 : b = 2
      · subst h3
        go_wp2_with fail
        refine (ih.out hd1 _ hC3).mono ?_
        rintro e w4 ⟨A, c, qs, rfl, hP, hl, hLN, hC4, hD4⟩
        have D4 := D3.trans hD4
        have hP := hP.mono D3.size
        have z4 := D4.size
        have h63 : qs.length + 1 ≤ maxLen := by unfold maxLen; omega
        have hby : (qs.length + 1) * 80 ≤ 140737488355328 := by omega
        have hb4 : ∀ o : Obj, w.heap.size ≤ (w4.alloc o).heap.size := fun o => by rw [World.size_alloc]; omega
        have P4 := Lib.hid hP
        have K4 := Lib.hid hC4
        have L4 := Lib.hid D4
        clear hC3 D3 hD4 hP hC4 D4
        go_wp2_with (at_builtin; refine append_at rfl _ _ 44 rfl w.heap.size 83 i0 _ 6 80 Try.underlying44 hi hz0 hz1 hz2 rfl (Nat.zero_lt_succ 5) _ _ _ rfl (P4.out.row.alloc _) (some ⟨w4.heap.size, 0, none⟩) 1 1 [.int .i64 3, .int .i64 0, .int .i64 0, .int .i64 0, .slice none 0 0, .slice none 0 0] rfl rfl (fun _ => by simp) (fun ad hA => by injection hA with hA; subst hA; exact six_new _ _ _ _ _ _ _ _) (ones6 rfl rfl rfl rfl rfl rfl) h63 hby (hb4 _) ?_)
        intro v' w6 ho6 hg6 ha6
        have bA := (Below.refl w4.heap.size w4).alloc (Nat.le_refl _) (.cells #[.int .i64 3, .int .i64 0, .int .i64 0, .int .i64 0, .slice none 0 0, .slice none 0 0] 83)
        have P6 := (P4.out.below bA).join (rs := [((⟨3, ⟨0, 0, 0, [], []⟩⟩ : Nd), [.int .i64 3, .int .i64 0, .int .i64 0, .int .i64 0, .slice none 0 0, .slice none 0 0])]) (fun q hq => by simp at hq; subst hq; exact elBare _ _ 3 74 rfl (by unfold Fit; simp)) (fun q hq u hu g hg => by simp at hq; subst hq; simp at hu; rcases hu with rfl | rfl | rfl | rfl | rfl | rfl <;> cases hg) rfl hg6 (by rw [gcs_one]; exact ho6) (by rw [World.size_alloc]; exact ha6)
        have C6 := (K4.out.alloc (.cells #[.int .i64 3, .int .i64 0, .int .i64 0, .int .i64 0, .slice none 0 0, .slice none 0 0] 83)).grown hg6 (fun q hq => by have := P4.out.block hq; omega)
        have D6 := (L4.out.alloc (.cells #[.int .i64 3, .int .i64 0, .int .i64 0, .int .i64 0, .slice none 0 0, .slice none 0 0] 83)).grown hg6 (fun q hq => by have := P4.out.block hq; omega)
        obtain ⟨A6, c6, rfl, _, _⟩ := own_form P6.row
        have P7 := Lib.hid P6
        have C7 := Lib.hid C6
        have D7 := Lib.hid D6
        clear P6 C6 D6 ho6 hg6 ha6 bA hb4
        go_wp2
        go_ret
        refine ⟨A6, c6, _, ?_, P7.out, ?_, ?_, C7.out, D7.out⟩
        · first | rfl | (simp; done)
        · simp; omega
        · intro q hq
          rcases List.mem_append.1 hq with hq | hq
          · exact hLN.out q hq
          · simp at hq; subst hq; exact lenN_bare 3
      · have q3 : (1 + b == 3) = false := by simp; omega
        have hm1' : m' ≤ 3 := by omega
        clear h3
        go_wp2_with fail
        refine (ih.out hd1 _ hC3).mono ?_
        rintro e w4 ⟨A, c, qs, rfl, hP, hl, hLN, hC4, hD4⟩
        have D4 := D3.trans hD4
        have hP := hP.mono D3.size
        have z4 := D4.size
        clear hC3 D3 hD4
        go_wp2_with fail
        refine (ih.out hd1 _ hC4).mono ?_
        rintro e w5 ⟨A5, c5, rs, rfl, hR, hl5, hLR, hC5, hD5⟩
        have D5 := D4.trans hD5
        have hP5 := hP.dr hD5 hp
        have hfar : ∀ q ∈ rs, ∀ u ∈ q.2, ∀ g, u.ownBlock = some g → (Value.slice A qs.length c).ownBlock ≠ some g := fun q hq u hu g hg e => by
          have h1 := ((hR.el q hq).at_ u hu g hg).1
          have h2 := (hP.block e).2
          omega
        have hel : ∀ q ∈ rs, El RN 6 w5 w.heap.size q := fun q hq => (hR.el q hq).mono z4
        have z5 := D5.size
        have h63 : qs.length + rs.length ≤ maxLen := by unfold maxLen; omega
        have hby : (qs.length + rs.length) * 80 ≤ 140737488355328 := by omega
        have P5 := Lib.hid hP5
        have R5 := Lib.hid hR
        have K5 := Lib.hid hC5
        have L5 := Lib.hid D5
        have HE := Lib.hid hel
        have HF := Lib.hid hfar
        clear hC4 D4 hD5 hP hP5 hR hC5 D5 hel hfar
        go_wp2_with (at_builtin; refine append_at rfl _ _ 44 rfl w.heap.size 83 i0 _ 6 80 Try.underlying44 hi hz0 hz1 hz2 rfl (Nat.zero_lt_succ 5) _ _ _ rfl P5.out.row A5 rs.length c5 (gcs rs) rfl R5.out.len (own_cells R5.out.row).1 (own_cells R5.out.row).2 R5.out.one h63 hby z5 ?_)
        intro v' w6 ho6 hg6 ha6
        have P6 := P5.out.join HE.out HF.out rfl hg6 ho6 ha6
        have C6 := K5.out.grown hg6 (fun q hq => by have := P5.out.block hq; omega)
        have D6 := L5.out.grown hg6 (fun q hq => by have := P5.out.block hq; omega)
        obtain ⟨A6, c6, rfl, _, _⟩ := own_form P6.row
        have z6 := D6.size
        have hl6 : (qs ++ rs).length = qs.length + rs.length := List.length_append
        have h63b : (qs ++ rs).length + 1 ≤ maxLen := by rw [hl6]; unfold maxLen; omega
        have hbyb : ((qs ++ rs).length + 1) * 80 ≤ 140737488355328 := by rw [hl6]; omega
        have hb6 : ∀ o : Obj, w.heap.size ≤ (w6.alloc o).heap.size := fun o => by rw [World.size_alloc]; omega
        have P7 := Lib.hid P6
        have C7 := Lib.hid C6
        have D7 := Lib.hid D6
        have HL := Lib.hid hl6
        clear P6 C6 D6 ho6 hg6 ha6 hl6 P5 R5 K5 L5 HE HF
        have hLT : Hid (∀ q ∈ qs ++ rs, LenN q.1) := fun q hq => by
          rcases List.mem_append.1 hq with hq | hq
          · exact hLN.out q hq
          · exact hLR.out q hq
        obtain ⟨ts, hts⟩ : ∃ ts, qs ++ rs = ts := ⟨_, rfl⟩
        have hLU : Hid (∀ q ∈ ts, LenN q.1) := by rw [← hts]; exact hLT.out
        clear hLT
        have htl : qs.length + rs.length = ts.length := by rw [← hts]; exact HL.out.symm
        rw [hts] at P7 h63b hbyb
        rw [hts] at *
        clear HL hts
        go_wp2_with (at_builtin; refine append_at rfl _ _ 44 rfl w.heap.size 83 i0 _ 6 80 Try.underlying44 hi hz0 hz1 hz2 rfl (Nat.zero_lt_succ 5) _ _ _ rfl (P7.out.row.alloc _) (some ⟨w6.heap.size, 0, none⟩) 1 1 [.int .i64 (1 + b), .int .i64 0, .int .i64 0, .int .i64 0, .slice none 0 0, .slice none 0 0] rfl rfl (fun _ => by simp) (fun ad hA => by injection hA with hA; subst hA; exact six_new _ _ _ _ _ _ _ _) (ones6 rfl rfl rfl rfl rfl rfl) h63b hbyb (hb6 _) ?_)
        intro v' w8 ho8 hg8 ha8
        have bA := (Below.refl w6.heap.size w6).alloc (Nat.le_refl _) (.cells #[.int .i64 (1 + b), .int .i64 0, .int .i64 0, .int .i64 0, .slice none 0 0, .slice none 0 0] 83)
        have P8 := (P7.out.below bA).join (rs := [((⟨1 + b, ⟨0, 0, 0, [], []⟩⟩ : Nd), [.int .i64 (1 + b), .int .i64 0, .int .i64 0, .int .i64 0, .slice none 0 0, .slice none 0 0])]) (fun q hq => by simp at hq; subst hq; exact elBare _ _ 3 74 rfl fb) (fun q hq u hu g hg => by simp at hq; subst hq; simp at hu; rcases hu with rfl | rfl | rfl | rfl | rfl | rfl <;> cases hg) rfl hg8 (by rw [gcs_one]; exact ho8) (by rw [World.size_alloc]; exact ha8)
        have C8 := (C7.out.alloc (.cells #[.int .i64 (1 + b), .int .i64 0, .int .i64 0, .int .i64 0, .slice none 0 0, .slice none 0 0] 83)).grown hg8 (fun q hq => by have := P7.out.block hq; omega)
        have D8 := (D7.out.alloc (.cells #[.int .i64 (1 + b), .int .i64 0, .int .i64 0, .int .i64 0, .slice none 0 0, .slice none 0 0] 83)).grown hg8 (fun q hq => by have := P7.out.block hq; omega)
        obtain ⟨A8, c8, rfl, _, _⟩ := own_form P8.row
        have P9 := Lib.hid P8
        have C9 := Lib.hid C8
        have D9 := Lib.hid D8
        clear P8 C8 D8 ho8 hg8 ha8 bA hb6 P7 C7 D7
        go_wp2
        go_ret
        refine ⟨A8, c8, _, ?_, P9.out, ?_, ?_, C9.out, D9.out⟩
        · first | rfl | (simp; done)
        · simp; omega
        · intro q hq
          rcases List.mem_append.1 hq with hq | hq
          · exact hLU.out q hq
          · simp at hq; subst hq; exact lenN_bare (1 + b)
theorem l5Draw0 {p : Nat} (w : World) (h : Cur w p) : Calls Try.prog 88 #[.pointer (some ⟨p, 0, none⟩), .int .i64 (0 : Nat)] w (DrNd w p 1) := l5DrawS (m' := 0) (by omega) (by omega) (by omega) (by omega) w h (fun h => absurd h (by omega))
theorem l5Draw1 {p : Nat} (w : World) (h : Cur w p) : Calls Try.prog 88 #[.pointer (some ⟨p, 0, none⟩), .int .i64 (1 : Nat)] w (DrNd w p 3) := l5DrawS (m' := 1) (by omega) (by omega) (by omega) (by omega) w h (fun _ w h => l5Draw0 w h)
theorem l5Draw2 {p : Nat} (w : World) (h : Cur w p) : Calls Try.prog 88 #[.pointer (some ⟨p, 0, none⟩), .int .i64 2] w (DrNd w p 7) := l5DrawS (d := 2) (m' := 3) (by omega) (by omega) (by omega) (by omega) w h (fun _ w h => l5Draw1 w h)
theorem l5Expression {p : Nat} (w : World) (h : Cur w p) : Calls Try.prog 79 #[.pointer (some ⟨p, 0, none⟩)] w (DrNd w p 7) := by
  go_enter Try.func79, Try.ntmps79
  go_wp2_with fail
  refine (l5Draw2 _ h).mono ?_
  rintro e w4 ⟨A, c, qs, rfl, hP, hl, hLN, hC4, hD4⟩
  have q1 : ¬ (9 : Int) < (qs.length : Int) := by omega
  have q2 : (qs.length : Int) ≤ 9 := by omega
  go_wp2
  go_ret
  exact ⟨A, c, qs, rfl, hP, hl, hLN, hC4, hD4⟩
end Go.Proofs.Ytphbochfpidgeaa.Wk

namespace Go.Proofs.Ytphbochfpidgeaa.Wk
open Go.RowKit Go.Proofs.Ytphbochfpidgeaa.M
set_option linter.unusedVariables false
set_option linter.unusedSimpArgs false
attribute [local go_sem] cell_grow

/-- An item drawn, its row the call's own. -/
def DrIt (w : World) (p m : Nat) (e : Ending) (w' : World) : Prop := ∃ (x : It) (A : Option Addr) (c : Nat), e = .returned (.agg #[.int .i64 x.id, .slice A x.vals.length c]) ∧ w'.ownsRow w.heap.size 3 1 (.slice A x.vals.length c) x.vals.length (x.vals.map (Value.int .i64)) ∧ Hid (Fit x.id ∧ ∀ y ∈ x.vals, Fit y) ∧ (3 ≤ x.vals.length ∧ x.vals.length ≤ m) ∧ Cur w' p ∧ Dr p w w'
set_option maxHeartbeats 3000000 in
set_option maxRecDepth 100000 in
theorem l2Item {p : Nat} {id wide : Int} (w : World) (h : Cur w p) (hid : Fit id) (hw0 : 0 < wide) (hw1 : wide ≤ 256) : Calls Try.prog 72 #[.pointer (some ⟨p, 0, none⟩), .int .i64 id, .int .i64 wide] w (DrIt w p 3) := by
  obtain ⟨i0, hi, hz0, hz1, hz2⟩ := info_parts info_i86
  have hp := h.lt
  have hpn : w.heap.size ≠ p := by omega
  have hn1 : w.heap.size + 1 ≠ p := by omega
  have hn4 : w.heap.size ≠ w.heap.size + 1 := by omega
  have hpG : p < w.heap.size + 1 := by omega
  have hwG : w.heap.size ≤ w.heap.size + 1 := by omega
  have R0 := (Row.new w 26 [.int .i64 0, .slice none 0 0]).alloc (.cells #[.int .i64 0, .slice none 0 0] 26)
  have G0 := Row.new (w.alloc (.cells #[.int .i64 0, .slice none 0 0] 26)) 26 [.int .i64 0, .slice none 0 0]
  have G00 := Row.new (w.alloc (.cells #[.int .i64 0, .slice none 0 0] 26)) 26 [.int .i64 id, .slice none 0 0]
  have R00 := (Row.new w 26 [.int .i64 0, .slice none 0 0]).alloc (.cells #[.int .i64 id, .slice none 0 0] 26)
  have sz : (w.alloc (.cells #[.int .i64 0, .slice none 0 0] 26)).heap.size = w.heap.size + 1 := by simp
  rw [sz] at G0 G00
  clear sz
  have z0 : ((w.alloc (.cells #[.int .i64 0, .slice none 0 0] 26)).alloc (.cells #[.int .i64 0, .slice none 0 0] 26)).cell? ⟨w.heap.size + 1, 0, none⟩ = some (.int .i64 0) := G0.cell 0
  have fz0 := G0.free 0
  have z1 : ((w.alloc (.cells #[.int .i64 0, .slice none 0 0] 26)).alloc (.cells #[.int .i64 0, .slice none 0 0] 26)).cell? ⟨w.heap.size + 1, 1, none⟩ = some (.slice none 0 0) := G0.cell 1
  have fz1 := G0.free 1
  have lG0 := G0.lt
  have D0 := ((Dr.refl p w).alloc (.cells #[.int .i64 0, .slice none 0 0] 26))
  have D00 := D0.alloc (.cells #[.int .i64 id, .slice none 0 0] 26)
  have C00 := (h.alloc (.cells #[.int .i64 0, .slice none 0 0] 26)).alloc (.cells #[.int .i64 id, .slice none 0 0] 26)
  go_enter Try.func72, Try.ntmps72
  go_wp2
  go_loopw [8, 9] (fun vi vv wr => ∃ (k : Nat) (xs : List Int) (A : Option Addr) (c : Nat), k ≤ 3 ∧ vi = .int .i64 k ∧ xs.length = k ∧ Hid (∀ y ∈ xs, Fit y) ∧ wr.ownsRow (w.heap.size + 2) 3 1 (.slice A xs.length c) xs.length (xs.map (Value.int .i64)) ∧ Row wr w.heap.size 26 [.int .i64 0, .slice none 0 0] ∧ Row wr (w.heap.size + 1) 26 [.int .i64 id, .slice A xs.length c] ∧ Cur wr p ∧ Dr p w wr) (fun vi _ _ => 3 - (intOf vi).toNat)
  case atStart => exact ⟨0, [], none, 0, Nat.zero_le _, rfl, rfl, fun y hy => absurd hy (by simp), World.ownsRow_nil _ _ _ _, R00, G00, C00, D00⟩
  case round =>
    clear R0 G0 G00 R00 D0 D00 C00 z0 fz0 z1 fz1 lG0
    obtain ⟨k, xs, A, c, hk, rfl, hxk, HF, hown, hR, hG, hC, hD⟩ := hrel
    subst hxk
    obtain ⟨k, hkk⟩ : ∃ k, Hid (k = xs.length) := ⟨_, rfl⟩
    have hlr := hR.lt
    have hlg := hG.lt
    by_cases hlt : xs.length < 3
    · have q1 : (xs.length : Int) < 3 := by omega
      go_wp2_with fail
      refine (l1Below _ hC hw0 (by omega)).mono ?_
      rintro e w4 ⟨v, rfl, v0, v1, hC4, hD4⟩
      have R4 := hR.dr hD4 hpn
      have G4 := hG.dr hD4 hn1
      have D4 := hD.trans hD4
      have O4 := own_dr_past hown hD4 (by omega)
      have hl4 := R4.lt
      have hg4 := G4.lt
      have g1 : w4.cell? ⟨w.heap.size + 1, 1, none⟩ = some (.slice A xs.length c) := G4.cell 1
      have hrow : ∀ q, (Value.slice A xs.length c).ownBlock = some q → w.heap.size + 2 ≤ q := fun q hq => (O4.lt q hq).1
      have h63 : xs.length + 1 ≤ 100 := by omega
      have HR := Lib.hid R4
      have HG := Lib.hid G4
      have HC := Lib.hid hC4
      have HD := Lib.hid D4
      clear hR hG hC hD R4 G4 hC4 D4 hD4 hown
      go_wp2_with (at_builtin; refine wpList_append_own _ rfl _ _ 24 rfl (w.heap.size + 2) 3 i0 (.int .i64 0) 1 8 Try.underlying24 hi hz0 hz1 hz2 rfl (by decide) _ _ _ rfl (O4.alloc _) ⟨w4.heap.size, 0, none⟩ 1 1 [_] rfl rfl (one_new _ _ _) (by simp [Value.oneCell']) (by unfold maxLen; omega) (by omega) (by simp; omega) ?_)
      intro v' w6 hown6 hgrow _
      obtain ⟨A6, c6, rfl, _, _⟩ := own_form hown6
      obtain ⟨ys, hys⟩ : ∃ ys, ys = xs ++ [v] := ⟨_, rfl⟩
      have hlen : xs.length + 1 = ys.length := by rw [hys]; simp
      have emap : ys.map (Value.int .i64) = xs.map (Value.int .i64) ++ [.int .i64 v] := by rw [hys]; simp
      rw [← emap] at hown6
      rw [hlen] at hown6 ⊢
      have hyk : Hid (ys.length = xs.length + 1) := by show _ = _; omega
      have HF2 : Hid (∀ y ∈ ys, Fit y) := fun y hy => by
        have hy : y ∈ ys := hy
        rw [hys] at hy
        rcases List.mem_append.1 hy with hy | hy
        · exact HF.out y hy
        · simp at hy; subst hy; unfold Fit; omega
      have R6 := (HR.out.alloc (.cells #[.int .i64 v] 3)).grown hgrow (fun e => by have := hrow _ e.symm; omega)
      have G6 := (HG.out.alloc (.cells #[.int .i64 v] 3)).grown hgrow (fun e => by have := hrow _ e.symm; omega)
      have C6 := (HC.out.alloc (.cells #[.int .i64 v] 3)).grown hgrow (fun q hq => by have := hrow q hq; omega)
      have D6 := (HD.out.alloc (.cells #[.int .i64 v] 3)).grown hgrow (fun q hq => by have := hrow q hq; omega)
      have gf1 := G6.free 1
      have gc1 : w6.cell? ⟨w.heap.size + 1, 1, none⟩ = some (.slice A xs.length c) := G6.cell 1
      have hlg6 := G6.lt
      have R7 := Lib.hid (R6.far (p := ⟨w.heap.size + 1, 1, none⟩) hn4 (.slice A6 ys.length c6))
      have G7 : Hid (Row (w6.setCell ⟨w.heap.size + 1, 1, none⟩ (.slice A6 ys.length c6)) (w.heap.size + 1) 26 [.int .i64 id, .slice A6 ys.length c6]) := G6.set 1 (.slice A6 ys.length c6)
      have C7 := Lib.hid (C6.set (a := ⟨w.heap.size + 1, 1, none⟩) hpG (.slice A6 ys.length c6))
      have D7 := Lib.hid (D6.new (a := ⟨w.heap.size + 1, 1, none⟩) hwG (.slice A6 ys.length c6))
      have O7 := Lib.hid (ownsRow_setCell_below hown6 (a := ⟨w.heap.size + 1, 1, none⟩) (Nat.lt_succ_self _) (.slice A6 ys.length c6))
      clear hown6 hgrow O4 R6 G6 C6 D6 g1 HR HG HC HD hlen emap hys
      go_wp2
      go_roundw
      case rel => exact ⟨xs.length + 1, ys, A6, c6, by omega, by go_num, hyk.out, HF2, O7.out, R7.out, G7.out, C7.out, D7.out⟩
      case measure => simp [intOf]; omega
    · have q1 : ¬ (xs.length : Int) < 3 := by omega
      have HFI : Hid (Fit id ∧ ∀ y ∈ xs, Fit y) := ⟨hid, HF.out⟩
      have O9 : wr.ownsRow (w.heap.size + 1) 3 1 (.slice A xs.length c) xs.length (xs.map (Value.int .i64)) := own_mono hown (by omega)
      have hlw : w.heap.size < w.heap.size + 1 := Nat.lt_succ_self _
      have hnl : 3 ≤ xs.length ∧ xs.length ≤ 3 := by omega
      have a0 : (wr).cell? ⟨w.heap.size, 0, none⟩ = some (.int .i64 0) := hR.cell 0
      have fa0 := hR.free 0
      have a1 : (wr).cell? ⟨w.heap.size, 1, none⟩ = some (.slice none 0 0) := hR.cell 1
      have fa1 := hR.free 1
      have g0 : (wr).cell? ⟨w.heap.size + 1, 0, none⟩ = some (.int .i64 id) := hG.cell 0
      have fg0 := hG.free 0
      have g1 : (wr).cell? ⟨w.heap.size + 1, 1, none⟩ = some (.slice A xs.length c) := hG.cell 1
      have fg1 := hG.free 1
      clear hR hG hown
      go_wp2
      refine bodyPost_ret (v := .agg #[.int .i64 id, .slice A xs.length c]) (by simp [results, Try.results72, go_sem, *]) rfl ?_
      refine ⟨⟨id, xs⟩, A, c, rfl, own_mono (b' := w.heap.size) (by repeat (first | with_reducible exact O9 | with_reducible refine World.ownsRow.alloc ?_ _ | with_reducible refine ownsRow_setCell_below ?_ (by first | assumption | (simp; omega)) _ | with_reducible refine ownsRow_setCell_other ?_ (by first | assumption | (simp; omega)) _)) (Nat.le_succ _), HFI, hnl, ?_, ?_⟩
      · repeat (first | with_reducible exact hC | with_reducible refine Cur.alloc ?_ _ | with_reducible refine Cur.set ?_ (by first | assumption | (simp; omega)) _)
      · repeat (first | with_reducible exact hD | with_reducible refine Dr.alloc ?_ _ | with_reducible refine Dr.new ?_ (by first | exact Nat.le_refl _ | assumption | (simp; omega)) _)
set_option maxHeartbeats 3000000 in
set_option maxRecDepth 100000 in
theorem l2AnyItem {p : Nat} (w : World) (h : Cur w p) : Calls Try.prog 38 #[.pointer (some ⟨p, 0, none⟩)] w (DrIt w p 5) := by
  obtain ⟨i0, hi, hz0, hz1, hz2⟩ := info_parts info_i86
  have hp := h.lt
  have hpn : w.heap.size ≠ p := by omega
  have R0 := Row.new w 26 [.int .i64 0, .slice none 0 0]
  have D0 := (Dr.refl p w).alloc (.cells #[.int .i64 0, .slice none 0 0] 26)
  go_enter Try.func38, Try.ntmps38
  go_wp2_with fail
  refine (l1Below (n := 6) _ (h.alloc _) (by omega) (by omega)).mono ?_
  rintro e w2 ⟨y, rfl, y0, y1, hC2, hD2⟩
  have R2 := R0.dr hD2 hpn
  have D2 := D0.trans hD2
  have hl2 := R2.lt
  clear R0 D0 hD2
  go_wp2_with fail
  refine (l2Item (wide := 10) _ hC2 (by unfold Fit; omega) (by omega) (by omega)).mono ?_
  rintro e w3 ⟨x, A, c, rfl, hU, HFX, hnl3, hC3, hD3⟩
  have hnl : 3 ≤ x.vals.length ∧ x.vals.length ≤ 5 := by omega
  have R3 := R2.dr hD3 hpn
  have D3 := D2.trans hD3
  have hl3 := R3.lt
  have hU : w3.ownsRow (w.heap.size + 1) 3 1 (.slice A x.vals.length c) x.vals.length (x.vals.map (Value.int .i64)) := own_mono hU (by omega)
  have hU2 : ∀ q, (Value.slice A x.vals.length c).ownBlock = some q → w.heap.size + 1 ≤ q ∧ q < w3.heap.size := fun q hq => hU.lt q hq
  have hp2 : p < w3.heap.size := by omega
  have hw2 : w.heap.size ≤ w3.heap.size := by omega
  have hn2 : w3.heap.size ≠ p := by omega
  have hn4 : w.heap.size ≠ w3.heap.size := by omega
  have hn5 : w3.heap.size ≠ w.heap.size := by omega
  have hlw : w.heap.size < w.heap.size + 1 := Nat.lt_succ_self _
  clear R2 D2 hD3 hC2
  go_wp2_with fail
  refine (l1Below (n := 8) _ (hC3.alloc _) (by omega) (by omega)).mono ?_
  rintro e w4 ⟨k, rfl, k0, k1, hC4, hD4⟩
  have R3 := (R3.alloc _).dr hD4 hpn
  have G3 := (Row.new w3 26 [.int .i64 x.id, .slice A x.vals.length c]).dr hD4 hn2
  have O3 := own_dr_past (hU.alloc (.cells #[.int .i64 x.id, .slice A x.vals.length c] 26)) hD4 (by omega)
  have D3 := (D3.alloc _).trans hD4
  have hC3 := hC4
  have hp3 := hC4.lt
  have hl3 := R3.lt
  have hg3 := G3.lt
  clear hD4 hU hC4
  by_cases e0 : k = 0
  · have t0 : (k == 0) = true := by simp [e0]
    clear e0
    go_wp2_with fail
    refine (l1PickInt (n := 3) (c := 3) (xs := [-1, 99, 100]) _ (hC3.alloc _) (Row.new w4 _ _) rfl (by omega) (by omega) (by omega) (by omega)).mono ?_
    rintro e w5 ⟨v, rfl, hv, hC4, hD4⟩
    have hfv : Fit v := by
      simp at hv
      unfold Fit
      omega
    have R4 := (R3.alloc _).dr hD4 hpn
    have G4 := (G3.alloc _).dr hD4 hn2
    have O4 := own_dr_past (O3.alloc _) hD4 (by omega)
    have D4 := (D3.alloc _).trans hD4
    have NU : (Value.slice A x.vals.length c).ownBlock ≠ some w3.heap.size := fun e => by have := hU2 _ e; omega
    clear hD4
    have G5 : Row (w5.setCell ⟨w3.heap.size, 0, none⟩ (.int .i64 v)) w3.heap.size 26 [.int .i64 v, .slice A x.vals.length c] := G4.set 0 (.int .i64 v)
    have R5 := R4.far (p := ⟨w3.heap.size, 0, none⟩) hn4 (.int .i64 v)
    have hl4 := R4.lt
    have hg4 := G4.lt
    have FX : Hid (Fit v ∧ ∀ y ∈ x.vals, Fit y) := ⟨hfv, HFX.out.2⟩
    have a0 : (w5).cell? ⟨w.heap.size, 0, none⟩ = some (.int .i64 0) := R4.cell 0
    have fa0 := R4.free 0
    have a1 : (w5).cell? ⟨w.heap.size, 1, none⟩ = some (.slice none 0 0) := R4.cell 1
    have fa1 := R4.free 1
    have g0 : (w5).cell? ⟨w3.heap.size, 0, none⟩ = some (.int .i64 x.id) := G4.cell 0
    have fg0 := G4.free 0
    have g1 : (w5).cell? ⟨w3.heap.size, 1, none⟩ = some (.slice A x.vals.length c) := G4.cell 1
    have fg1 := G4.free 1
    have b0 : ((w5.setCell ⟨w3.heap.size, 0, none⟩ (.int .i64 v))).cell? ⟨w.heap.size, 0, none⟩ = some (.int .i64 0) := R5.cell 0
    have fb0 := R5.free 0
    have b1 : ((w5.setCell ⟨w3.heap.size, 0, none⟩ (.int .i64 v))).cell? ⟨w.heap.size, 1, none⟩ = some (.slice none 0 0) := R5.cell 1
    have fb1 := R5.free 1
    have j0 : ((w5.setCell ⟨w3.heap.size, 0, none⟩ (.int .i64 v))).cell? ⟨w3.heap.size, 0, none⟩ = some (.int .i64 v) := G5.cell 0
    have fj0 := G5.free 0
    have j1 : ((w5.setCell ⟨w3.heap.size, 0, none⟩ (.int .i64 v))).cell? ⟨w3.heap.size, 1, none⟩ = some (.slice A x.vals.length c) := G5.cell 1
    have fj1 := G5.free 1
    clear R4 G4 G5 R5 R3 G3 D3 hC3 O3
    go_wp2
    refine bodyPost_ret (v := .agg #[.int .i64 v, .slice A x.vals.length c]) (by simp [results, Try.results38, go_sem, *]) rfl ?_
    refine ⟨⟨v, x.vals⟩, A, c, rfl, own_mono (b' := w.heap.size) (by repeat (first | with_reducible exact O4 | with_reducible refine World.ownsRow.alloc ?_ _ | with_reducible refine ownsRow_setCell_below ?_ (by first | assumption | (simp; omega)) _ | with_reducible refine ownsRow_setCell_other ?_ (by first | assumption | (simp; omega)) _)) (Nat.le_succ _), FX, hnl, ?_, ?_⟩
    · repeat (first | with_reducible exact hC4 | with_reducible refine Cur.alloc ?_ _ | with_reducible refine Cur.set ?_ (by first | assumption | (simp; omega)) _)
    · repeat (first | with_reducible exact D4 | with_reducible refine Dr.alloc ?_ _ | with_reducible refine Dr.new ?_ (by first | exact Nat.le_refl _ | assumption | (simp; omega)) _)
  have t0 : (k == 0) = false := by simp [e0]
  by_cases e1 : k = 1
  · have t1 : (k == 1) = true := by simp [e1]
    clear e0 e1
    obtain ⟨gg, cap, cs, hAe, hgb, hgc, hgm, hgR, hgl⟩ := own_row O3 (by omega)
    injection hAe with hA1 _ hA3
    subst hA1 hA3
    have g1 : w4.drew.cell? ⟨w3.heap.size, 1, none⟩ = some (.slice (some ⟨gg, 0, none⟩) x.vals.length c) := G3.cell 1
    have bd : Below w4.heap.size w4 w4.drew := (Below.refl _ _).drew
    have hC3d := hC3.drew
    have zd : w4.heap.size ≤ w4.drew.heap.size := Nat.le_refl _
    have q5 : (0 : Int) < (x.vals.length : Int) := by omega
    have q6 : (x.vals.length : Int) ≤ (c : Int) := by omega
    have hgg := hU2 gg rfl
    go_wp2_with fail
    refine wp_region_T 5 (fun w' => w'.cell? ⟨w3.heap.size, 1, none⟩ = some (.slice (some ⟨gg, 0, none⟩) x.vals.length c)) (by kernel_rfl) g1 (fun hC => ?_)
    refine wpAnyT_take (i := 0) (v := ?v9_0) rfl (by kernel_rfl) (fun _ _ _ h => h) (Or.inl ⟨by rfl, ?h9_0⟩) (by assumption) ?r9_0; (case h9_0 => (intro w9 hC9; (try dsimp only at hC9); go_simp; (try with_reducible rfl))); (try simp only [Act.put, List.setIfInBounds_toArray, List.set_cons_zero, List.set_cons_succ])
    refine wpAnyT_take (i := 1) (v := ?v9_1) rfl (by kernel_rfl) (fun _ _ _ h => h) (Or.inl ⟨by rfl, ?h9_1⟩) (by assumption) ?r9_1; (case h9_1 => (intro w9 hC9; (try dsimp only at hC9); go_simp; (try with_reducible rfl))); (try simp only [Act.put, List.setIfInBounds_toArray, List.set_cons_zero, List.set_cons_succ])
    refine wpAnyT_take (i := 2) (v := ?v9_2) rfl (by kernel_rfl) (fun _ _ _ h => h) (Or.inl ⟨by rfl, ?h9_2⟩) (by assumption) ?r9_2; (case h9_2 => (intro w9 hC9; (try dsimp only at hC9); go_simp; (try with_reducible rfl))); (try simp only [Act.put, List.setIfInBounds_toArray, List.set_cons_zero, List.set_cons_succ])
    refine wpAnyT_rest 3 (by kernel_rfl) ?_; simp only [List.drop_succ_cons, List.drop_zero]
    refine wpListT_step rfl ?_
    go_wp2
    refine ⟨fun _ => cel86 g1 _, ?_⟩
    refine wpListT_step rfl ?_
    go_wp2_with fail
    refine (l1PickInt (n := 3) (c := 3) (xs := [-1, 9, 10]) _ (hC3d.alloc _) (Row.new w4.drew _ _) rfl (by omega) (by omega) (by omega) (by omega)).mono ?_
    rintro e w5 ⟨v, rfl, hv, hC5, hD5⟩
    have hfv : Fit v := by
      simp at hv
      unfold Fit
      omega
    have R5 := ((R3.below bd hl3).alloc _).dr hD5 hpn
    have G5 := ((G3.below bd hg3).alloc _).dr hD5 hn2
    have O5 := own_dr_past ((own_below O3 bd).alloc _) hD5 (by omega)
    have D5 := ((D3.trans (Dr.of_below bd (Nat.le_refl _))).alloc _).trans hD5
    have g5 : w5.cell? ⟨w3.heap.size, 1, none⟩ = some (.slice (some ⟨gg, 0, none⟩) x.vals.length c) := G5.cell 1
    clear R3 G3 D3 hD5 hC3 g1 hC hC3d bd
    go_wp2
    refine ⟨fun _ => g5, ?_⟩
    refine wpListT_end (by decide) rfl ?_
    have fr0 := O5.frozenAt 0
    have hl0 := (O5.lt gg rfl).2
    obtain ⟨y, hy⟩ : ∃ y, x.vals[0]? = some y := ⟨x.vals[0]'(by omega), List.getElem?_eq_getElem (by omega)⟩
    have ce0 : w5.cell? ⟨gg, 0, none⟩ = some (.int .i64 y) := by
      have := O5.cells rfl 0 (.int .i64 y) (by rw [List.getElem?_map, hy]; rfl)
      simpa [Addr.add] using this
    have R6 := R5.far (p := ⟨gg, 0, none⟩) (by show w.heap.size ≠ gg; omega) (.int .i64 v)
    have G6 := G5.far (p := ⟨gg, 0, none⟩) (by show w3.heap.size ≠ gg; omega) (.int .i64 v)
    obtain ⟨ys, hys⟩ : ∃ ys, ys = x.vals.set 0 v := ⟨_, rfl⟩
    have hlen : x.vals.length = ys.length := by rw [hys]; simp
    have O6 : Hid ((w5.setCell ⟨gg, 0, none⟩ (.int .i64 v)).ownsRow (w.heap.size + 1) 3 1 (.slice (some ⟨gg, 0, none⟩) ys.length c) ys.length (ys.map (Value.int .i64))) := by
      have := (O5.stored 0 (.int .i64 v)).1
      show World.ownsRow _ _ _ _ _ _ _
      rw [← hlen, hys, List.map_set]
      exact this
    have FX : Hid (Fit x.id ∧ ∀ y ∈ ys, Fit y) := by
      refine ⟨HFX.out.1, fun z hz => ?_⟩
      have hz : z ∈ ys := hz
      rw [hys] at hz
      rcases List.mem_or_eq_of_mem_set hz with hz | hz
      · exact HFX.out.2 z hz
      · rw [hz]; exact hfv
    rw [hlen] at q5 q6 G5 G6 g5 hnl ⊢
    have NU : (Value.slice (some ⟨gg, 0, none⟩) ys.length c).ownBlock ≠ some w3.heap.size := fun e => by have := hU2 gg rfl; simp [Value.ownBlock] at e; omega
    have hpg : p < gg := by omega
    have hwg : w.heap.size ≤ gg := by omega
    have ng1 : gg ≠ w.heap.size := by omega
    have ng2 : gg ≠ w3.heap.size := by omega
    have hl5 := R5.lt
    have hg5 := G5.lt
    have a0 : (w5).cell? ⟨w.heap.size, 0, none⟩ = some (.int .i64 0) := R5.cell 0
    have fa0 := R5.free 0
    have a1 : (w5).cell? ⟨w.heap.size, 1, none⟩ = some (.slice none 0 0) := R5.cell 1
    have fa1 := R5.free 1
    have g0 : (w5).cell? ⟨w3.heap.size, 0, none⟩ = some (.int .i64 x.id) := G5.cell 0
    have fg0 := G5.free 0
    have g1 : (w5).cell? ⟨w3.heap.size, 1, none⟩ = some (.slice (some ⟨gg, 0, none⟩) ys.length c) := G5.cell 1
    have fg1 := G5.free 1
    have b0 : (w5.setCell ⟨gg, 0, none⟩ (.int .i64 v)).cell? ⟨w.heap.size, 0, none⟩ = some (.int .i64 0) := R6.cell 0
    have fb0 := R6.free 0
    have b1 : (w5.setCell ⟨gg, 0, none⟩ (.int .i64 v)).cell? ⟨w.heap.size, 1, none⟩ = some (.slice none 0 0) := R6.cell 1
    have fb1 := R6.free 1
    have j0 : (w5.setCell ⟨gg, 0, none⟩ (.int .i64 v)).cell? ⟨w3.heap.size, 0, none⟩ = some (.int .i64 x.id) := G6.cell 0
    have fj0 := G6.free 0
    have j1 : (w5.setCell ⟨gg, 0, none⟩ (.int .i64 v)).cell? ⟨w3.heap.size, 1, none⟩ = some (.slice (some ⟨gg, 0, none⟩) ys.length c) := G6.cell 1
    have fj1 := G6.free 1
    clear R5 G5 R6 G6 O3 O5 hlen hys hy hgb hgc hgm hgR hgl hU2
    go_wp2
    refine bodyPost_ret (v := .agg #[.int .i64 x.id, .slice (some ⟨gg, 0, none⟩) ys.length c]) (by simp [results, Try.results38, go_sem, *]) rfl ?_
    refine ⟨⟨x.id, ys⟩, some ⟨gg, 0, none⟩, c, rfl, own_mono (b' := w.heap.size) (by repeat (first | with_reducible exact O6.out | with_reducible refine World.ownsRow.alloc ?_ _ | with_reducible refine ownsRow_setCell_below ?_ (by first | assumption | (simp; omega)) _ | with_reducible refine ownsRow_setCell_other ?_ (by first | assumption | (simp; omega)) _)) (Nat.le_succ _), FX, hnl, ?_, ?_⟩
    · repeat (first | with_reducible exact hC5 | with_reducible refine Cur.alloc ?_ _ | with_reducible refine Cur.set ?_ (by first | assumption | (simp; omega)) _)
    · repeat (first | with_reducible exact D5 | with_reducible refine Dr.alloc ?_ _ | with_reducible refine Dr.new ?_ (by first | exact Nat.le_refl _ | assumption | (simp; omega)) _)
  have t1 : (k == 1) = false := by simp [e1]
  by_cases e2 : k = 2
  · have t2 : (k == 2) = true := by simp [e2]
    clear e0 e1 e2
    have gx1 : w4.cell? ⟨w3.heap.size, 1, none⟩ = some (.slice A x.vals.length c) := G3.cell 1
    have hrow : ∀ q, (Value.slice A x.vals.length c).ownBlock = some q → w.heap.size + 1 ≤ q := fun q hq => (hU2 q hq).1
    have h63 : x.vals.length + 1 ≤ 100 := by omega
    have HR := Lib.hid R3
    have HG := Lib.hid G3
    have HC := Lib.hid hC3
    have HD := Lib.hid D3
    have hz4 := D3.size
    clear R3 G3 hC3 D3
    go_wp2_with (at_builtin; refine wpList_append_own_at _ rfl _ _ 24 rfl (w.heap.size + 1) 3 i0 (.int .i64 0) 1 8 Try.underlying24 hi hz0 hz1 hz2 rfl (by decide) _ _ _ rfl (O3.alloc _) ⟨w4.heap.size, 0, none⟩ 1 1 [_] rfl rfl (one_new _ _ _) (by simp [Value.oneCell']) (by unfold maxLen; omega) (by omega) (by simp; omega) ?_)
    intro v' w9 hown9 hgrow _ hat
    obtain ⟨A9, c9, rfl, _, _⟩ := own_form hown9
    obtain ⟨ys, hys⟩ : ∃ ys, ys = x.vals ++ [1] := ⟨_, rfl⟩
    have hlen : x.vals.length + 1 = ys.length := by rw [hys]; simp
    have emap : ys.map (Value.int .i64) = x.vals.map (Value.int .i64) ++ [.int .i64 1] := by rw [hys]; simp
    rw [← emap] at hown9
    rw [hlen] at hown9 hat ⊢
    have hy5 : 3 ≤ ys.length ∧ ys.length ≤ 5 := by omega
    have HXS := Lib.hid hys
    clear hlen emap hys
    have NU : (Value.slice A9 ys.length c9).ownBlock ≠ some w3.heap.size := fun e => by
      rcases hat with hat | hat
      · have := hU2 _ (hat.symm.trans e); omega
      · rw [hat] at e; injection e with e; first | omega | (simp at e; omega)
    have R9 := (HR.out.alloc (.cells #[.int .i64 1] 3)).grown hgrow (fun e => by have := hrow _ e.symm; omega)
    have G9 := (HG.out.alloc (.cells #[.int .i64 1] 3)).grown hgrow (fun e => by have := hU2 _ e.symm; omega)
    have C9 := (HC.out.alloc (.cells #[.int .i64 1] 3)).grown hgrow (fun q hq => by have := hrow q hq; omega)
    have D9 := (HD.out.alloc (.cells #[.int .i64 1] 3)).grown hgrow (fun q hq => by have := hrow q hq; omega)
    have O9 := hown9
    have G5 : Row (w9.setCell ⟨w3.heap.size, 1, none⟩ (.slice A9 ys.length c9)) w3.heap.size 26 [.int .i64 x.id, .slice A9 ys.length c9] := G9.set 1 (.slice A9 ys.length c9)
    have R5 := R9.far (p := ⟨w3.heap.size, 1, none⟩) hn4 (.slice A9 ys.length c9)
    have hl9 := R9.lt
    have hg9 := G9.lt
    have FX : Hid (Fit x.id ∧ ∀ y ∈ ys, Fit y) := by
      refine ⟨HFX.out.1, fun y hy => ?_⟩
      have hy : y ∈ ys := hy
      rw [HXS.out] at hy
      rcases List.mem_append.1 hy with hy | hy
      · exact HFX.out.2 y hy
      · simp at hy; subst hy; unfold Fit; omega
    have a0 : (w9).cell? ⟨w.heap.size, 0, none⟩ = some (.int .i64 0) := R9.cell 0
    have fa0 := R9.free 0
    have a1 : (w9).cell? ⟨w.heap.size, 1, none⟩ = some (.slice none 0 0) := R9.cell 1
    have fa1 := R9.free 1
    have g0 : (w9).cell? ⟨w3.heap.size, 0, none⟩ = some (.int .i64 x.id) := G9.cell 0
    have fg0 := G9.free 0
    have g1 : (w9).cell? ⟨w3.heap.size, 1, none⟩ = some (.slice A x.vals.length c) := G9.cell 1
    have fg1 := G9.free 1
    have b0 : (w9.setCell ⟨w3.heap.size, 1, none⟩ (.slice A9 ys.length c9)).cell? ⟨w.heap.size, 0, none⟩ = some (.int .i64 0) := R5.cell 0
    have fb0 := R5.free 0
    have b1 : (w9.setCell ⟨w3.heap.size, 1, none⟩ (.slice A9 ys.length c9)).cell? ⟨w.heap.size, 1, none⟩ = some (.slice none 0 0) := R5.cell 1
    have fb1 := R5.free 1
    have j0 : (w9.setCell ⟨w3.heap.size, 1, none⟩ (.slice A9 ys.length c9)).cell? ⟨w3.heap.size, 0, none⟩ = some (.int .i64 x.id) := G5.cell 0
    have fj0 := G5.free 0
    have j1 : (w9.setCell ⟨w3.heap.size, 1, none⟩ (.slice A9 ys.length c9)).cell? ⟨w3.heap.size, 1, none⟩ = some (.slice A9 ys.length c9) := G5.cell 1
    have fj1 := G5.free 1
    clear HR HG HC HD R9 G9 R5 G5 hown9 hgrow O3 hat gx1
    go_wp2
    refine bodyPost_ret (v := .agg #[.int .i64 x.id, .slice A9 ys.length c9]) (by simp [results, Try.results38, go_sem, *]) rfl ?_
    refine ⟨⟨x.id, ys⟩, A9, c9, rfl, own_mono (b' := w.heap.size) (by repeat (first | with_reducible exact O9 | with_reducible refine World.ownsRow.alloc ?_ _ | with_reducible refine ownsRow_setCell_below ?_ (by first | assumption | (simp; omega)) _ | with_reducible refine ownsRow_setCell_other ?_ (by first | assumption | (simp; omega)) _)) (Nat.le_succ _), FX, hy5, ?_, ?_⟩
    · repeat (first | with_reducible exact C9 | with_reducible refine Cur.alloc ?_ _ | with_reducible refine Cur.set ?_ (by first | assumption | (simp; omega)) _)
    · repeat (first | with_reducible exact D9 | with_reducible refine Dr.alloc ?_ _ | with_reducible refine Dr.new ?_ (by first | exact Nat.le_refl _ | assumption | (simp; omega)) _)
  have t2 : (k == 2) = false := by simp [e2]
  clear e0 e1 e2
  have O4 := O3
  have NU : (Value.slice A x.vals.length c).ownBlock ≠ some w3.heap.size := fun e => by have := hU2 _ e; omega
  have a0 : (w4).cell? ⟨w.heap.size, 0, none⟩ = some (.int .i64 0) := R3.cell 0
  have fa0 := R3.free 0
  have a1 : (w4).cell? ⟨w.heap.size, 1, none⟩ = some (.slice none 0 0) := R3.cell 1
  have fa1 := R3.free 1
  have g0 : (w4).cell? ⟨w3.heap.size, 0, none⟩ = some (.int .i64 x.id) := G3.cell 0
  have fg0 := G3.free 0
  have g1 : (w4).cell? ⟨w3.heap.size, 1, none⟩ = some (.slice A x.vals.length c) := G3.cell 1
  have fg1 := G3.free 1
  clear R3 G3 O3
  go_wp2
  refine bodyPost_ret (v := .agg #[.int .i64 x.id, .slice A x.vals.length c]) (by simp [results, Try.results38, go_sem, *]) rfl ?_
  refine ⟨x, A, c, rfl, own_mono (b' := w.heap.size) (by repeat (first | with_reducible exact O4 | with_reducible refine World.ownsRow.alloc ?_ _ | with_reducible refine ownsRow_setCell_below ?_ (by first | assumption | (simp; omega)) _ | with_reducible refine ownsRow_setCell_other ?_ (by first | assumption | (simp; omega)) _)) (Nat.le_succ _), HFX, hnl, ?_, ?_⟩
  · repeat (first | with_reducible exact hC3 | with_reducible refine Cur.alloc ?_ _ | with_reducible refine Cur.set ?_ (by first | assumption | (simp; omega)) _)
  · repeat (first | with_reducible exact D3 | with_reducible refine Dr.alloc ?_ _ | with_reducible refine Dr.new ?_ (by first | exact Nat.le_refl _ | assumption | (simp; omega)) _)
end Go.Proofs.Ytphbochfpidgeaa.Wk

namespace Go.Proofs.Ytphbochfpidgeaa.Wk
open Go.RowKit Go.Proofs.Ytphbochfpidgeaa.M
set_option linter.unusedVariables false
set_option linter.unusedSimpArgs false
attribute [local go_sem] cell_grow

set_option maxHeartbeats 2000000 in
set_option maxRecDepth 100000 in
theorem l5Any {p : Nat} (w : World) (h : Cur w p) : Calls Try.prog 58 #[.pointer (some ⟨p, 0, none⟩)] w (DrNv w p 8) := by
  obtain ⟨i0, hi, hz0, hz1, hz2⟩ := info_parts info_node
  have hp := h.lt
  go_enter Try.func58, Try.ntmps58
  go_wp2_with fail
  refine (l5Expression _ h).mono ?_
  rintro e w4 ⟨A, c, qs, rfl, hP, hl, hLN, hC4, hD4⟩
  go_wp2_with fail
  refine (l1Below (n := 12) _ hC4 (by omega) (by omega)).mono ?_
  rintro e w5 ⟨k, rfl, k0, k1, hC5, hD5⟩
  have hP5 := hP.dr hD5 hp
  have D5 := hD4.trans hD5
  have h63 : qs.length + 1 ≤ maxLen := by unfold maxLen; omega
  have hby : (qs.length + 1) * 80 ≤ 140737488355328 := by omega
  obtain ⟨l1, l7⟩ := hl
  clear hP hC4 hD4 hD5
  by_cases e0 : k = 0
  · have t0 : (k == 0) = true := by simp [e0]
    clear e0
    go_wp2_with fail
    refine (l1Below (n := 7) _ hC5 (by omega) (by omega)).mono ?_
    rintro e w6 ⟨b, rfl, b0, b1, hC6, hD6⟩
    have fb : Fit (b - 1) := by unfold Fit; omega
    have PX := Lib.hid (hP5.dr hD6 hp)
    have K6 := Lib.hid hC6
    have L6 := Lib.hid (D5.trans hD6)
    have z6 := L6.out.size
    have hb4 : ∀ o : Obj, w.heap.size ≤ (w6.alloc o).heap.size := fun o => by rw [World.size_alloc]; omega
    clear hP5 D5 hC5 hC6 hD6
    go_wp2_with (at_builtin; refine append_at rfl _ _ 44 rfl w.heap.size 83 i0 _ 6 80 Try.underlying44 hi hz0 hz1 hz2 rfl (Nat.zero_lt_succ 5) _ _ _ rfl (PX.out.row.alloc _) (some ⟨w6.heap.size, 0, none⟩) 1 1 [.int .i64 (b - 1), .int .i64 0, .int .i64 0, .int .i64 0, .slice none 0 0, .slice none 0 0] rfl rfl (fun _ => by simp) (fun ad hA => by injection hA with hA; subst hA; exact six_new _ _ _ _ _ _ _ _) (ones6 rfl rfl rfl rfl rfl rfl) h63 hby (hb4 _) ?_)
    intro v' w9 ho6 hg6 ha6
    have bA := (Below.refl w6.heap.size w6).alloc (Nat.le_refl _) (.cells #[.int .i64 (b - 1), .int .i64 0, .int .i64 0, .int .i64 0, .slice none 0 0, .slice none 0 0] 83)
    have P6 := (PX.out.below bA).join (rs := [((⟨b - 1, ⟨0, 0, 0, [], []⟩⟩ : Nd), [.int .i64 (b - 1), .int .i64 0, .int .i64 0, .int .i64 0, .slice none 0 0, .slice none 0 0])]) (fun q hq => by simp at hq; subst hq; exact elBare _ _ 3 74 rfl fb) (fun q hq u hu g hg => by simp at hq; subst hq; simp at hu; rcases hu with rfl | rfl | rfl | rfl | rfl | rfl <;> cases hg) rfl hg6 (by rw [gcs_one]; exact ho6) (by rw [World.size_alloc]; exact ha6)
    have C6 := (K6.out.alloc (.cells #[.int .i64 (b - 1), .int .i64 0, .int .i64 0, .int .i64 0, .slice none 0 0, .slice none 0 0] 83)).grown hg6 (fun q hq => by have := PX.out.block hq; omega)
    have D6 := (L6.out.alloc (.cells #[.int .i64 (b - 1), .int .i64 0, .int .i64 0, .int .i64 0, .slice none 0 0, .slice none 0 0] 83)).grown hg6 (fun q hq => by have := PX.out.block hq; omega)
    obtain ⟨A9, c9, rfl, _, _⟩ := own_form P6.row
    have P9 := Lib.hid P6
    have C9 := Lib.hid C6
    have D9 := Lib.hid D6
    clear P6 C6 D6 ho6 hg6 ha6 bA hb4
    go_wp2
    go_ret
    refine ⟨_, _, rfl, P9.out.drV, ?_, ?_, C9.out, D9.out⟩
    · simp; omega
    · intro x hx
      rw [List.map_append] at hx
      rcases List.mem_append.1 hx with hx | hx
      · obtain ⟨q, hq, rfl⟩ := List.mem_map.1 hx
        exact hLN.out q hq
      · simp at hx; subst hx; exact lenN_bare (b - 1)
  have t0 : (k == 0) = false := by simp [e0]
  by_cases e1 : k = 1
  · have t1 : (k == 1) = true := by simp [e1]
    clear e0 e1
    have z5 := D5.size
    go_wp2_with fail
    refine (l4Any _ hC5).mono ?_
    rintro e w6 ⟨x, A2, c2, E2, d2, rfl, hO, HF, hln, hC6, hD6⟩
    have L6 := Lib.hid (D5.trans hD6)
    have z6 := L6.out.size
    have hE : El RN 6 w6 w5.heap.size (⟨0, x⟩, [.int .i64 0, .int .i64 x.kind, .int .i64 x.field, .int .i64 x.value, .slice A2 x.list.length c2, .slice E2 x.pairs.length d2]) := elNode hO ⟨by unfold Fit; simp, HF.out⟩
    have HE := Lib.hid hE
    have HFA : Hid (∀ g, (Value.slice A qs.length c).ownBlock = some g → g < w5.heap.size) := fun g hg => (hP5.block hg).2
    have PX := Lib.hid (hP5.dr hD6 hp)
    have K6 := Lib.hid hC6
    have hb4 : ∀ o : Obj, w.heap.size ≤ (w6.alloc o).heap.size := fun o => by rw [World.size_alloc]; omega
    clear hP5 D5 hC5 hC6 hD6 hO hE
    go_wp2_with (at_builtin; refine append_at rfl _ _ 44 rfl w.heap.size 83 i0 _ 6 80 Try.underlying44 hi hz0 hz1 hz2 rfl (Nat.zero_lt_succ 5) _ _ _ rfl (PX.out.row.alloc _) (some ⟨w6.heap.size, 0, none⟩) 1 1 [.int .i64 0, .int .i64 x.kind, .int .i64 x.field, .int .i64 x.value, .slice A2 x.list.length c2, .slice E2 x.pairs.length d2] rfl rfl (fun _ => by simp) (fun ad hA => by injection hA with hA; subst hA; exact six_new _ _ _ _ _ _ _ _) (ones6 rfl rfl rfl rfl rfl rfl) h63 hby (hb4 _) ?_)
    intro v' w9 ho6 hg6 ha6
    have bA := (Below.refl w6.heap.size w6).alloc (Nat.le_refl _) (.cells #[.int .i64 0, .int .i64 x.kind, .int .i64 x.field, .int .i64 x.value, .slice A2 x.list.length c2, .slice E2 x.pairs.length d2] 83)
    have P6 := (PX.out.below bA).join (rs := [((⟨0, x⟩ : Nd), [.int .i64 0, .int .i64 x.kind, .int .i64 x.field, .int .i64 x.value, .slice A2 x.list.length c2, .slice E2 x.pairs.length d2])]) (fun q hq => by simp at hq; subst hq; exact (HE.out.mono z5).below bA) (fun q hq u hu g hg e => by simp at hq; subst hq; have h1 := (HE.out.at_ u hu g hg).1; have h2 := HFA.out g e; omega) rfl hg6 (by rw [gcs_one]; exact ho6) (by rw [World.size_alloc]; exact ha6)
    have C6 := (K6.out.alloc (.cells #[.int .i64 0, .int .i64 x.kind, .int .i64 x.field, .int .i64 x.value, .slice A2 x.list.length c2, .slice E2 x.pairs.length d2] 83)).grown hg6 (fun q hq => by have := PX.out.block hq; omega)
    have D6 := (L6.out.alloc (.cells #[.int .i64 0, .int .i64 x.kind, .int .i64 x.field, .int .i64 x.value, .slice A2 x.list.length c2, .slice E2 x.pairs.length d2] 83)).grown hg6 (fun q hq => by have := PX.out.block hq; omega)
    obtain ⟨A9, c9, rfl, _, _⟩ := own_form P6.row
    have P9 := Lib.hid P6
    have C9 := Lib.hid C6
    have D9 := Lib.hid D6
    clear P6 C6 D6 ho6 hg6 ha6 bA hb4
    go_wp2
    go_ret
    refine ⟨_, _, rfl, P9.out.drV, ?_, ?_, C9.out, D9.out⟩
    · simp; omega
    · intro z hz
      rw [List.map_append] at hz
      rcases List.mem_append.1 hz with hz | hz
      · obtain ⟨q, hq, rfl⟩ := List.mem_map.1 hz
        exact hLN.out q hq
      · simp at hz; subst hz; exact hln
  have t1 : (k == 1) = false := by simp [e1]
  by_cases e2 : k = 2
  · have t2 : (k == 2) = true := by simp [e2]
    clear e0 e1 e2
    obtain ⟨A', c', eA, hlc, _⟩ := own_form hP5.row
    injection eA with eA1 _ eA2
    subst eA1 eA2
    have q1 : (1 : Int) ≤ (qs.length : Int) := by omega
    have q2 : (qs.length : Int) ≤ (c : Int) := by omega
    have HV : Hid (DrV RN 6 w.heap.size w5 (.slice (if c = 1 then A else A.map (·.add (1 * 6))) (qs.length - 1) (c - 1)) (((qs.map (·.1)).drop 1).take (qs.length - 1))) := fun w' hs hd => by
      obtain ⟨A', n', c', e, hS⟩ := (hP5.on hs hd).V
      injection e with e1 e2 e3
      subst e1 e2 e3
      exact ⟨_, _, _, rfl, hS.part (lo := 1) (hi := qs.length) (by omega) (Nat.le_refl _)⟩
    have HC := Lib.hid hC5
    have HD := Lib.hid D5
    clear hP5 hC5 D5
    have HLT : Hid (Hid (∀ x ∈ ((qs.map (·.1)).drop 1).take (qs.length - 1), LenN x)) := fun x hx => by
      obtain ⟨q, hq, rfl⟩ := List.mem_map.1 (List.mem_of_mem_drop (List.mem_of_mem_take hx))
      exact hLN.out q hq
    have hle : (((qs.map (·.1)).drop 1).take (qs.length - 1)).length ≤ 8 := by simp; omega
    by_cases hc1 : c = 1
    · have hq1 : qs.length - 1 = 0 := by omega
      have HV2 := HV.out
      rw [if_pos hc1, hc1, hq1] at HV2
      have HV2 := Lib.hid HV2
      rw [hq1] at hle HLT
      clear HV
      subst hc1
      go_wp2
      go_ret
      exact ⟨_, _, rfl, HV2.out, hle, HLT.out, HC.out, HD.out⟩
    · have HV := Lib.hid (by have := HV.out; rwa [if_neg hc1] at this)
      go_wp2
      go_ret
      exact ⟨_, _, rfl, HV.out, hle, HLT.out, HC.out, HD.out⟩
  have t2 : (k == 2) = false := by simp [e2]
  clear e0 e1 e2
  go_wp2
  go_ret
  refine ⟨_, _, rfl, hP5.drV, ?_, ?_, hC5, D5⟩
  · simp; omega
  · intro x hx
    obtain ⟨q, hq, rfl⟩ := List.mem_map.1 hx
    exact hLN.out q hq
theorem info_it95 : (Try.prog.info? 26).map (fun i => (i.zero, i.size, i.bytes)) = some (some (.agg #[.int .i64 0, .slice none 0 0]), 2, 32) := by kernel_rfl
/-- Items drawn, their rows the call's own. -/
def DrIs (w : World) (p m : Nat) (e : Ending) (w' : World) : Prop := ∃ (A : Option Addr) (c : Nat) (qs : List (It × List Value)), e = .returned (.slice A qs.length c) ∧ PartG RIt 2 w' w.heap.size 26 (.slice A qs.length c) qs ∧ qs.length ≤ m ∧ Cur w' p ∧ Dr p w w'
set_option maxHeartbeats 2000000 in
set_option maxRecDepth 100000 in
theorem l2Items {p m : Nat} (w : World) (h : Cur w p) (hm : m ≤ 100) : Calls Try.prog 85 #[.pointer (some ⟨p, 0, none⟩), .int .i64 m] w (DrIs w p m) := by
  obtain ⟨i0, hi, hz0, hz1, hz2⟩ := info_parts info_it95
  have hp := h.lt
  have q0 : (0 : Int) < (m : Int) + 1 := by omega
  have q1 : (m : Int) + 1 ≤ 101 := by omega
  have P1 := PartG.nil (α := It) (R := RIt) (sz := 2) w 26
  have b1 := (Below.refl w.heap.size w).alloc (Nat.le_refl _) (.cells #[] 26)
  have D1 := (Dr.refl p w).alloc (.cells #[] 26)
  have C1 := h.alloc (.cells #[] 26)
  obtain ⟨w1, hw1⟩ : ∃ w1, w.alloc (.cells #[] 26) = w1 := ⟨_, rfl⟩
  rw [hw1] at P1 D1 C1
  have z1 : w1.heap.size = w.heap.size + 1 := by rw [← hw1]; simp
  have HW := Lib.hid hw1
  clear hw1 b1
  go_enter Try.func85, Try.ntmps85
  go_wp2_with fail
  rw [HW.out, ← z1]
  refine (l1PickInt (n := 3) (c := 3) (xs := [2, 4, 10]) _ (C1.alloc _) (Row.new w1 _ _) rfl (by omega) (by omega) (by omega) (by omega)).mono ?_
  rintro e w2 ⟨wide, rfl, hwide, hC2, hD2⟩
  have hwd : 0 < wide ∧ wide ≤ 256 := by simp at hwide; omega
  have bA := (Below.refl w1.heap.size w1).alloc (Nat.le_refl _) (.cells #[.int .i64 2, .int .i64 4, .int .i64 10] 3)
  have P2 := (P1.below bA).dr hD2 hp
  have D2 := (D1.alloc (.cells #[.int .i64 2, .int .i64 4, .int .i64 10] 3)).trans hD2
  clear P1 D1 C1 hD2 bA hwide HW
  go_wp2_with fail
  refine (l1Below (n := 3) _ hC2 (by omega) (by omega)).mono ?_
  rintro e w3 ⟨id, rfl, id0, id1, hC3, hD3⟩
  have P3 := P2.dr hD3 hp
  have D3 := D2.trans hD3
  clear P2 D2 hC2 hD3
  go_wp2_with fail
  refine (l1Below _ hC3 q0 (by omega)).mono ?_
  rintro e w4 ⟨kn, rfl, kn0, kn1, hC4, hD4⟩
  have P4 := P3.dr hD4 hp
  have D4 := D3.trans hD4
  obtain ⟨kn, rfl⟩ := Int.eq_ofNat_of_zero_le kn0
  clear P3 D3 hC3 hD4
  go_wp2
  go_loopw [5, 7, 8] (fun vo vi vn wr => ∃ (k : Nat) (id : Int) (qs : List (It × List Value)), k + qs.length ≤ m ∧ vn = .int .i64 k ∧ vi = .int .i64 id ∧ (0 ≤ id ∧ id ≤ 2 + 2 * (qs.length : Int)) ∧ PartG RIt 2 wr w.heap.size 26 vo qs ∧ Cur wr p ∧ Dr p w wr) (fun _ _ vn _ => (intOf vn).toNat)
  case atStart => exact ⟨kn, id, [], by simp; omega, rfl, rfl, by simp; omega, P4, hC4, D4⟩
  case round =>
    clear P4 hC4 D4 id0 id1 z1
    obtain ⟨k, id, qs, hk, rfl, rfl, hid, hP, hC, hD⟩ := hrel
    obtain ⟨A, c, rfl, _, _⟩ := own_form hP.row
    by_cases hlt : 0 < k
    · have q2 : (0 : Int) < (k : Int) := by omega
      have z5 := hD.size
      go_wp2_with fail
      refine (l2Item _ hC (by unfold Fit; omega) hwd.1 hwd.2).mono ?_
      rintro e w6 ⟨y, A2, c2, rfl, hO, HF, hln, hC6, hD6⟩
      have L6 := Lib.hid (hD.trans hD6)
      have z6 := L6.out.size
      have hE : El RIt 2 w6 wr.heap.size (y, [.int .i64 y.id, .slice A2 y.vals.length c2]) := elItem hO HF.out
      have HE := Lib.hid hE
      have HFA : Hid (∀ g, (Value.slice A qs.length c).ownBlock = some g → g < wr.heap.size) := fun g hg => (hP.block hg).2
      have PX := Lib.hid (hP.dr hD6 hp)
      have K6 := Lib.hid hC6
      have h63 : qs.length + 1 ≤ maxLen := by unfold maxLen; omega
      have hby : (qs.length + 1) * 32 ≤ 140737488355328 := by omega
      have hb4 : ∀ o : Obj, w.heap.size ≤ (w6.alloc o).heap.size := fun o => by rw [World.size_alloc]; omega
      clear hP hC hD hC6 hD6 hO hE
      go_wp2_with (at_builtin; refine append_at rfl _ _ 57 rfl w.heap.size 26 i0 _ 2 32 Try.underlying57 hi hz0 hz1 hz2 rfl (Nat.zero_lt_succ 1) _ _ _ rfl (PX.out.row.alloc _) (some ⟨w6.heap.size, 0, none⟩) 1 1 [.int .i64 y.id, .slice A2 y.vals.length c2] rfl rfl (fun _ => by simp) (fun ad hA => by injection hA with hA; subst hA; exact cell_two_new _ _ _ _) (by simp [Value.oneCell']) h63 hby (hb4 _) ?_)
      intro v' w9 ho6 hg6 ha6
      have bA := (Below.refl w6.heap.size w6).alloc (Nat.le_refl _) (.cells #[.int .i64 y.id, .slice A2 y.vals.length c2] 26)
      have P6 := (PX.out.below bA).join (rs := [(y, [.int .i64 y.id, .slice A2 y.vals.length c2])]) (fun q hq => by simp at hq; subst hq; exact (HE.out.mono z5).below bA) (fun q hq u hu g hg e => by simp at hq; subst hq; have h1 := (HE.out.at_ u hu g hg).1; have h2 := HFA.out g e; omega) rfl hg6 (by rw [gcs_one]; exact ho6) (by rw [World.size_alloc]; exact ha6)
      have C6 := (K6.out.alloc (.cells #[.int .i64 y.id, .slice A2 y.vals.length c2] 26)).grown hg6 (fun q hq => by have := PX.out.block hq; omega)
      have D6 := (L6.out.alloc (.cells #[.int .i64 y.id, .slice A2 y.vals.length c2] 26)).grown hg6 (fun q hq => by have := PX.out.block hq; omega)
      obtain ⟨ts, hts⟩ : ∃ ts : List (It × List Value), Hid (ts = qs ++ [(y, [Value.int IntKind.i64 y.id, Value.slice A2 y.vals.length c2])]) := ⟨_, rfl⟩
      rw [← hts.out] at P6
      have HTL : Hid (ts.length = qs.length + 1) := by show _ = _; rw [hts.out]; simp
      obtain ⟨A9, c9, rfl, _, _⟩ := own_form P6.row
      have P9 := Lib.hid P6
      have C9 := Lib.hid C6
      have D9 := Lib.hid D6
      clear P6 C6 D6 ho6 hg6 ha6 bA hb4 hts
      clear PX K6 L6 HE HFA
      go_wp2_with fail
      refine (l1Below (n := 2) _ C9.out (by omega) (by omega)).mono ?_
      rintro e w10 ⟨d, rfl, d0, d1, hC10, hD10⟩
      have P10 := Lib.hid (P9.out.dr hD10 hp)
      have D10 := Lib.hid (D9.out.trans hD10)
      have C10 := Lib.hid hC10
      clear P9 D9 C9 hD10 hC10
      go_wp2
      go_roundw
      case rel => exact ⟨k - 1, id + 1 + d, ts, by have := HTL.out; omega, by first | go_num | exact vint (by omega), rfl, by have := HTL.out; omega, P10.out, C10.out, D10.out⟩
      case measure => simp [intOf]; omega
    · have q2 : ¬ (0 : Int) < (k : Int) := by omega
      go_wp2
      go_ret
      exact ⟨_, _, qs, rfl, hP, by omega, hC, hD⟩
set_option maxHeartbeats 2000000 in
set_option maxRecDepth 100000 in
theorem l2Any {p : Nat} (w : World) (h : Cur w p) : Calls Try.prog 69 #[.pointer (some ⟨p, 0, none⟩)] w (DrIs w p 8) := by
  obtain ⟨i0, hi, hz0, hz1, hz2⟩ := info_parts info_it95
  have hp := h.lt
  go_enter Try.func69, Try.ntmps69
  go_wp2_with fail
  refine (l2Items (m := 7) _ h (by omega)).mono ?_
  rintro e w2 ⟨A, c, qs, rfl, hP2, hl, hC2, hD2⟩
  go_wp2_with fail
  refine (l1Once _ hC2 (by omega) (by omega)).mono ?_
  rintro e w3 ⟨t, rfl, hC3, hD3⟩
  have hP := hP2.dr hD3 hp
  have hD := hD2.trans hD3
  clear hP2 hC2 hD2 hD3
  cases t with
  | false =>
    go_wp2
    go_ret
    exact ⟨A, c, qs, rfl, hP, by omega, hC3, hD⟩
  | true =>
    have z5 := hD.size
    go_wp2_with fail
    refine (l2AnyItem _ hC3).mono ?_
    rintro e w6 ⟨y, A2, c2, rfl, hO, HF, hln, hC6, hD6⟩
    have L6 := Lib.hid (hD.trans hD6)
    have z6 := L6.out.size
    have hE : El RIt 2 w6 w3.heap.size (y, [.int .i64 y.id, .slice A2 y.vals.length c2]) := elItem hO HF.out
    have HE := Lib.hid hE
    have HFA : Hid (∀ g, (Value.slice A qs.length c).ownBlock = some g → g < w3.heap.size) := fun g hg => (hP.block hg).2
    have PX := Lib.hid (hP.dr hD6 hp)
    have K6 := Lib.hid hC6
    have h63 : qs.length + 1 ≤ maxLen := by unfold maxLen; omega
    have hby : (qs.length + 1) * 32 ≤ 140737488355328 := by omega
    have hb4 : ∀ o : Obj, w.heap.size ≤ (w6.alloc o).heap.size := fun o => by rw [World.size_alloc]; omega
    clear hP hC3 hD hC6 hD6 hO hE
    go_wp2_with (at_builtin; refine append_at rfl _ _ 57 rfl w.heap.size 26 i0 _ 2 32 Try.underlying57 hi hz0 hz1 hz2 rfl (Nat.zero_lt_succ 1) _ _ _ rfl (PX.out.row.alloc _) (some ⟨w6.heap.size, 0, none⟩) 1 1 [.int .i64 y.id, .slice A2 y.vals.length c2] rfl rfl (fun _ => by simp) (fun ad hA => by injection hA with hA; subst hA; exact cell_two_new _ _ _ _) (by simp [Value.oneCell']) h63 hby (hb4 _) ?_)
    intro v' w9 ho6 hg6 ha6
    have bA := (Below.refl w6.heap.size w6).alloc (Nat.le_refl _) (.cells #[.int .i64 y.id, .slice A2 y.vals.length c2] 26)
    have P6 := (PX.out.below bA).join (rs := [(y, [.int .i64 y.id, .slice A2 y.vals.length c2])]) (fun q hq => by simp at hq; subst hq; exact (HE.out.mono z5).below bA) (fun q hq u hu g hg e => by simp at hq; subst hq; have h1 := (HE.out.at_ u hu g hg).1; have h2 := HFA.out g e; omega) rfl hg6 (by rw [gcs_one]; exact ho6) (by rw [World.size_alloc]; exact ha6)
    have C6 := (K6.out.alloc (.cells #[.int .i64 y.id, .slice A2 y.vals.length c2] 26)).grown hg6 (fun q hq => by have := PX.out.block hq; omega)
    have D6 := (L6.out.alloc (.cells #[.int .i64 y.id, .slice A2 y.vals.length c2] 26)).grown hg6 (fun q hq => by have := PX.out.block hq; omega)
    obtain ⟨ts, hts⟩ : ∃ ts : List (It × List Value), Hid (ts = qs ++ [(y, [Value.int IntKind.i64 y.id, Value.slice A2 y.vals.length c2])]) := ⟨_, rfl⟩
    rw [← hts.out] at P6
    have HTL : Hid (ts.length = qs.length + 1) := by show _ = _; rw [hts.out]; simp
    obtain ⟨A9, c9, rfl, _, _⟩ := own_form P6.row
    have P9 := Lib.hid P6
    have C9 := Lib.hid C6
    have D9 := Lib.hid D6
    clear P6 C6 D6 ho6 hg6 ha6 bA hb4 hts
    go_wp2
    go_ret
    exact ⟨A9, c9, ts, rfl, P9.out, by have := HTL.out; omega, C9.out, D9.out⟩
end Go.Proofs.Ytphbochfpidgeaa.Wk

namespace Go.Proofs.Ytphbochfpidgeaa.M
open Go Go.RowKit

theorem step_append_slice {P : Program} (w : World) {ops : Array Oper} {o : Oper} {a : Act} {K : Act → World → Prop} {Q : Exit → Act → World → Prop} {E : Prop} (hgd : o.guard = none) (s x : Operand) (t : TypeId)
    (ho : o.op = .call { callee := .builtin .append, args := #[s, x], argTypes := #[t, t] })
    (base : Nat) (e : TypeId) (i : TypeInfo) (z : Value) (size bytes : Nat) (ht : P.underlying t = some (.slice e)) (hi : P.info? e = some i) (hz : i.zero = some z)
    (hsize : i.size = size) (hby : i.bytes = bytes) (hzs : z.cells.size = size) (hsz : 0 < size)
    (v : Value) (n : Nat) (xs : List Value) (hs : a.eval s = v) (hown : w.ownsRow base e size v n xs)
    (A : Option Addr) (m c : Nat) (news : List Value) (hx : a.eval x = .slice A m c) (hl : news.length = m * size) (hA : 0 < m → A ≠ none) (hnews : ∀ ad, A = some ad → ∀ j u, news[j]? = some u → w.cell? (ad.add j) = some u) (h1 : ∀ u ∈ news, u.oneCell' = true)
    (h63 : n + m ≤ maxLen) (hbytes : (n + m) * bytes ≤ 140737488355328) (hbase : base ≤ w.heap.size) (H : Nat) (hH : w.heap.size = H)
    (h : ∀ v' w', w'.ownsRow base e size v' (n + m) (xs ++ news) → w.grownBy w' v.ownBlock → (v'.ownBlock = v.ownBlock ∨ v'.ownBlock = some H) → K (a.put o.dst v') w') :
    if Region.wanted o (yielded ops a.tmps) = true then Oper.wp P o a w K Q else E := by
  have hw : Region.wanted o (yielded ops a.tmps) = true := by simp [Region.wanted, hgd]
  rw [if_pos hw]
  cases A with
  | some ad =>
    obtain ⟨v', w', hr, h2, h3, _, h5⟩ := run_append_own_at (P := P) w base t o.type e i z size bytes ht hi hz hsize hby hzs hsz v n xs hown ad m c news hl (hnews ad rfl) h1 h63 hbytes hbase
    unfold Oper.wp execOp
    simp only [ho, resolve, invoke, builtin, Sem.run_bind, Sem.run_pure, Result.andThen_ok, List.map_toArray, List.map_cons, List.map_nil, hs, hx, hr]
    refine h v' w' h2 h3 ?_
    rcases h5 with h5 | h5
    · exact .inl h5
    · exact .inr (by rw [h5, hH])
  | none =>
    have hm : m = 0 := by
      rcases Nat.eq_zero_or_pos m with h0 | h0
      · exact h0
      · exact absurd rfl (hA h0)
    subst hm
    have hn0 : news = [] := List.eq_nil_of_length_eq_zero (by omega)
    subst hn0
    have hr := run_append_none (P := P) (w := w) base t o.type e i size ht hi v n c xs hown
    unfold Oper.wp execOp
    simp only [ho, resolve, invoke, builtin, Sem.run_bind, Sem.run_pure, Result.andThen_ok, List.map_toArray, List.map_cons, List.map_nil, hs, hx, hr]
    exact h v w (by simpa using hown) ⟨rfl, rfl, rfl, Nat.le_refl _, fun _ _ _ => rfl⟩ (.inl rfl)
end Go.Proofs.Ytphbochfpidgeaa.M

namespace Go.Proofs.Ytphbochfpidgeaa.Wk
open Go.RowKit Go.Proofs.Ytphbochfpidgeaa.M
set_option linter.unusedVariables false
attribute [local go_sem] cell_grow

section
variable {w X w5 w6 : World} {base E E1 sz g g2 H n1 : Nat} {v5 v6 : Value} {xs1 : List Value}
theorem lit_new (hg : X.heap.size = g) (hb : base ≤ g) (e sz : Nat) : (X.alloc (.cells #[] e)).drew.ownsRow base e sz (.slice (some ⟨g, 0, none⟩) 0 0) 0 [] := by
  subst hg
  exact own_mono (own_emptyS X e sz) hb
theorem own_ad {v : Value} {n : Nat} {xs : List Value} (h : X.drew.ownsRow base E sz v n xs) (o : Obj) : (X.alloc o).drew.ownsRow base E sz v n xs := h.alloc o
theorem row_ad {xs : List Value} (h : Row X.drew g E xs) (o : Obj) : Row (X.alloc o).drew g E xs := h.alloc o
theorem lit_block (g : Nat) : (Value.slice (some ⟨g, 0, none⟩) 0 0).ownBlock = some g := rfl
theorem first_ne (h : v5.ownBlock = (Value.slice (some ⟨g, 0, none⟩) 0 0).ownBlock ∨ v5.ownBlock = some H) (h1 : g ≠ g2) (h2 : H ≠ g2) : v5.ownBlock ≠ some g2 := by
  intro e
  rcases h with h | h
  · rw [h, lit_block] at e; injection e with e; exact h1 e
  · rw [h] at e; injection e with e; exact h2 e
theorem lit_ne (h1 : g ≠ g2) : ∀ q, (Value.slice (some ⟨g, 0, none⟩) 0 0).ownBlock = some q → some q ≠ (Value.slice (some ⟨g2, 0, none⟩) 0 0).ownBlock := by
  intro q hq e
  rw [lit_block] at hq e
  injection hq with hq
  injection e with e
  exact h1 (hq.trans e)
theorem second_old (ho5 : w5.ownsRow base E1 sz v5 n1 xs1) (hne : v5.ownBlock ≠ some g2) (hg6 : w5.grownBy w6 (Value.slice (some ⟨g2, 0, none⟩) 0 0).ownBlock) (ha6 : v6.ownBlock = (Value.slice (some ⟨g2, 0, none⟩) 0 0).ownBlock ∨ v6.ownBlock = some H) (hH : w5.heap.size = H) :
    w6.ownsRow base E1 sz v5 n1 xs1 ∧ Far v5 v6 := by
  refine ⟨own_grown ho5 hg6 (fun q hq e => hne (hq.trans (e.trans (lit_block g2)))), ?_⟩
  cases hq : v5.ownBlock with
  | none => exact .inl hq
  | some q =>
    refine .inr fun hh => ?_
    rcases ha6 with h | h
    · exact hne (hh.trans (h.trans (lit_block g2)))
    · rw [hq, h] at hh
      injection hh with hh
      have := (ho5.lt q hq).2
      omega
theorem second_new {o : Obj} (ho5 : w5.ownsRow base E1 sz v5 n1 xs1) (hg6 : (w5.alloc o).grownBy w6 (Value.slice (some ⟨w5.heap.size, 0, none⟩) 0 0).ownBlock) (ha6 : v6.ownBlock = (Value.slice (some ⟨w5.heap.size, 0, none⟩) 0 0).ownBlock ∨ v6.ownBlock = some H) (hH : (w5.alloc o).heap.size = H) :
    w6.ownsRow base E1 sz v5 n1 xs1 ∧ Far v5 v6 := by
  have hlt : ∀ q, v5.ownBlock = some q → q < w5.heap.size := fun q hq => (ho5.lt q hq).2
  rw [World.size_alloc] at hH
  refine ⟨own_grown (ho5.alloc o) hg6 (fun q hq e => ?_), ?_⟩
  · rw [lit_block] at e; injection e with e; have := hlt q hq; omega
  · cases hq : v5.ownBlock with
    | none => exact .inl hq
    | some q =>
      refine .inr fun hh => ?_
      have := hlt q hq
      rw [hq] at hh
      rcases ha6 with h | h
      · rw [h, lit_block] at hh; injection hh with hh; omega
      · rw [h] at hh; injection hh with hh; omega
theorem cells5 {g0 : Nat} {a b c d e : Value} (h : Row X g0 E [a, b, c, d, e]) : X.cell? ⟨g0, 0, none⟩ = some a ∧ X.cell? ⟨g0, 1, none⟩ = some b ∧ X.cell? ⟨g0, 2, none⟩ = some c ∧ X.cell? ⟨g0, 3, none⟩ = some d ∧ X.cell? ⟨g0, 4, none⟩ = some e := ⟨h.cell 0, h.cell 1, h.cell 2, h.cell 3, h.cell 4⟩
theorem fin2 {lo EE EP n m c5 c6 : Nat} {x : Wi} {A5 A6 : Option Addr} (h1 : X.ownsRow lo EE 1 (.slice A5 (0 + n) c5) (0 + n) ([] ++ x.list.map (Value.int .i64))) (h2 : X.ownsRow lo EP 2 (.slice A6 (0 + m) c6) (0 + m) ([] ++ prc x.pairs)) (hf : Far (.slice A5 (0 + n) c5) (.slice A6 (0 + m) c6)) (nl : x.list.length = n) (ml : x.pairs.length = m) : OwnW X lo EE EP x (.slice A5 n c5) (.slice A6 m c6) := by
  rw [Nat.zero_add, Nat.zero_add] at hf
  refine ⟨?_, ?_, hf⟩
  · rw [nl]; simpa using h1
  · rw [ml]; simpa using h2
theorem far_swap {u v : Value} (h : Far u v) : Far v u := by
  cases hq : v.ownBlock with
  | none => exact .inl hq
  | some q =>
    refine .inr fun hh => ?_
    rw [hq] at hh
    rcases h with h | h
    · rw [h] at hh; cases hh
    · exact h (hh.symm.trans hq.symm)
theorem row_gr {xs : List Value} {g0 : Nat} (h : Row X g0 E xs) (hg : X.grownBy w6 (Value.slice (some ⟨g2, 0, none⟩) 0 0).ownBlock) (h1 : g0 ≠ g2) : Row w6 g0 E xs := h.grown hg (fun e => by rw [lit_block] at e; injection e with e; exact h1 e)
end
section
variable {A E : Option Addr} {n c m d : Nat} {x : Wi} {w X w6 : World}
theorem s5 (hb : Below w.heap.size w X) (h : Row X w.heap.size 39 [.int .i64 x.kind, .int .i64 x.field, .int .i64 x.value, .slice A n c, .slice E m d]) : Below w.heap.size w X ∧ Row X w.heap.size 39 [.int .i64 x.kind, .int .i64 x.field, .int .i64 x.value, .slice A n c, .slice E m d] ∧ X.cell? ⟨w.heap.size, 0, none⟩ = some (.int .i64 x.kind) ∧ X.cell? ⟨w.heap.size, 1, none⟩ = some (.int .i64 x.field) ∧ X.cell? ⟨w.heap.size, 2, none⟩ = some (.int .i64 x.value) ∧ X.cell? ⟨w.heap.size, 3, none⟩ = some (.slice A n c) ∧ X.cell? ⟨w.heap.size, 4, none⟩ = some (.slice E m d) := ⟨hb, h, h.cell 0, h.cell 1, h.cell 2, h.cell 3, h.cell 4⟩
theorem s5_ad (h : Below w.heap.size w X.drew ∧ Row X.drew w.heap.size 39 [.int .i64 x.kind, .int .i64 x.field, .int .i64 x.value, .slice A n c, .slice E m d] ∧ X.drew.cell? ⟨w.heap.size, 0, none⟩ = some (.int .i64 x.kind) ∧ X.drew.cell? ⟨w.heap.size, 1, none⟩ = some (.int .i64 x.field) ∧ X.drew.cell? ⟨w.heap.size, 2, none⟩ = some (.int .i64 x.value) ∧ X.drew.cell? ⟨w.heap.size, 3, none⟩ = some (.slice A n c) ∧ X.drew.cell? ⟨w.heap.size, 4, none⟩ = some (.slice E m d)) (o : Obj) : Below w.heap.size w (X.alloc o).drew ∧ Row (X.alloc o).drew w.heap.size 39 [.int .i64 x.kind, .int .i64 x.field, .int .i64 x.value, .slice A n c, .slice E m d] ∧ (X.alloc o).drew.cell? ⟨w.heap.size, 0, none⟩ = some (.int .i64 x.kind) ∧ (X.alloc o).drew.cell? ⟨w.heap.size, 1, none⟩ = some (.int .i64 x.field) ∧ (X.alloc o).drew.cell? ⟨w.heap.size, 2, none⟩ = some (.int .i64 x.value) ∧ (X.alloc o).drew.cell? ⟨w.heap.size, 3, none⟩ = some (.slice A n c) ∧ (X.alloc o).drew.cell? ⟨w.heap.size, 4, none⟩ = some (.slice E m d) := s5 (h.1.alloc h.1.size o) (h.2.1.alloc o)
theorem s5_al (h : Below w.heap.size w X ∧ Row X w.heap.size 39 [.int .i64 x.kind, .int .i64 x.field, .int .i64 x.value, .slice A n c, .slice E m d] ∧ X.cell? ⟨w.heap.size, 0, none⟩ = some (.int .i64 x.kind) ∧ X.cell? ⟨w.heap.size, 1, none⟩ = some (.int .i64 x.field) ∧ X.cell? ⟨w.heap.size, 2, none⟩ = some (.int .i64 x.value) ∧ X.cell? ⟨w.heap.size, 3, none⟩ = some (.slice A n c) ∧ X.cell? ⟨w.heap.size, 4, none⟩ = some (.slice E m d)) (o : Obj) : Below w.heap.size w (X.alloc o) ∧ Row (X.alloc o) w.heap.size 39 [.int .i64 x.kind, .int .i64 x.field, .int .i64 x.value, .slice A n c, .slice E m d] ∧ (X.alloc o).cell? ⟨w.heap.size, 0, none⟩ = some (.int .i64 x.kind) ∧ (X.alloc o).cell? ⟨w.heap.size, 1, none⟩ = some (.int .i64 x.field) ∧ (X.alloc o).cell? ⟨w.heap.size, 2, none⟩ = some (.int .i64 x.value) ∧ (X.alloc o).cell? ⟨w.heap.size, 3, none⟩ = some (.slice A n c) ∧ (X.alloc o).cell? ⟨w.heap.size, 4, none⟩ = some (.slice E m d) := s5 (h.1.alloc h.1.size o) (h.2.1.alloc o)
theorem s5_gr {g2 : Nat} (h : Below w.heap.size w X ∧ Row X w.heap.size 39 [.int .i64 x.kind, .int .i64 x.field, .int .i64 x.value, .slice A n c, .slice E m d] ∧ X.cell? ⟨w.heap.size, 0, none⟩ = some (.int .i64 x.kind) ∧ X.cell? ⟨w.heap.size, 1, none⟩ = some (.int .i64 x.field) ∧ X.cell? ⟨w.heap.size, 2, none⟩ = some (.int .i64 x.value) ∧ X.cell? ⟨w.heap.size, 3, none⟩ = some (.slice A n c) ∧ X.cell? ⟨w.heap.size, 4, none⟩ = some (.slice E m d)) (hg : X.grownBy w6 (Value.slice (some ⟨g2, 0, none⟩) 0 0).ownBlock) (h1 : w.heap.size < g2) : Below w.heap.size w w6 ∧ Row w6 w.heap.size 39 [.int .i64 x.kind, .int .i64 x.field, .int .i64 x.value, .slice A n c, .slice E m d] ∧ w6.cell? ⟨w.heap.size, 0, none⟩ = some (.int .i64 x.kind) ∧ w6.cell? ⟨w.heap.size, 1, none⟩ = some (.int .i64 x.field) ∧ w6.cell? ⟨w.heap.size, 2, none⟩ = some (.int .i64 x.value) ∧ w6.cell? ⟨w.heap.size, 3, none⟩ = some (.slice A n c) ∧ w6.cell? ⟨w.heap.size, 4, none⟩ = some (.slice E m d) :=
  s5 (h.1.grown hg h.1.size (fun k hk => by rw [lit_block] at hk; injection hk with hk; omega)) (row_gr h.2.1 hg (by omega))
theorem s5_set (h : Below w.heap.size w X ∧ Row X w.heap.size 39 [.int .i64 x.kind, .int .i64 x.field, .int .i64 x.value, .slice A n c, .slice E m d] ∧ X.cell? ⟨w.heap.size, 0, none⟩ = some (.int .i64 x.kind) ∧ X.cell? ⟨w.heap.size, 1, none⟩ = some (.int .i64 x.field) ∧ X.cell? ⟨w.heap.size, 2, none⟩ = some (.int .i64 x.value) ∧ X.cell? ⟨w.heap.size, 3, none⟩ = some (.slice A n c) ∧ X.cell? ⟨w.heap.size, 4, none⟩ = some (.slice E m d)) {p : Addr} (hp : p.block = w.heap.size + 1) (u : Value) : Below w.heap.size w (X.setCell p u) ∧ Row (X.setCell p u) w.heap.size 39 [.int .i64 x.kind, .int .i64 x.field, .int .i64 x.value, .slice A n c, .slice E m d] ∧ (X.setCell p u).cell? ⟨w.heap.size, 0, none⟩ = some (.int .i64 x.kind) ∧ (X.setCell p u).cell? ⟨w.heap.size, 1, none⟩ = some (.int .i64 x.field) ∧ (X.setCell p u).cell? ⟨w.heap.size, 2, none⟩ = some (.int .i64 x.value) ∧ (X.setCell p u).cell? ⟨w.heap.size, 3, none⟩ = some (.slice A n c) ∧ (X.setCell p u).cell? ⟨w.heap.size, 4, none⟩ = some (.slice E m d) :=
  s5 (h.1.setCell (by omega) u) (h.2.1.far (by omega) u)
end
set_option maxHeartbeats 6400000 in
set_option maxRecDepth 100000 in
theorem l5Wish {A E : Option Addr} {n c m d : Nat} {x : Wi} (w : World) (h : Sl RI 1 w w.heap.size A n c x.list) (g : Sl RP 2 w w.heap.size E m d x.pairs) (hn : n ≤ 1048576) (hm : m ≤ 1048576) :
    Calls Try.prog 82 #[.agg #[.int .i64 x.kind, .int .i64 x.field, .int .i64 x.value, .slice A n c, .slice E m d]] w (RetWO w x) := by
  obtain ⟨i0, hi, hz0, hz1, hz2⟩ := info_parts info_p4
  obtain ⟨j0, ji, jz0, jz1, jz2⟩ := info_parts info_i4
  have HI := Lib.hid h
  have HP := Lib.hid g
  have B2 := ((Below.refl w.heap.size w).alloc (Nat.le_refl _) (.cells #[.int .i64 x.kind, .int .i64 x.field, .int .i64 x.value, .slice A n c, .slice E m d] 39)).alloc (by simp) (.cells #[.int .i64 0, .int .i64 0, .int .i64 0, .slice none 0 0, .slice none 0 0] 39)
  have R0 := (Row.new w 39 [.int .i64 x.kind, .int .i64 x.field, .int .i64 x.value, .slice A n c, .slice E m d]).alloc (.cells #[.int .i64 0, .int .i64 0, .int .i64 0, .slice none 0 0, .slice none 0 0] 39)
  have R1 : Row ((w.alloc (.cells #[.int .i64 x.kind, .int .i64 x.field, .int .i64 x.value, .slice A n c, .slice E m d] 39)).alloc (.cells #[.int .i64 0, .int .i64 0, .int .i64 0, .slice none 0 0, .slice none 0 0] 39)) (w.heap.size + 1) 39 [.int .i64 0, .int .i64 0, .int .i64 0, .slice none 0 0, .slice none 0 0] := by
    have := Row.new (w.alloc (.cells #[.int .i64 x.kind, .int .i64 x.field, .int .i64 x.value, .slice A n c, .slice E m d] 39)) 39 [.int .i64 0, .int .i64 0, .int .i64 0, .slice none 0 0, .slice none 0 0]
    rw [World.size_alloc] at this
    exact this
  have hsW : ((w.alloc (.cells #[.int .i64 x.kind, .int .i64 x.field, .int .i64 x.value, .slice A n c, .slice E m d] 39)).alloc (.cells #[.int .i64 0, .int .i64 0, .int .i64 0, .slice none 0 0, .slice none 0 0] 39)).heap.size = w.heap.size + 1 + 1 := by simp
  have hsW1 : (((w.alloc (.cells #[.int .i64 x.kind, .int .i64 x.field, .int .i64 x.value, .slice A n c, .slice E m d] 39)).alloc (.cells #[.int .i64 0, .int .i64 0, .int .i64 0, .slice none 0 0, .slice none 0 0] 39)).alloc (.cells #[] 3)).heap.size = w.heap.size + 1 + 1 + 1 := by simp
  have hsW2 : (((w.alloc (.cells #[.int .i64 x.kind, .int .i64 x.field, .int .i64 x.value, .slice A n c, .slice E m d] 39)).alloc (.cells #[.int .i64 0, .int .i64 0, .int .i64 0, .slice none 0 0, .slice none 0 0] 39)).alloc (.cells #[] 74)).heap.size = w.heap.size + 1 + 1 + 1 := by simp
  have le2 : w.heap.size + 1 + 1 ≤ w.heap.size + 1 + 1 := Nat.le_refl _
  have le3 : w.heap.size + 1 + 1 ≤ w.heap.size + 1 + 1 + 1 := Nat.le_succ _
  have n23 : w.heap.size + 1 + 1 ≠ w.heap.size + 1 + 1 + 1 := by omega
  have n32 : w.heap.size + 1 + 1 + 1 ≠ w.heap.size + 1 + 1 := by omega
  have n12 : w.heap.size + 1 ≠ w.heap.size + 1 + 1 := by omega
  have n13 : w.heap.size + 1 ≠ w.heap.size + 1 + 1 + 1 := by omega
  have l02 : w.heap.size < w.heap.size + 1 + 1 := by omega
  have l03 : w.heap.size < w.heap.size + 1 + 1 + 1 := by omega
  have hIl : (x.list.map (Value.int .i64)).length = n * 1 := by rw [List.length_map, h.len, Nat.mul_one]
  have hPl : (prc x.pairs).length = m * 2 := by rw [prc_len, g.len]
  have hI63 : 0 + n ≤ maxLen := by unfold maxLen; omega
  have hP63 : 0 + m ≤ maxLen := by unfold maxLen; omega
  have hIb : (0 + n) * 8 ≤ 140737488355328 := by omega
  have hPb : (0 + m) * 16 ≤ 140737488355328 := by omega
  have S0 := s5 B2.drew R0.drew
  have RD := R1.drew
  have hd1 : (((w.alloc (.cells #[.int .i64 x.kind, .int .i64 x.field, .int .i64 x.value, .slice A n c, .slice E m d] 39)).alloc (.cells #[.int .i64 0, .int .i64 0, .int .i64 0, .slice none 0 0, .slice none 0 0] 39)).alloc (.cells #[] 3)).drew.heap.size = w.heap.size + 1 + 1 + 1 := hsW1
  have hd2 : (((w.alloc (.cells #[.int .i64 x.kind, .int .i64 x.field, .int .i64 x.value, .slice A n c, .slice E m d] 39)).alloc (.cells #[.int .i64 0, .int .i64 0, .int .i64 0, .slice none 0 0, .slice none 0 0] 39)).alloc (.cells #[] 74)).drew.heap.size = w.heap.size + 1 + 1 + 1 := hsW2
  have hd12 : ((((w.alloc (.cells #[.int .i64 x.kind, .int .i64 x.field, .int .i64 x.value, .slice A n c, .slice E m d] 39)).alloc (.cells #[.int .i64 0, .int .i64 0, .int .i64 0, .slice none 0 0, .slice none 0 0] 39)).alloc (.cells #[] 3)).alloc (.cells #[] 74)).drew.heap.size = w.heap.size + 1 + 1 + 1 + 1 := by show ((((w.alloc (.cells #[.int .i64 x.kind, .int .i64 x.field, .int .i64 x.value, .slice A n c, .slice E m d] 39)).alloc (.cells #[.int .i64 0, .int .i64 0, .int .i64 0, .slice none 0 0, .slice none 0 0] 39)).alloc (.cells #[] 3)).alloc (.cells #[] 74)).heap.size = _; simp
  have hd21 : ((((w.alloc (.cells #[.int .i64 x.kind, .int .i64 x.field, .int .i64 x.value, .slice A n c, .slice E m d] 39)).alloc (.cells #[.int .i64 0, .int .i64 0, .int .i64 0, .slice none 0 0, .slice none 0 0] 39)).alloc (.cells #[] 74)).alloc (.cells #[] 3)).drew.heap.size = w.heap.size + 1 + 1 + 1 + 1 := by show ((((w.alloc (.cells #[.int .i64 x.kind, .int .i64 x.field, .int .i64 x.value, .slice A n c, .slice E m d] 39)).alloc (.cells #[.int .i64 0, .int .i64 0, .int .i64 0, .slice none 0 0, .slice none 0 0] 39)).alloc (.cells #[] 74)).alloc (.cells #[] 3)).heap.size = _; simp
  have hb1 : w.heap.size + 1 + 1 ≤ (((w.alloc (.cells #[.int .i64 x.kind, .int .i64 x.field, .int .i64 x.value, .slice A n c, .slice E m d] 39)).alloc (.cells #[.int .i64 0, .int .i64 0, .int .i64 0, .slice none 0 0, .slice none 0 0] 39)).alloc (.cells #[] 3)).drew.heap.size := by rw [hd1]; omega
  have hb2 : w.heap.size + 1 + 1 ≤ (((w.alloc (.cells #[.int .i64 x.kind, .int .i64 x.field, .int .i64 x.value, .slice A n c, .slice E m d] 39)).alloc (.cells #[.int .i64 0, .int .i64 0, .int .i64 0, .slice none 0 0, .slice none 0 0] 39)).alloc (.cells #[] 74)).drew.heap.size := by rw [hd2]; omega
  have hb12 : w.heap.size + 1 + 1 ≤ ((((w.alloc (.cells #[.int .i64 x.kind, .int .i64 x.field, .int .i64 x.value, .slice A n c, .slice E m d] 39)).alloc (.cells #[.int .i64 0, .int .i64 0, .int .i64 0, .slice none 0 0, .slice none 0 0] 39)).alloc (.cells #[] 3)).alloc (.cells #[] 74)).drew.heap.size := by rw [hd12]; omega
  have hb21 : w.heap.size + 1 + 1 ≤ ((((w.alloc (.cells #[.int .i64 x.kind, .int .i64 x.field, .int .i64 x.value, .slice A n c, .slice E m d] 39)).alloc (.cells #[.int .i64 0, .int .i64 0, .int .i64 0, .slice none 0 0, .slice none 0 0] 39)).alloc (.cells #[] 74)).alloc (.cells #[] 3)).drew.heap.size := by rw [hd21]; omega
  have n42 : w.heap.size + 1 + 1 + 1 + 1 ≠ w.heap.size + 1 + 1 := by omega
  have n43 : w.heap.size + 1 + 1 + 1 + 1 ≠ w.heap.size + 1 + 1 + 1 := by omega
  have nl : x.list.length = n := h.len
  have ml : x.pairs.length = m := g.len
  clear h g hn hm B2 R0 R1
  go_enter Try.func82, Try.ntmps82
  go_wp2_with fail
  go_region_held3 (fun w' => Below w.heap.size w w' ∧ Row w' w.heap.size 39 [.int .i64 x.kind, .int .i64 x.field, .int .i64 x.value, .slice A n c, .slice E m d] ∧ w'.cell? ⟨w.heap.size, 0, none⟩ = some (.int .i64 x.kind) ∧ w'.cell? ⟨w.heap.size, 1, none⟩ = some (.int .i64 x.field) ∧ w'.cell? ⟨w.heap.size, 2, none⟩ = some (.int .i64 x.value) ∧ w'.cell? ⟨w.heap.size, 3, none⟩ = some (.slice A n c) ∧ w'.cell? ⟨w.heap.size, 4, none⟩ = some (.slice E m d)) (first | exact S0 | exact s5_set (s5_set (s5_set (s5_set (s5_set (by assumption) rfl _) rfl _) rfl _) rfl _) rfl _ | exact s5_ad (by assumption) _ | exact s5_al (by assumption) _ | exact s5_gr (by assumption) hg6 l02 | exact s5_gr (by assumption) hg6 l03 | exact s5_gr (by assumption) hg5 l02 | exact s5_gr (by assumption) hg5 l03 | exact s5_gr (by assumption) hg6 (by have := hR.lt; omega) | exact s5_gr (by assumption) hg5 (by have := hR.lt; omega) | fail) (first | (refine step_append_slice _ (by rfl) _ _ 24 (by rfl) (w.heap.size + 1 + 1) 3 j0 _ 1 8 Try.underlying24 ji jz0 jz1 jz2 rfl Nat.one_pos _ _ _ (by rfl) (lit_new hsW le2 3 1) A n c (x.list.map (Value.int .i64)) (by rfl) hIl (slI_some HI.out) (slI_cells (HI.out.on RI.keeps (And.left (by assumption)))) (ints_one _) hI63 hIb (hb1) (w.heap.size + 1 + 1 + 1) hd1 ?_; intro v5 w5 ho5 hg5 ha5; obtain ⟨A5, c5, rfl, _, _⟩ := own_form ho5; have hRI := row_gr (row_ad RD (.cells #[] 3)) hg5 n12; have hbI : w.heap.size + 1 + 1 ≤ w5.heap.size := Nat.le_trans hb1 hg5.size) | (refine step_append_slice _ (by rfl) _ _ 24 (by rfl) (w.heap.size + 1 + 1) 3 j0 _ 1 8 Try.underlying24 ji jz0 jz1 jz2 rfl Nat.one_pos _ _ _ (by rfl) (own_ad (lit_new hsW le2 3 1) (.cells #[] 74)) A n c (x.list.map (Value.int .i64)) (by rfl) hIl (slI_some HI.out) (slI_cells (HI.out.on RI.keeps (And.left (by assumption)))) (ints_one _) hI63 hIb (hb12) (w.heap.size + 1 + 1 + 1 + 1) hd12 ?_; intro v5 w5 ho5 hg5 ha5; obtain ⟨A5, c5, rfl, _, _⟩ := own_form ho5; have hE := own_grown (lit_new hsW1 le3 74 2) hg5 (lit_ne n32); have hn5 := first_ne ha5 n23 n43; have hRI := row_gr (row_ad (row_ad RD (.cells #[] 3)) (.cells #[] 74)) hg5 n12; have hbI : w.heap.size + 1 + 1 ≤ w5.heap.size := Nat.le_trans hb12 hg5.size) | (refine step_append_slice _ (by rfl) _ _ 24 (by rfl) (w.heap.size + 1 + 1) 3 j0 _ 1 8 Try.underlying24 ji jz0 jz1 jz2 rfl Nat.one_pos _ _ _ (by rfl) (lit_new hsW2 le3 3 1) A n c (x.list.map (Value.int .i64)) (by rfl) hIl (slI_some HI.out) (slI_cells (HI.out.on RI.keeps (And.left (by assumption)))) (ints_one _) hI63 hIb (hb21) (w.heap.size + 1 + 1 + 1 + 1) hd21 ?_; intro v5 w5 ho5 hg5 ha5; obtain ⟨A5, c5, rfl, _, _⟩ := own_form ho5; have hE := own_grown (own_ad (lit_new hsW le2 74 2) (.cells #[] 3)) hg5 (lit_ne n23); have hn5 := first_ne ha5 n32 n42; have hRI := row_gr (row_ad (row_ad RD (.cells #[] 74)) (.cells #[] 3)) hg5 n13; have hbI : w.heap.size + 1 + 1 ≤ w5.heap.size := Nat.le_trans hb21 hg5.size) | (refine step_append_slice _ (by rfl) _ _ 24 (by rfl) (w.heap.size + 1 + 1) 3 j0 _ 1 8 Try.underlying24 ji jz0 jz1 jz2 rfl Nat.one_pos _ _ _ (by rfl) (own_mono (own_emptyS w6 3 1) hbP) A n c (x.list.map (Value.int .i64)) (by rfl) hIl (slI_some HI.out) (slI_cells (HI.out.on RI.keeps (And.left (by assumption)))) (ints_one _) hI63 hIb (Nat.le_trans hbP (size_le_alloc _ _)) _ rfl ?_; intro v5 w5 ho5 hg5 ha5; obtain ⟨A5, c5, rfl, _, _⟩ := own_form ho5; have F := second_new ho6 hg5 ha5 rfl; have hR := row_gr (hRP.alloc (.cells #[] 3)) hg5 (Nat.ne_of_lt (hRP.lt)); obtain ⟨q0, q1, q2, q3, q4⟩ := cells5 hR; have k0 := hR.free 0; have k1 := hR.free 1; have k2 := hR.free 2; have k3 := hR.free 3; have k4 := hR.free 4; have hRl := hR.lt) | (refine step_append_slice _ (by rfl) _ _ 24 (by rfl) (w.heap.size + 1 + 1) 3 j0 _ 1 8 Try.underlying24 ji jz0 jz1 jz2 rfl Nat.one_pos _ _ _ (by rfl) (hE) A n c (x.list.map (Value.int .i64)) (by rfl) hIl (slI_some HI.out) (slI_cells (HI.out.on RI.keeps (And.left (by assumption)))) (ints_one _) hI63 hIb (hbP) _ rfl ?_; intro v5 w5 ho5 hg5 ha5; obtain ⟨A5, c5, rfl, _, _⟩ := own_form ho5; have F := second_old ho6 hn5 hg5 ha5 rfl; have hR := row_gr hRP hg5 (by first | exact n12 | exact n13); obtain ⟨q0, q1, q2, q3, q4⟩ := cells5 hR; have k0 := hR.free 0; have k1 := hR.free 1; have k2 := hR.free 2; have k3 := hR.free 3; have k4 := hR.free 4; have hRl := hR.lt) | (refine step_append_slice _ (by rfl) _ _ 31 (by rfl) (w.heap.size + 1 + 1) 74 i0 _ 2 16 Try.underlying31 hi hz0 hz1 hz2 rfl (Nat.zero_lt_succ 1) _ _ _ (by rfl) (lit_new hsW le2 74 2) E m d (prc x.pairs) (by rfl) hPl (slI_some HP.out) (slP_cells (HP.out.on RP.keeps (And.left (by assumption)))) (prc_one _) hP63 hPb (hb2) (w.heap.size + 1 + 1 + 1) hd2 ?_; intro v6 w6 ho6 hg6 ha6; obtain ⟨A6, c6, rfl, _, _⟩ := own_form ho6; have hRP := row_gr (row_ad RD (.cells #[] 74)) hg6 n12; have hbP : w.heap.size + 1 + 1 ≤ w6.heap.size := Nat.le_trans hb2 hg6.size) | (refine step_append_slice _ (by rfl) _ _ 31 (by rfl) (w.heap.size + 1 + 1) 74 i0 _ 2 16 Try.underlying31 hi hz0 hz1 hz2 rfl (Nat.zero_lt_succ 1) _ _ _ (by rfl) (own_ad (lit_new hsW le2 74 2) (.cells #[] 3)) E m d (prc x.pairs) (by rfl) hPl (slI_some HP.out) (slP_cells (HP.out.on RP.keeps (And.left (by assumption)))) (prc_one _) hP63 hPb (hb21) (w.heap.size + 1 + 1 + 1 + 1) hd21 ?_; intro v6 w6 ho6 hg6 ha6; obtain ⟨A6, c6, rfl, _, _⟩ := own_form ho6; have hE := own_grown (lit_new hsW2 le3 3 1) hg6 (lit_ne n32); have hn5 := first_ne ha6 n23 n43; have hRP := row_gr (row_ad (row_ad RD (.cells #[] 74)) (.cells #[] 3)) hg6 n12; have hbP : w.heap.size + 1 + 1 ≤ w6.heap.size := Nat.le_trans hb21 hg6.size) | (refine step_append_slice _ (by rfl) _ _ 31 (by rfl) (w.heap.size + 1 + 1) 74 i0 _ 2 16 Try.underlying31 hi hz0 hz1 hz2 rfl (Nat.zero_lt_succ 1) _ _ _ (by rfl) (lit_new hsW1 le3 74 2) E m d (prc x.pairs) (by rfl) hPl (slI_some HP.out) (slP_cells (HP.out.on RP.keeps (And.left (by assumption)))) (prc_one _) hP63 hPb (hb12) (w.heap.size + 1 + 1 + 1 + 1) hd12 ?_; intro v6 w6 ho6 hg6 ha6; obtain ⟨A6, c6, rfl, _, _⟩ := own_form ho6; have hE := own_grown (own_ad (lit_new hsW le2 3 1) (.cells #[] 74)) hg6 (lit_ne n23); have hn5 := first_ne ha6 n32 n42; have hRP := row_gr (row_ad (row_ad RD (.cells #[] 3)) (.cells #[] 74)) hg6 n13; have hbP : w.heap.size + 1 + 1 ≤ w6.heap.size := Nat.le_trans hb12 hg6.size) | (refine step_append_slice _ (by rfl) _ _ 31 (by rfl) (w.heap.size + 1 + 1) 74 i0 _ 2 16 Try.underlying31 hi hz0 hz1 hz2 rfl (Nat.zero_lt_succ 1) _ _ _ (by rfl) (own_mono (own_emptyS w5 74 2) hbI) E m d (prc x.pairs) (by rfl) hPl (slI_some HP.out) (slP_cells (HP.out.on RP.keeps (And.left (by assumption)))) (prc_one _) hP63 hPb (Nat.le_trans hbI (size_le_alloc _ _)) _ rfl ?_; intro v6 w6 ho6 hg6 ha6; obtain ⟨A6, c6, rfl, _, _⟩ := own_form ho6; have F := second_new ho5 hg6 ha6 rfl; have hR := row_gr (hRI.alloc (.cells #[] 74)) hg6 (Nat.ne_of_lt (hRI.lt)); obtain ⟨q0, q1, q2, q3, q4⟩ := cells5 hR; have k0 := hR.free 0; have k1 := hR.free 1; have k2 := hR.free 2; have k3 := hR.free 3; have k4 := hR.free 4; have hRl := hR.lt) | (refine step_append_slice _ (by rfl) _ _ 31 (by rfl) (w.heap.size + 1 + 1) 74 i0 _ 2 16 Try.underlying31 hi hz0 hz1 hz2 rfl (Nat.zero_lt_succ 1) _ _ _ (by rfl) (hE) E m d (prc x.pairs) (by rfl) hPl (slI_some HP.out) (slP_cells (HP.out.on RP.keeps (And.left (by assumption)))) (prc_one _) hP63 hPb (hbI) _ rfl ?_; intro v6 w6 ho6 hg6 ha6; obtain ⟨A6, c6, rfl, _, _⟩ := own_form ho6; have F := second_old ho5 hn5 hg6 ha6 rfl; have hR := row_gr hRI hg6 (by first | exact n12 | exact n13); obtain ⟨q0, q1, q2, q3, q4⟩ := cells5 hR; have k0 := hR.free 0; have k1 := hR.free 1; have k2 := hR.free 2; have k3 := hR.free 3; have k4 := hR.free 4; have hRl := hR.lt) | fail)
  all_goals
    go_wp2
    refine bodyPost_ret (v := .agg #[.int .i64 x.kind, .int .i64 x.field, .int .i64 x.value, .slice A5 n c5, .slice A6 m c6]) (by simp [results, Try.results82, go_sem, q0, q1, q2, q3, q4]) rfl ?_
    refine ⟨_, _, rfl, OwnW.mono (lo := w.heap.size + 1 + 1) ?_ (by omega), ?_⟩
    · repeat (refine OwnW.far ?_ (by first | (simp; done) | (simp; omega)) _)
      first
        | exact fin2 F.1 ho6 F.2 nl ml
        | exact fin2 ho5 F.1 (far_swap F.2) nl ml
    · first
        | exact And.left (by assumption)
        | (repeat (refine Below.setCell ?_ (by first | (simp; done) | (simp; omega)) _)
           first
             | exact And.left (by assumption)
             | exact (s5_gr (by assumption) hg6 l02).1
             | exact (s5_gr (by assumption) hg6 l03).1
             | exact (s5_gr (by assumption) hg5 l02).1
             | exact (s5_gr (by assumption) hg5 l03).1)

end Go.Proofs.Ytphbochfpidgeaa.Wk

namespace Go.Proofs.Ytphbochfpidgeaa.P
open Go.Proofs.Ytphbochfpidgeaa.M

/-- The first k items are valid, and rise. -/
def okUp (l : List It) (k : Nat) : Prop := ∀ i x, i < k → l[i]? = some x → okI x = true ∧ ∀ y, 0 < i → l[i - 1]? = some y → y.id < x.id
theorem risI_iff : ∀ l : List It, risI l = true ↔ ∀ i x y, l[i]? = some x → l[i + 1]? = some y → x.id < y.id
  | [] => by simp [risI]
  | [a] => by simp [risI]
  | a :: b :: t => by
    rw [risI, Bool.and_eq_true, decide_eq_true_eq, risI_iff (b :: t)]
    constructor
    · rintro ⟨h1, h2⟩ i x y hx hy
      cases i with
      | zero => simp at hx hy; subst hx hy; exact h1
      | succ i => exact h2 i x y (by simpa using hx) (by simpa using hy)
    · intro h
      exact ⟨h 0 a b rfl rfl, fun i x y hx hy => h (i + 1) x y (by simpa using hx) (by simpa using hy)⟩
theorem okUp_all {l : List It} (h : okUp l l.length) : (l.all okI && risI l) = true := by
  rw [Bool.and_eq_true, List.all_eq_true, risI_iff]
  refine ⟨fun x hx => ?_, fun i x y hx hy => ?_⟩
  · obtain ⟨i, hi⟩ := List.getElem?_of_mem hx
    exact (h i x (List.getElem?_eq_some_iff.1 hi).1 hi).1
  · exact (h (i + 1) y (List.getElem?_eq_some_iff.1 hy).1 hy).2 x (by omega) (by simpa using hx)
theorem okIs_bad1 {l : List It} {k : Nat} {x : It} (hx : l[k]? = some x) (h : okI x = false) : okIs l = false := by
  unfold okIs
  have : l.all okI = false := by rw [List.all_eq_false]; exact ⟨x, List.mem_of_getElem? hx, by simp [h]⟩
  rw [this]; rfl
theorem okIs_bad2 {l : List It} {k : Nat} {x y : It} (hx : l[k]? = some x) (hy : l[k + 1]? = some y) (h : y.id ≤ x.id) : okIs l = false := by
  unfold okIs
  have : risI l = false := by
    cases hr : risI l with
    | false => rfl
    | true => have := (risI_iff l).1 hr k x y hx hy; omega
  rw [this]; simp
theorem okUp_step {l : List It} {k : Nat} {x : It} (h : okUp l k) (hx : l[k]? = some x) (h1 : okI x = true) (h2 : ∀ y, 0 < k → l[k - 1]? = some y → y.id < x.id) : okUp l (k + 1) := by
  intro i z hi hz
  rcases Nat.lt_or_ge i k with hlt | hge
  · exact h i z hlt hz
  · obtain rfl : i = k := by omega
    rw [hx] at hz
    injection hz with hz
    subst hz
    exact ⟨h1, fun y h0 hy => h2 y h0 hy⟩
theorem okIs_len {l : List It} {n k : Nat} (h : okUp l k) (hl : l.length = n) (hk : k = n) : okIs l = decide ((n : Int) ≤ 16) := by
  subst hl hk
  have := okUp_all h
  rw [Bool.and_eq_true] at this
  unfold okIs
  rw [this.1, this.2]
  simp
  omega
end Go.Proofs.Ytphbochfpidgeaa.P

namespace Go.Proofs.Ytphbochfpidgeaa.Wk
open Go.RowKit Go.Proofs.Ytphbochfpidgeaa.M
set_option linter.unusedVariables false
attribute [local go_sem] cell_grow

set_option maxHeartbeats 1600000 in
set_option maxRecDepth 100000 in
theorem implAreItems {A : Option Addr} {n c : Nat} {l : List It} (w : World) (h : Sl RIt 2 w w.heap.size A n c l) : Calls Try.prog 33 #[.slice A n c] w fun e w' => e = .returned (.bool (P.okIs l)) ∧ Below w.heap.size w w' := by
  have m1 := Nat.le_trans h.le h.max
  unfold maxLen at m1
  have HL := Lib.hid h.len
  go_enter Try.func33, Try.ntmps33
  go_wp2
  go_loopw [3, 4, 7] (fun vi vx vk wr => ∃ k : Nat, k ≤ n ∧ vk = .int .i64 k ∧ Hid (P.okUp l k) ∧ Below w.heap.size w wr) (fun _ _ vk _ => n - (intOf vk).toNat)
  case atStart => exact ⟨0, Nat.zero_le _, rfl, fun i x hi => absurd hi (by omega), Below.refl _ _⟩
  case round =>
    obtain ⟨k, hk, rfl, hup, hbw⟩ := hrel
    have hC := cell_of hbw
    by_cases hlt : k < n
    · obtain ⟨b, o, x, A1, n1, c1, rfl, hb, hx, hf, hs, g0, g1⟩ := itemAt h hlt
      have hsz := hbw.size
      have hb1 : b < wr.heap.size := by omega
      have hb2 : b < wr.heap.size + 1 := by omega
      have HX := Lib.hid hx
      have q1 : (k : Int) < (n : Int) := by omega
      obtain ⟨id, xs⟩ := x
      have HS : Hid (Sl RI 1 (wr.alloc (.cells #[.int .i64 id, .slice A1 n1 c1] 26)) (wr.alloc (.cells #[.int .i64 id, .slice A1 n1 c1] 26)).heap.size A1 n1 c1 xs) :=
        (hs.on RI.keeps hbw).on RI.keeps ((Below.refl _ _).alloc (Nat.le_refl _) _)
      have HB := Lib.hid (hbw.alloc hbw.size (.cells #[.int .i64 id, .slice A1 n1 c1] 26))
      simp only at g0 g1
      clear hs hx hbw
      cases hok : P.okI ⟨id, xs⟩ with
      | false =>
        have HN := Lib.hid (P.okIs_bad1 HX.out hok)
        clear h
        go_wp2_with fail
        refine wp_region_qb (by kernel_rfl) (by kernel_rfl) ?_; (repeat (go_big_quiet_step ((go_at_call 40; exact quietBb hok (implIsItem _ (HS.out.gr RI.keeps _ _) (Nat.le_refl _)))))); refine wpQuiet_nil ?_; intro w8 hb8
        go_wp2
        go_ret
        exact ⟨ret_bool HN.out.symm, HB.out.trans (hb8.mono (by simp; omega))⟩
      | true =>
        by_cases h0 : k = 0
        · have q0 : decide (0 < k) = false := by simp; omega
          have HU := Lib.hid (P.okUp_step hup.out HX.out hok (fun y hy => absurd hy (by omega)))
          clear h h0
          go_wp2_with fail
          refine wp_region_qb (by kernel_rfl) (by kernel_rfl) ?_; (repeat (go_big_quiet_step ((go_at_call 40; exact quietBb hok (implIsItem _ (HS.out.gr RI.keeps _ _) (Nat.le_refl _)))))); refine wpQuiet_nil ?_; intro w8 hb8
          go_wp2
          go_roundw
          case rel => exact ⟨k + 1, by omega, by go_num, HU, HB.out.trans (hb8.mono (by simp; omega))⟩
          case measure => simp [intOf]; omega
        · have hk1 : 1 ≤ k := by omega
          have q0 : decide (0 < k) = true := by simp; omega
          have e0 : IntKind.i64.wrap ((k : Int) - 1) = (k : Int) - 1 := IntWalk.i64_in _ (by omega)
          have e1 : ((k : Int) - 1).toNat = k - 1 := by omega
          obtain ⟨b', o', y, A2, n2, c2, hA, hb', hy, hf', hs', g0', g1'⟩ := itemAt h (show k - 1 < n by omega)
          injection hA with hA
          injection hA with hA1 hA2
          subst hA1 hA2
          have HY := Lib.hid hy
          clear hy hs' g1' hb' h
          by_cases hid : id ≤ y.id
          · have q2 : decide (id ≤ y.id) = true := by simpa using hid
            have HN := Lib.hid (P.okIs_bad2 (k := k - 1) HY.out (by rw [show k - 1 + 1 = k by omega]; exact HX.out) hid)
            go_wp2_with fail
            refine wp_region_qb (by kernel_rfl) (by kernel_rfl) ?_; (repeat (go_big_quiet_step ((go_at_call 40; exact quietBb hok (implIsItem _ (HS.out.gr RI.keeps _ _) (Nat.le_refl _)))))); refine wpQuiet_nil ?_; intro w8 hb8
            go_wp2
            go_ret
            exact ⟨ret_bool HN.out.symm, HB.out.trans (hb8.mono (by simp; omega))⟩
          · have q2 : decide (id ≤ y.id) = false := by simpa using hid
            have HU := Lib.hid (P.okUp_step hup.out HX.out hok (fun z _ hz => by rw [HY.out] at hz; injection hz with hz; subst hz; show y.id < id; omega))
            go_wp2_with fail
            refine wp_region_qb (by kernel_rfl) (by kernel_rfl) ?_; (repeat (go_big_quiet_step ((go_at_call 40; exact quietBb hok (implIsItem _ (HS.out.gr RI.keeps _ _) (Nat.le_refl _)))))); refine wpQuiet_nil ?_; intro w8 hb8
            go_wp2
            go_roundw
            case rel => exact ⟨k + 1, by omega, by go_num, HU, HB.out.trans (hb8.mono (by simp; omega))⟩
            case measure => simp [intOf]; omega
    · have HV := Lib.hid (P.okIs_len hup.out HL.out (by omega))
      clear h hC
      go_wp2
      go_ret
      exact ⟨ret_bool HV.out.symm, hbw⟩
set_option maxHeartbeats 1600000 in
set_option maxRecDepth 100000 in
theorem specAreItems {A : Option Addr} {n c : Nat} {l : List It} (w : World) (h : Sl RIt 2 w w.heap.size A n c l) : Calls Try.prog 34 #[.slice A n c] w fun e w' => e = .returned (.bool (P.okIs l)) ∧ Below w.heap.size w w' := by
  have m1 := Nat.le_trans h.le h.max
  unfold maxLen at m1
  have HL := Lib.hid h.len
  go_enter Try.func34, Try.ntmps34
  go_wp2
  go_loopw [3] (fun vk wr => ∃ k : Nat, k ≤ n ∧ vk = .int .i64 k ∧ Hid (P.okUp l k) ∧ Below w.heap.size w wr) (fun vk _ => n - (intOf vk).toNat)
  case atStart => exact ⟨0, Nat.zero_le _, rfl, fun i x hi => absurd hi (by omega), Below.refl _ _⟩
  case round =>
    obtain ⟨k, hk, rfl, hup, hbw⟩ := hrel
    have hC := cell_of hbw
    by_cases hlt : k < n
    · obtain ⟨b, o, x, A1, n1, c1, rfl, hb, hx, hf, hs, g0, g1⟩ := itemAt h hlt
      have hsz := hbw.size
      have hb1 : b < wr.heap.size := by omega
      have hb2 : b < wr.heap.size + 1 := by omega
      have HX := Lib.hid hx
      have q1 : (k : Int) < (n : Int) := by omega
      obtain ⟨id, xs⟩ := x
      have HS : Hid (Sl RI 1 wr wr.heap.size A1 n1 c1 xs) := hs.on RI.keeps hbw
      have HB := Lib.hid hbw
      simp only at g0 g1
      clear hs hx hbw
      cases hok : P.okI ⟨id, xs⟩ with
      | false =>
        have HN := Lib.hid (P.okIs_bad1 HX.out hok)
        clear h
        go_wp2_with fail
        refine wp_region_qb (by kernel_rfl) (by kernel_rfl) ?_; (repeat (go_big_quiet_step ((go_at_call 12; exact quietBb hok (specIsItem _ (HS.out.gr RI.keeps _ _) (Nat.le_refl _)))))); refine wpQuiet_nil ?_; intro w8 hb8
        go_wp2
        go_ret
        exact ⟨ret_bool HN.out.symm, HB.out.trans (hb8.mono hsz)⟩
      | true =>
        by_cases h0 : k = 0
        · have q0 : decide (0 < k) = false := by simp; omega
          have HU := Lib.hid (P.okUp_step hup.out HX.out hok (fun y hy => absurd hy (by omega)))
          clear h h0
          go_wp2_with fail
          refine wp_region_qb (by kernel_rfl) (by kernel_rfl) ?_; (repeat (go_big_quiet_step ((go_at_call 12; exact quietBb hok (specIsItem _ (HS.out.gr RI.keeps _ _) (Nat.le_refl _)))))); refine wpQuiet_nil ?_; intro w8 hb8
          go_wp2
          go_roundw
          case rel => exact ⟨k + 1, by omega, by go_num, HU, HB.out.trans (hb8.mono hsz)⟩
          case measure => simp [intOf]; omega
        · have hk1 : 1 ≤ k := by omega
          have q0 : decide (0 < k) = true := by simp; omega
          have e0 : IntKind.i64.wrap ((k : Int) - 1) = (k : Int) - 1 := IntWalk.i64_in _ (by omega)
          have e1 : ((k : Int) - 1).toNat = k - 1 := by omega
          obtain ⟨b', o', y, A2, n2, c2, hA, hb', hy, hf', hs', g0', g1'⟩ := itemAt h (show k - 1 < n by omega)
          injection hA with hA
          injection hA with hA1 hA2
          subst hA1 hA2
          have HY := Lib.hid hy
          clear hy hs' g1' hb' h
          by_cases hid : id ≤ y.id
          · have q2 : decide (id ≤ y.id) = true := by simpa using hid
            have HN := Lib.hid (P.okIs_bad2 (k := k - 1) HY.out (by rw [show k - 1 + 1 = k by omega]; exact HX.out) hid)
            go_wp2_with fail
            refine wp_region_qb (by kernel_rfl) (by kernel_rfl) ?_; (repeat (go_big_quiet_step ((go_at_call 12; exact quietBb hok (specIsItem _ (HS.out.gr RI.keeps _ _) (Nat.le_refl _)))))); refine wpQuiet_nil ?_; intro w8 hb8
            go_wp2
            go_ret
            exact ⟨ret_bool HN.out.symm, HB.out.trans (hb8.mono hsz)⟩
          · have q2 : decide (id ≤ y.id) = false := by simpa using hid
            have HU := Lib.hid (P.okUp_step hup.out HX.out hok (fun z _ hz => by rw [HY.out] at hz; injection hz with hz; subst hz; show y.id < id; omega))
            go_wp2_with fail
            refine wp_region_qb (by kernel_rfl) (by kernel_rfl) ?_; (repeat (go_big_quiet_step ((go_at_call 12; exact quietBb hok (specIsItem _ (HS.out.gr RI.keeps _ _) (Nat.le_refl _)))))); refine wpQuiet_nil ?_; intro w8 hb8
            go_wp2
            go_roundw
            case rel => exact ⟨k + 1, by omega, by go_num, HU, HB.out.trans (hb8.mono hsz)⟩
            case measure => simp [intOf]; omega
    · have HV := Lib.hid (P.okIs_len hup.out HL.out (by omega))
      clear h hC
      go_wp2
      go_ret
      exact ⟨ret_bool HV.out.symm, hbw⟩
end Go.Proofs.Ytphbochfpidgeaa.Wk

namespace Go.Proofs.Ytphbochfpidgeaa.Wk
open Go.RowKit Go.Proofs.Ytphbochfpidgeaa.M
set_option linter.unusedVariables false
attribute [local go_sem] cell_grow

set_option maxHeartbeats 800000 in
theorem l2Ints {A A' : Option Addr} {n n' c c' : Nat} {xs ys : List Int} (w : World) (h : Sl RI 1 w w.heap.size A n c xs) (h' : Sl RI 1 w w.heap.size A' n' c' ys) :
    Calls Try.prog 86 #[.slice A n c, .slice A' n' c'] w fun e w' => e = .returned (.bool (decide (xs = ys))) ∧ Below w.heap.size w w' := by
  have m1 := Nat.le_trans h.le h.max
  have m2 := Nat.le_trans h'.le h'.max
  unfold maxLen at m1 m2
  have HL := Lib.hid h.len
  have HL' := Lib.hid h'.len
  by_cases hne : n = n'
  · have HN := Lib.hid hne
    have ht : ((n : Int) != (n' : Int)) = false := by simp [hne]
    clear hne
    go_enter Try.func86, Try.ntmps86
    go_wp2
    go_loopw [5] (fun vk wr => ∃ k : Nat, k ≤ n ∧ vk = .int .i64 k ∧ Hid (P.Agree xs ys k) ∧ Below w.heap.size w wr) (fun vk _ => n - (intOf vk).toNat)
    case atStart => exact ⟨0, Nat.zero_le _, rfl, rfl, Below.refl _ _⟩
    case round =>
      obtain ⟨k, hk, rfl, hup, hbw⟩ := hrel
      by_cases hlt : k < n
      · have hlt' : k < n' := by have := HN.out; omega
        obtain ⟨b, o, x, rfl, hb, hx, hf, hc⟩ := h.int hlt
        obtain ⟨b', o', y, rfl, hb', hy, hf', hc'⟩ := h'.int hlt'
        have hsz := hbw.size
        have g1 : b < wr.heap.size := by omega
        have g2 : b' < wr.heap.size := by omega
        have e1 := ((cell_of hbw) b (o + k) hb).trans hc
        have e2 := ((cell_of hbw) b' (o' + k) hb').trans hc'
        have q1 : (k : Int) < (n : Int) := by omega
        have q2 : (k : Int) < (n' : Int) := by omega
        have HX := Lib.hid hx
        have HY := Lib.hid hy
        clear hx hy h h' hc hc'
        by_cases hxy : x = y
        · have q : (x != y) = false := by simpa using hxy
          have HE := Lib.hid (P.agree_step hup.out HX.out (hxy ▸ HY.out))
          clear hxy
          go_wp2_with fail
          refine wp_region_qb (by kernel_rfl) (by kernel_rfl) ?_; (repeat (go_big_quiet_step ((fail)))); refine wpQuiet_nil ?_; intro w8 hb8
          go_wp2
          go_roundw
          case rel => exact ⟨k + 1, by omega, by go_num, HE, hbw.trans (hb8.mono hsz)⟩
          case measure => simp [intOf]; omega
        · have q : (x != y) = true := by simpa using hxy
          have HE : Hid (decide (xs = ys) = false) := by
            show _ = _
            rw [decide_eq_false_iff_not]; exact P.agree_no HX.out HY.out hxy
          clear hxy
          go_wp2_with fail
          refine wp_region_qb (by kernel_rfl) (by kernel_rfl) ?_; (repeat (go_big_quiet_step ((fail)))); refine wpQuiet_nil ?_; intro w8 hb8
          go_wp2
          go_ret
          exact ⟨ret_bool HE.out.symm, hbw.trans (hb8.mono hsz)⟩
      · have HE : Hid (decide (xs = ys) = true) := by
          show _ = _
          rw [decide_eq_true_iff]
          exact P.agree_all hup.out HL.out (by rw [HL'.out]; exact HN.out.symm) (by omega)
        clear h h'
        go_wp2
        go_ret
        exact ⟨ret_bool HE.out.symm, hbw⟩
  · have ht : ((n : Int) != (n' : Int)) = true := by simp; omega
    have HE : Hid (decide (xs = ys) = false) := by
      show _ = _
      rw [decide_eq_false_iff_not]
      rintro rfl
      exact hne (HL.out.symm.trans HL'.out)
    clear hne h h'
    go_enter Try.func86, Try.ntmps86
    go_wp2
    go_ret
    exact ⟨ret_bool HE.out.symm, Below.refl _ _⟩
set_option maxHeartbeats 800000 in
theorem equalInts {A A' : Option Addr} {n n' c c' : Nat} {xs ys : List Int} (w : World) (h : Sl RI 1 w w.heap.size A n c xs) (h' : Sl RI 1 w w.heap.size A' n' c' ys) :
    Calls Try.prog 80 #[.slice A n c, .slice A' n' c'] w fun e w' => e = .returned (.bool (decide (xs = ys))) ∧ Below w.heap.size w w' := by
  have m1 := Nat.le_trans h.le h.max
  have m2 := Nat.le_trans h'.le h'.max
  unfold maxLen at m1 m2
  have HL := Lib.hid h.len
  have HL' := Lib.hid h'.len
  by_cases hne : n = n'
  · have HN := Lib.hid hne
    have ht : ((n : Int) != (n' : Int)) = false := by simp [hne]
    clear hne
    go_enter Try.func80, Try.ntmps80
    go_wp2
    go_loopw [5, 13] (fun vi vk wr => ∃ k : Nat, k ≤ n ∧ vk = .int .i64 k ∧ Hid (P.Agree xs ys k) ∧ Below w.heap.size w wr) (fun vi vk _ => n - (intOf vk).toNat)
    case atStart => exact ⟨0, Nat.zero_le _, rfl, rfl, Below.refl _ _⟩
    case round =>
      obtain ⟨k, hk, rfl, hup, hbw⟩ := hrel
      by_cases hlt : k < n
      · have hlt' : k < n' := by have := HN.out; omega
        obtain ⟨b, o, x, rfl, hb, hx, hf, hc⟩ := h.int hlt
        obtain ⟨b', o', y, rfl, hb', hy, hf', hc'⟩ := h'.int hlt'
        have hsz := hbw.size
        have g1 : b < wr.heap.size := by omega
        have g2 : b' < wr.heap.size := by omega
        have e1 := ((cell_of hbw) b (o + k) hb).trans hc
        have e2 := ((cell_of hbw) b' (o' + k) hb').trans hc'
        have q1 : (k : Int) < (n : Int) := by omega
        have q2 : (k : Int) < (n' : Int) := by omega
        have HX := Lib.hid hx
        have HY := Lib.hid hy
        clear hx hy h h' hc hc'
        by_cases hxy : x = y
        · have q : (x != y) = false := by simpa using hxy
          have HE := Lib.hid (P.agree_step hup.out HX.out (hxy ▸ HY.out))
          clear hxy
          go_wp2_with fail
          refine wp_region_qb (by kernel_rfl) (by kernel_rfl) ?_; (repeat (go_big_quiet_step ((fail)))); refine wpQuiet_nil ?_; intro w8 hb8
          go_wp2
          go_roundw
          case rel => exact ⟨k + 1, by omega, by go_num, HE, hbw.trans (hb8.mono hsz)⟩
          case measure => simp [intOf]; omega
        · have q : (x != y) = true := by simpa using hxy
          have HE : Hid (decide (xs = ys) = false) := by
            show _ = _
            rw [decide_eq_false_iff_not]; exact P.agree_no HX.out HY.out hxy
          clear hxy
          go_wp2_with fail
          refine wp_region_qb (by kernel_rfl) (by kernel_rfl) ?_; (repeat (go_big_quiet_step ((fail)))); refine wpQuiet_nil ?_; intro w8 hb8
          go_wp2
          go_ret
          exact ⟨ret_bool HE.out.symm, hbw.trans (hb8.mono hsz)⟩
      · have HE : Hid (decide (xs = ys) = true) := by
          show _ = _
          rw [decide_eq_true_iff]
          exact P.agree_all hup.out HL.out (by rw [HL'.out]; exact HN.out.symm) (by omega)
        clear h h'
        go_wp2
        go_ret
        exact ⟨ret_bool HE.out.symm, hbw⟩
  · have ht : ((n : Int) != (n' : Int)) = true := by simp; omega
    have HE : Hid (decide (xs = ys) = false) := by
      show _ = _
      rw [decide_eq_false_iff_not]
      rintro rfl
      exact hne (HL.out.symm.trans HL'.out)
    clear hne h h'
    go_enter Try.func80, Try.ntmps80
    go_wp2
    go_ret
    exact ⟨ret_bool HE.out.symm, Below.refl _ _⟩
theorem it_eq (x y : It) : decide (x = y) = (decide (x.id = y.id) && decide (x.vals = y.vals)) := by
  obtain ⟨a, b⟩ := x
  obtain ⟨c, d⟩ := y
  simp [It.mk.injEq, Bool.decide_and]
end Go.Proofs.Ytphbochfpidgeaa.Wk

namespace Go.Proofs.Ytphbochfpidgeaa.P
open Go.Proofs.Ytphbochfpidgeaa.M
set_option linter.unusedVariables false

/-- The first k values lie in their bounds, and rise. -/
def upL (l : List Int) (k : Nat) : Prop := ∀ i x, i < k → l[i]? = some x → inR x 0 9 = true ∧ ∀ y, 0 < i → l[i - 1]? = some y → y < x
/-- They all do. -/
def okL (l : List Int) : Bool := okV l && risL l
theorem risL_iff : ∀ l : List Int, risL l = true ↔ ∀ i x y, l[i]? = some x → l[i + 1]? = some y → x < y
  | [] => by simp [risL]
  | [a] => by simp [risL]
  | a :: b :: t => by
    rw [risL, Bool.and_eq_true, decide_eq_true_eq, risL_iff (b :: t)]
    constructor
    · rintro ⟨h1, h2⟩ i x y hx hy
      cases i with
      | zero => simp at hx hy; subst hx hy; exact h1
      | succ i => exact h2 i x y (by simpa using hx) (by simpa using hy)
    · intro h
      exact ⟨h 0 a b rfl rfl, fun i x y hx hy => h (i + 1) x y (by simpa using hx) (by simpa using hy)⟩
theorem upL_all {l : List Int} (h : upL l l.length) : okL l = true := by
  unfold okL okV
  rw [Bool.and_eq_true, List.all_eq_true, risL_iff]
  refine ⟨fun x hx => ?_, fun i x y hx hy => ?_⟩
  · obtain ⟨i, hi⟩ := List.getElem?_of_mem hx
    exact (h i x (List.getElem?_eq_some_iff.1 hi).1 hi).1
  · exact (h (i + 1) y (List.getElem?_eq_some_iff.1 hy).1 hy).2 x (by omega) (by simpa using hx)
theorem okL_bad1 {l : List Int} {k : Nat} {x : Int} (hx : l[k]? = some x) (h : inR x 0 9 = false) : okL l = false := by
  unfold okL okV
  have : (l.all fun v => inR v 0 9) = false := by rw [List.all_eq_false]; exact ⟨x, List.mem_of_getElem? hx, by simp [h]⟩
  rw [this]; rfl
theorem okL_bad2 {l : List Int} {k : Nat} {x y : Int} (hx : l[k]? = some x) (hy : l[k + 1]? = some y) (h : y ≤ x) : okL l = false := by
  unfold okL
  have : risL l = false := by
    cases hr : risL l with
    | false => rfl
    | true => have := (risL_iff l).1 hr k x y hx hy; omega
  rw [this]; simp
theorem upL_step {l : List Int} {k : Nat} {x : Int} (h : upL l k) (hx : l[k]? = some x) (h1 : inR x 0 9 = true) (h2 : ∀ y, 0 < k → l[k - 1]? = some y → y < x) : upL l (k + 1) := by
  intro i z hi hz
  rcases Nat.lt_or_ge i k with hlt | hge
  · exact h i z hlt hz
  · obtain rfl : i = k := by omega
    rw [hx] at hz; injection hz with hz; subst hz
    exact ⟨h1, fun y h0 hy => h2 y h0 hy⟩
theorem okL_nil : okL [] = true := rfl
theorem okW_eq (w : Wi) : okW w = (inR w.field 0 2 && inR w.kind 0 4 && inR w.value 0 9 && okL w.list && (decide (w.kind = 2) || decide (w.value = 0)) && (decide (w.kind = 3) == decide (w.list ≠ [])) && (if w.kind = 4 then okP w.pairs else decide (w.pairs = []))) := by
  obtain ⟨kind, field, value, list, pairs⟩ := w
  unfold okW
  simp only
  by_cases k0 : kind = 0
  · subst k0
    by_cases hv : value = 0
    · subst hv
      by_cases hl : list = []
      · subst hl; simp [inR, okL_nil]
      · simp [hl]
    · simp [hv]
  · by_cases k1 : kind = 1
    · subst k1
      by_cases hv : value = 0
      · subst hv
        by_cases hl : list = []
        · subst hl; simp [inR, okL_nil]
        · simp [hl]
      · simp [hv]
    · by_cases k2 : kind = 2
      · subst k2
        by_cases hl : list = []
        · subst hl; simp [inR, okL_nil, Bool.and_assoc]
        · simp [hl]
      · by_cases k3 : kind = 3
        · subst k3
          by_cases hv : value = 0
          · subst hv
            by_cases hl : list = []
            · subst hl; simp
            · simp [hl, inR, okL]
              cases okV list <;> cases risL list <;> simp
          · simp [hv]
        · by_cases k4 : kind = 4
          · subst k4
            by_cases hv : value = 0
            · subst hv
              by_cases hl : list = []
              · subst hl; simp [inR, okL_nil]
              · simp [hl]
            · simp [hv]
          · have : inR kind 0 4 = false := inR_no (by omega)
            simp [k0, k1, k2, k3, k4, this]
theorem okW_f1 {w : Wi} (h : inR w.field 0 2 = false) : okW w = false := by rw [okW_eq, h]; simp
theorem okW_f2 {w : Wi} (h : inR w.kind 0 4 = false) : okW w = false := by rw [okW_eq, h]; simp
theorem okW_f3 {w : Wi} (h : inR w.value 0 9 = false) : okW w = false := by rw [okW_eq, h]; simp
theorem okW_f4 {w : Wi} (h : okL w.list = false) : okW w = false := by rw [okW_eq, h]; simp
theorem okW_f5 {w : Wi} (h : w.kind ≠ 2) (h' : w.value ≠ 0) : okW w = false := by rw [okW_eq]; simp [h, h']
theorem okW_f6 {w : Wi} (h : w.kind = 3) (h' : w.list = []) : okW w = false := by rw [okW_eq]; simp [h, h']
theorem okW_f7 {w : Wi} (h : w.kind ≠ 3) (h' : w.list ≠ []) : okW w = false := by rw [okW_eq]; simp [h, h']
theorem okW_t4 {w : Wi} (h1 : inR w.field 0 2 = true) (h3 : okL w.list = true) (h5 : w.value = 0) (h6 : w.list = []) (h7 : w.kind = 4) : okW w = okP w.pairs := by
  rw [okW_eq, h1, h3, if_pos h7]; simp [h5, h6, h7, inR]
theorem okW_t {w : Wi} (h1 : inR w.field 0 2 = true) (h2 : inR w.kind 0 4 = true) (h3 : inR w.value 0 9 = true) (h4 : okL w.list = true) (h5 : w.kind = 2 ∨ w.value = 0) (h6 : w.kind = 3 ↔ w.list ≠ []) (h7 : w.kind ≠ 4) : okW w = decide (w.pairs = []) := by
  rw [okW_eq, h1, h2, h3, h4, if_neg h7]
  have e5 : (decide (w.kind = 2) || decide (w.value = 0)) = true := by rcases h5 with h | h <;> simp [h]
  have e6 : (decide (w.kind = 3) == decide (w.list ≠ [])) = true := by
    rw [beq_iff_eq]; exact decide_eq_decide.2 h6
  rw [e5, e6]; rfl
theorem okW_field {w : Wi} (h : okW w = true) : 0 ≤ w.field ∧ w.field ≤ 2 := by
  cases e : inR w.field 0 2 with
  | true => exact inR_t e
  | false => rw [okW_f1 e] at h; cases h
theorem okW_value {w : Wi} (h : okW w = true) : 0 ≤ w.value ∧ w.value ≤ 9 := by
  cases e : inR w.value 0 9 with
  | true => exact inR_t e
  | false => rw [okW_f3 e] at h; cases h
theorem okW_kind {w : Wi} (h : okW w = true) : 0 ≤ w.kind ∧ w.kind ≤ 4 := by
  cases e : inR w.kind 0 4 with
  | true => exact inR_t e
  | false => rw [okW_f2 e] at h; cases h
theorem okW_pairs {w : Wi} (h : okW w = true) (hk : w.kind = 4) : okP w.pairs = true := by
  rw [okW_eq] at h
  simp only [Bool.and_eq_true, hk, if_true] at h
  exact h.2
theorem okW_listlen {w : Wi} (h : okW w = true) : w.list.length ≤ 10 := by
  have hl : okL w.list = true := by
    rw [okW_eq] at h
    simp only [Bool.and_eq_true] at h
    exact h.1.1.1.2
  unfold okL at hl
  rw [Bool.and_eq_true] at hl
  obtain ⟨h1, h2⟩ := hl
  rw [risL_iff] at h2
  have key : ∀ (i : Nat) (x : Int), w.list[i]? = some x → (i : Int) ≤ x := by
    intro i
    induction i with
    | zero =>
      intro x hx
      have := inR_t (List.all_eq_true.1 h1 x (List.mem_of_getElem? hx)); omega
    | succ i ih =>
      intro x hx
      have hl := (List.getElem?_eq_some_iff.1 hx).1
      have := h2 i w.list[i] x (List.getElem?_eq_getElem (by omega)) hx
      have := ih w.list[i] (List.getElem?_eq_getElem (by omega))
      omega
  rcases Nat.lt_or_ge w.list.length 11 with hlt | hge
  · omega
  · have e := List.getElem?_eq_getElem (l := w.list) (i := 10) (by omega)
    have := key 10 _ e
    have := inR_t (List.all_eq_true.1 h1 _ (List.mem_of_getElem? e))
    omega
theorem okW_pairslen {w : Wi} (h : okW w = true) : w.pairs.length ≤ 8 := by
  by_cases hk : w.kind = 4
  · exact okP_len (okW_pairs h hk)
  · rw [okW_eq] at h
    simp only [Bool.and_eq_true, if_neg hk, decide_eq_true_eq] at h
    rw [h.2]; simp
theorem rank_bd {w : Wi} {v : Int} (h1 : 0 ≤ w.value ∧ w.value ≤ 9) (h2 : 0 ≤ v ∧ v ≤ 9) : 0 ≤ rank w v ∧ rank w v ≤ 9 := by
  unfold rank
  split
  · exact h2
  · split
    · omega
    · split
      · omega
      · split <;> omega
end Go.Proofs.Ytphbochfpidgeaa.P

namespace Go.Proofs.Ytphbochfpidgeaa.P
open Go.Proofs.Ytphbochfpidgeaa.M

deriving instance DecidableEq for Wi
deriving instance DecidableEq for Nd
theorem noW_eq (w : Wi) : noW w = decide (w = ⟨0, 0, 0, [], []⟩) := by
  obtain ⟨a, b, c, d, e⟩ := w
  unfold noW
  simp
theorem depth_app (l m : List Nd) : ∀ d, depth (l ++ m) d = (depth l d).bind fun d' => depth m d' := by
  induction l with
  | nil => intro d; rfl
  | cons n t ih =>
    intro d
    simp only [List.cons_append, depth]
    split
    · exact ih _
    · rfl
/-- The stack behind the first k nodes is d deep. -/
def Dep (l : List Nd) (k d : Nat) : Prop := depth (l.take k) 0 = some d
theorem dep_zero (l : List Nd) : Dep l 0 0 := rfl
theorem split_at {α : Type} {l : List α} {k : Nat} {x : α} (hx : l[k]? = some x) : l = l.take k ++ x :: l.drop (k + 1) := by
  obtain ⟨hl, e⟩ := List.getElem?_eq_some_iff.1 hx
  have h1 := (List.take_append_drop k l).symm
  rw [List.drop_eq_getElem_cons hl, e] at h1
  exact h1
theorem dep_step {l : List Nd} {k d : Nat} {x : Nd} (h : Dep l k d) (hx : l[k]? = some x) (h1 : okN x = true) (h2 : opnds x.op ≤ d) : Dep l (k + 1) (d + 1 - opnds x.op) := by
  obtain ⟨hl, e⟩ := List.getElem?_eq_some_iff.1 hx
  unfold Dep at *
  rw [List.take_succ_eq_append_getElem hl, e, depth_app, h]
  simp [depth, h1, h2]
theorem dep_bad {l : List Nd} {k d : Nat} {x : Nd} (h : Dep l k d) (hx : l[k]? = some x) (h1 : okN x = false ∨ d < opnds x.op) : okE l = false := by
  unfold Dep at h
  have e : depth l 0 = none := by
    rw [split_at hx, depth_app, h]
    simp only [Option.bind_some, depth]
    rcases h1 with h1 | h1
    · rw [h1]; rfl
    · rw [if_neg]
      simp; intro _; omega
  unfold okE
  rw [e]; rfl
theorem dep_end {l : List Nd} {k d n : Nat} (h : Dep l k d) (hn : l.length = n) (hk : k = n) : okE l = (decide ((d : Int) = 1) && decide ((n : Int) ≤ 9)) := by
  unfold Dep at h
  rw [List.take_of_length_le (by omega)] at h
  unfold okE
  rw [h, hn]
  congr 1
  · apply decide_eq_decide.2
    simp; omega
  · apply decide_eq_decide.2; omega
theorem dep_le {l : List Nd} : ∀ {k d : Nat}, Dep l k d → d ≤ k := by
  have key : ∀ (m : List Nd) (a b : Nat), depth m a = some b → b ≤ a + m.length := by
    intro m
    induction m with
    | nil => intro a b h; simp [depth] at h; simp; omega
    | cons n t ih =>
      intro a b h
      simp only [depth] at h
      split at h
      · have := ih _ _ h; simp; omega
      · cases h
  intro k d h
  have h2 := key _ _ _ h
  have := List.length_take_le k l
  omega
theorem opnds_0 : opnds 0 = 0 := rfl
theorem opnds_1 : opnds 1 = 2 := rfl
theorem opnds_2 : opnds 2 = 2 := rfl
theorem opnds_3 : opnds 3 = 1 := rfl
theorem opnds_4 : opnds 4 = 2 := rfl
theorem okN_op {x : Nd} (h : inR x.op 0 4 = false) : okN x = false := by unfold okN; rw [h]; rfl
theorem okN_0 {x : Nd} (h : x.op = 0) : okN x = okW x.wish := by unfold okN; rw [h, if_pos rfl]; rfl
theorem okN_1 {x : Nd} (h : inR x.op 0 4 = true) (h' : x.op ≠ 0) : okN x = noW x.wish := by unfold okN; rw [h, if_neg h']; rfl
theorem okE_len {l : List Nd} (h : okE l = true) : l.length ≤ 9 ∧ depth l 0 = some 1 := by
  unfold okE at h
  simp only [Bool.and_eq_true, decide_eq_true_eq] at h
  exact ⟨h.2, h.1⟩
/-- Of a valid expression, each node is valid, and finds its operands. -/
theorem okE_at {l : List Nd} (h : okE l = true) {k : Nat} {x : Nd} (hx : l[k]? = some x) : okN x = true ∧ ∃ d, Dep l k d ∧ opnds x.op ≤ d := by
  obtain ⟨_, hd⟩ := okE_len h
  rw [split_at hx, depth_app] at hd
  cases hp : depth (l.take k) 0 with
  | none => rw [hp] at hd; cases hd
  | some d =>
    rw [hp] at hd
    simp only [Option.bind_some, depth] at hd
    split at hd
    · rename_i hc
      simp only [Bool.and_eq_true, decide_eq_true_eq] at hc
      exact ⟨hc.1, d, hp, hc.2⟩
    · cases hd
end Go.Proofs.Ytphbochfpidgeaa.P

namespace Go.Proofs.Ytphbochfpidgeaa.Wk
open Go.RowKit Go.Proofs.Ytphbochfpidgeaa.M
set_option linter.unusedVariables false
attribute [local go_sem] cell_grow

theorem wi_eq (x y : Wi) : decide (x = y) = (decide (x.kind = y.kind) && decide (x.field = y.field) && decide (x.value = y.value) && decide (x.list = y.list) && decide (x.pairs = y.pairs)) := by
  obtain ⟨a, b, c, d, e⟩ := x
  obtain ⟨a', b', c', d', e'⟩ := y
  simp [Wi.mk.injEq, Bool.decide_and, Bool.and_assoc]
theorem nd_eq (x y : Nd) : decide (x = y) = (decide (x.op = y.op) && decide (x.wish = y.wish)) := by
  obtain ⟨a, b⟩ := x
  obtain ⟨c, d⟩ := y
  simp [Nd.mk.injEq, Bool.decide_and]
set_option maxHeartbeats 1600000 in
set_option maxRecDepth 100000 in
theorem l5SamePairs {A A' : Option Addr} {n n' c c' : Nat} {xs ys : List (Int × Int)} (w : World) (h : Sl RP 2 w w.heap.size A n c xs) (h' : Sl RP 2 w w.heap.size A' n' c' ys) :
    Calls Try.prog 87 #[.slice A n c, .slice A' n' c'] w fun e w' => e = .returned (.bool (decide (xs = ys))) ∧ Below w.heap.size w w' := by
  have m1 := Nat.le_trans h.le h.max
  have m2 := Nat.le_trans h'.le h'.max
  unfold maxLen at m1 m2
  have HL := Lib.hid h.len
  have HL' := Lib.hid h'.len
  by_cases hne : n = n'
  · have HN := Lib.hid hne
    have ht : ((n : Int) != (n' : Int)) = false := by simp [hne]
    clear hne
    go_enter Try.func87, Try.ntmps87
    go_wp2
    go_loopw [5] (fun vk wr => ∃ k : Nat, k ≤ n ∧ vk = .int .i64 k ∧ Hid (P.Agree xs ys k) ∧ Below w.heap.size w wr) (fun vk _ => n - (intOf vk).toNat)
    case atStart => exact ⟨0, Nat.zero_le _, rfl, rfl, Below.refl _ _⟩
    case round =>
      obtain ⟨k, hk, rfl, hup, hbw⟩ := hrel
      by_cases hlt : k < n
      · have hlt' : k < n' := by have := HN.out; omega
        obtain ⟨b, o, x, rfl, hb, hx, hf1, hf2, hc0, hc1⟩ := pairAt h hlt
        obtain ⟨b', o', y, rfl, hb', hy, hf1', hf2', hd0, hd1⟩ := pairAt h' hlt'
        have hsz := hbw.size
        have g1 : b < wr.heap.size := by omega
        have g2 : b' < wr.heap.size := by omega
        have e1 := ((cell_of hbw) b (o + k * 2) hb).trans hc0
        have e2 := ((cell_of hbw) b (o + k * 2 + 1) hb).trans hc1
        have e3 := ((cell_of hbw) b' (o' + k * 2) hb').trans hd0
        have e4 := ((cell_of hbw) b' (o' + k * 2 + 1) hb').trans hd1
        have q1 : (k : Int) < (n : Int) := by omega
        have q2 : (k : Int) < (n' : Int) := by omega
        have HX := Lib.hid hx
        have HY := Lib.hid hy
        clear hx hy h h' hc0 hc1 hd0 hd1
        by_cases hxy : x = y
        · have q : (x.1 != y.1) = false := by simp [hxy]
          have q' : (x.2 != y.2) = false := by simp [hxy]
          have q3 : (x.1 == y.1) = true := by simp [hxy]
          have q4 : (x.2 == y.2) = true := by simp [hxy]
          have HE := Lib.hid (P.agree_step hup.out HX.out (hxy ▸ HY.out))
          clear hxy
          go_wp2_with fail
          refine wp_region_qb (by kernel_rfl) (by kernel_rfl) ?_; (repeat (go_big_quiet_step ((fail)))); refine wpQuiet_nil ?_; intro w8 hb8
          go_wp2
          go_roundw
          case rel => exact ⟨k + 1, by omega, by go_num, HE, hbw.trans (hb8.mono hsz)⟩
          case measure => simp [intOf]; omega
        · have HE : Hid (decide (xs = ys) = false) := by
            show _ = _
            rw [decide_eq_false_iff_not]; exact P.agree_no HX.out HY.out hxy
          by_cases h1 : x.1 = y.1
          · have h2 : x.2 ≠ y.2 := fun h2 => hxy (Prod.ext h1 h2)
            have q : (x.1 != y.1) = false := by simpa using h1
            have q' : (x.2 != y.2) = true := by simpa using h2
            have q3 : (x.1 == y.1) = true := by simpa using h1
            have q4 : (x.2 == y.2) = false := by simpa using h2
            clear hxy h1 h2
            go_wp2_with fail
            refine wp_region_qb (by kernel_rfl) (by kernel_rfl) ?_; (repeat (go_big_quiet_step ((fail)))); refine wpQuiet_nil ?_; intro w8 hb8
            go_wp2
            go_ret
            exact ⟨ret_bool HE.out.symm, hbw.trans (hb8.mono hsz)⟩
          · have q : (x.1 != y.1) = true := by simpa using h1
            have q3 : (x.1 == y.1) = false := by simpa using h1
            clear hxy h1
            go_wp2_with fail
            refine wp_region_qb (by kernel_rfl) (by kernel_rfl) ?_; (repeat (go_big_quiet_step ((fail)))); refine wpQuiet_nil ?_; intro w8 hb8
            go_wp2
            go_ret
            exact ⟨ret_bool HE.out.symm, hbw.trans (hb8.mono hsz)⟩
      · have HE : Hid (decide (xs = ys) = true) := by
          show _ = _
          rw [decide_eq_true_iff]
          exact P.agree_all hup.out HL.out (by rw [HL'.out]; exact HN.out.symm) (by omega)
        clear h h'
        go_wp2
        go_ret
        exact ⟨ret_bool HE.out.symm, hbw⟩
  · have ht : ((n : Int) != (n' : Int)) = true := by simp; omega
    have HE : Hid (decide (xs = ys) = false) := by
      show _ = _
      rw [decide_eq_false_iff_not]
      rintro rfl
      exact hne (HL.out.symm.trans HL'.out)
    clear hne h h'
    go_enter Try.func87, Try.ntmps87
    go_wp2
    go_ret
    exact ⟨ret_bool HE.out.symm, Below.refl _ _⟩
set_option maxHeartbeats 1600000 in
set_option maxRecDepth 100000 in
theorem equalPairs {A A' : Option Addr} {n n' c c' : Nat} {xs ys : List (Int × Int)} (w : World) (h : Sl RP 2 w w.heap.size A n c xs) (h' : Sl RP 2 w w.heap.size A' n' c' ys) :
    Calls Try.prog 81 #[.slice A n c, .slice A' n' c'] w fun e w' => e = .returned (.bool (decide (xs = ys))) ∧ Below w.heap.size w w' := by
  have m1 := Nat.le_trans h.le h.max
  have m2 := Nat.le_trans h'.le h'.max
  unfold maxLen at m1 m2
  have HL := Lib.hid h.len
  have HL' := Lib.hid h'.len
  by_cases hne : n = n'
  · have HN := Lib.hid hne
    have ht : ((n : Int) != (n' : Int)) = false := by simp [hne]
    clear hne
    go_enter Try.func81, Try.ntmps81
    go_wp2
    go_loopw [5, 13] (fun vi vk wr => ∃ k : Nat, k ≤ n ∧ vk = .int .i64 k ∧ Hid (P.Agree xs ys k) ∧ Below w.heap.size w wr) (fun vi vk _ => n - (intOf vk).toNat)
    case atStart => exact ⟨0, Nat.zero_le _, rfl, rfl, Below.refl _ _⟩
    case round =>
      obtain ⟨k, hk, rfl, hup, hbw⟩ := hrel
      by_cases hlt : k < n
      · have hlt' : k < n' := by have := HN.out; omega
        obtain ⟨b, o, x, rfl, hb, hx, hf1, hf2, hc0, hc1⟩ := pairAt h hlt
        obtain ⟨b', o', y, rfl, hb', hy, hf1', hf2', hd0, hd1⟩ := pairAt h' hlt'
        have hsz := hbw.size
        have g1 : b < wr.heap.size := by omega
        have g2 : b' < wr.heap.size := by omega
        have e1 := ((cell_of hbw) b (o + k * 2) hb).trans hc0
        have e2 := ((cell_of hbw) b (o + k * 2 + 1) hb).trans hc1
        have e3 := ((cell_of hbw) b' (o' + k * 2) hb').trans hd0
        have e4 := ((cell_of hbw) b' (o' + k * 2 + 1) hb').trans hd1
        have q1 : (k : Int) < (n : Int) := by omega
        have q2 : (k : Int) < (n' : Int) := by omega
        have HX := Lib.hid hx
        have HY := Lib.hid hy
        clear hx hy h h' hc0 hc1 hd0 hd1
        by_cases hxy : x = y
        · have q : (x.1 != y.1) = false := by simp [hxy]
          have q' : (x.2 != y.2) = false := by simp [hxy]
          have q3 : (x.1 == y.1) = true := by simp [hxy]
          have q4 : (x.2 == y.2) = true := by simp [hxy]
          have HE := Lib.hid (P.agree_step hup.out HX.out (hxy ▸ HY.out))
          clear hxy
          go_wp2_with fail
          refine wp_region_qb (by kernel_rfl) (by kernel_rfl) ?_; (repeat (go_big_quiet_step ((fail)))); refine wpQuiet_nil ?_; intro w8 hb8
          go_wp2
          go_roundw
          case rel => exact ⟨k + 1, by omega, by go_num, HE, hbw.trans (hb8.mono hsz)⟩
          case measure => simp [intOf]; omega
        · have HE : Hid (decide (xs = ys) = false) := by
            show _ = _
            rw [decide_eq_false_iff_not]; exact P.agree_no HX.out HY.out hxy
          by_cases h1 : x.1 = y.1
          · have h2 : x.2 ≠ y.2 := fun h2 => hxy (Prod.ext h1 h2)
            have q : (x.1 != y.1) = false := by simpa using h1
            have q' : (x.2 != y.2) = true := by simpa using h2
            have q3 : (x.1 == y.1) = true := by simpa using h1
            have q4 : (x.2 == y.2) = false := by simpa using h2
            clear hxy h1 h2
            go_wp2_with fail
            refine wp_region_qb (by kernel_rfl) (by kernel_rfl) ?_; (repeat (go_big_quiet_step ((fail)))); refine wpQuiet_nil ?_; intro w8 hb8
            go_wp2
            go_ret
            exact ⟨ret_bool HE.out.symm, hbw.trans (hb8.mono hsz)⟩
          · have q : (x.1 != y.1) = true := by simpa using h1
            have q3 : (x.1 == y.1) = false := by simpa using h1
            clear hxy h1
            go_wp2_with fail
            refine wp_region_qb (by kernel_rfl) (by kernel_rfl) ?_; (repeat (go_big_quiet_step ((fail)))); refine wpQuiet_nil ?_; intro w8 hb8
            go_wp2
            go_ret
            exact ⟨ret_bool HE.out.symm, hbw.trans (hb8.mono hsz)⟩
      · have HE : Hid (decide (xs = ys) = true) := by
          show _ = _
          rw [decide_eq_true_iff]
          exact P.agree_all hup.out HL.out (by rw [HL'.out]; exact HN.out.symm) (by omega)
        clear h h'
        go_wp2
        go_ret
        exact ⟨ret_bool HE.out.symm, hbw⟩
  · have ht : ((n : Int) != (n' : Int)) = true := by simp; omega
    have HE : Hid (decide (xs = ys) = false) := by
      show _ = _
      rw [decide_eq_false_iff_not]
      rintro rfl
      exact hne (HL.out.symm.trans HL'.out)
    clear hne h h'
    go_enter Try.func81, Try.ntmps81
    go_wp2
    go_ret
    exact ⟨ret_bool HE.out.symm, Below.refl _ _⟩
set_option maxHeartbeats 1600000 in
set_option maxRecDepth 100000 in
theorem l5SameWish {A E A' E' : Option Addr} {n c m d n' c' m' d' : Nat} {x y : Wi} (w : World) (h : Sl RI 1 w w.heap.size A n c x.list) (g : Sl RP 2 w w.heap.size E m d x.pairs) (h' : Sl RI 1 w w.heap.size A' n' c' y.list) (g' : Sl RP 2 w w.heap.size E' m' d' y.pairs) :
    Calls Try.prog 70 #[.agg #[.int .i64 x.kind, .int .i64 x.field, .int .i64 x.value, .slice A n c, .slice E m d], .agg #[.int .i64 y.kind, .int .i64 y.field, .int .i64 y.value, .slice A' n' c', .slice E' m' d']] w fun e w' => e = .returned (.bool (decide (x = y))) ∧ Below w.heap.size w w' := by
  have B2 := ((Below.refl w.heap.size w).alloc (Nat.le_refl _) (.cells #[.int .i64 x.kind, .int .i64 x.field, .int .i64 x.value, .slice A n c, .slice E m d] 39)).alloc (by simp) (.cells #[.int .i64 y.kind, .int .i64 y.field, .int .i64 y.value, .slice A' n' c', .slice E' m' d'] 39)
  have H := Lib.hid (h.on RI.keeps B2)
  have H' := Lib.hid (h'.on RI.keeps B2)
  have G := Lib.hid (g.on RP.keeps B2)
  have G' := Lib.hid (g'.on RP.keeps B2)
  clear h h' g g'
  by_cases h0 : x.kind = y.kind
  · have q0 : (x.kind == y.kind) = true := by simpa using h0
    by_cases h1 : x.field = y.field
    · have q1 : (x.field == y.field) = true := by simpa using h1
      by_cases h2 : x.value = y.value
      · have q2 : (x.value == y.value) = true := by simpa using h2
        cases hl : decide (x.list = y.list) with
        | false =>
          have HE : Hid (decide (x = y) = false) := by show _ = _; rw [wi_eq, hl]; simp
          clear h0 h1 h2
          go_enter Try.func70, Try.ntmps70
          go_wp2_with (go_at_call 86; refine (l2Ints _ H.out H'.out).mono ?_; rintro e w2 ⟨rfl, b2⟩; rw [hl])
          go_ret
          exact ⟨ret_bool HE.out.symm, B2.trans (b2.mono B2.size)⟩
        | true =>
          have HE : Hid (decide (x = y) = decide (x.pairs = y.pairs)) := by show _ = _; rw [wi_eq, hl]; simp [h0, h1, h2]
          clear h0 h1 h2
          go_enter Try.func70, Try.ntmps70
          go_wp2_with fail
          refine (l2Ints _ H.out H'.out).mono ?_
          rintro e w2 ⟨rfl, b2⟩
          rw [hl]
          have K := G.out.on RP.keeps b2
          have K' := G'.out.on RP.keeps b2
          have hC := cell_of b2
          have z1 : w.heap.size < w2.heap.size := by have := b2.size; simp at this; omega
          have z2 : w.heap.size + 1 < w2.heap.size := by have := b2.size; simp at this; omega
          go_wp2_with fail
          refine (l5SamePairs _ K K').mono ?_
          rintro e w3 ⟨rfl, b3⟩
          have B3 := (B2.trans (b2.mono B2.size)).trans (b3.mono (B2.trans (b2.mono B2.size)).size)
          clear K K' hC b2 b3 B2
          go_wp2_with fail
          go_ret
          exact ⟨ret_bool HE.out.symm, B3⟩
      · have q2 : (x.value == y.value) = false := by simpa using h2
        have HE : Hid (decide (x = y) = false) := by show _ = _; rw [wi_eq]; simp [h2]
        clear h0 h1 h2
        go_enter Try.func70, Try.ntmps70
        go_wp2_with fail
        go_ret
        exact ⟨ret_bool HE.out.symm, B2⟩
    · have q1 : (x.field == y.field) = false := by simpa using h1
      have HE : Hid (decide (x = y) = false) := by show _ = _; rw [wi_eq]; simp [h1]
      clear h0 h1
      go_enter Try.func70, Try.ntmps70
      go_wp2_with fail
      go_ret
      exact ⟨ret_bool HE.out.symm, B2⟩
  · have q0 : (x.kind == y.kind) = false := by simpa using h0
    have HE : Hid (decide (x = y) = false) := by show _ = _; rw [wi_eq]; simp [h0]
    clear h0
    go_enter Try.func70, Try.ntmps70
    go_wp2_with fail
    go_ret
    exact ⟨ret_bool HE.out.symm, B2⟩
set_option maxHeartbeats 1600000 in
set_option maxRecDepth 100000 in
theorem equalWish {A E A' E' : Option Addr} {n c m d n' c' m' d' : Nat} {x y : Wi} (w : World) (h : Sl RI 1 w w.heap.size A n c x.list) (g : Sl RP 2 w w.heap.size E m d x.pairs) (h' : Sl RI 1 w w.heap.size A' n' c' y.list) (g' : Sl RP 2 w w.heap.size E' m' d' y.pairs) :
    Calls Try.prog 64 #[.agg #[.int .i64 x.kind, .int .i64 x.field, .int .i64 x.value, .slice A n c, .slice E m d], .agg #[.int .i64 y.kind, .int .i64 y.field, .int .i64 y.value, .slice A' n' c', .slice E' m' d']] w fun e w' => e = .returned (.bool (decide (x = y))) ∧ Below w.heap.size w w' := by
  have B2 := ((Below.refl w.heap.size w).alloc (Nat.le_refl _) (.cells #[.int .i64 x.kind, .int .i64 x.field, .int .i64 x.value, .slice A n c, .slice E m d] 39)).alloc (by simp) (.cells #[.int .i64 y.kind, .int .i64 y.field, .int .i64 y.value, .slice A' n' c', .slice E' m' d'] 39)
  have H := Lib.hid (h.on RI.keeps B2)
  have H' := Lib.hid (h'.on RI.keeps B2)
  have G := Lib.hid (g.on RP.keeps B2)
  have G' := Lib.hid (g'.on RP.keeps B2)
  clear h h' g g'
  by_cases h0 : x.kind = y.kind
  · have q0 : (x.kind == y.kind) = true := by simpa using h0
    by_cases h1 : x.field = y.field
    · have q1 : (x.field == y.field) = true := by simpa using h1
      by_cases h2 : x.value = y.value
      · have q2 : (x.value == y.value) = true := by simpa using h2
        cases hl : decide (x.list = y.list) with
        | false =>
          have HE : Hid (decide (x = y) = false) := by show _ = _; rw [wi_eq, hl]; simp
          clear h0 h1 h2
          go_enter Try.func64, Try.ntmps64
          go_wp2_with (go_at_call 80; refine (equalInts _ H.out H'.out).mono ?_; rintro e w2 ⟨rfl, b2⟩; rw [hl])
          go_ret
          exact ⟨ret_bool HE.out.symm, B2.trans (b2.mono B2.size)⟩
        | true =>
          have HE : Hid (decide (x = y) = decide (x.pairs = y.pairs)) := by show _ = _; rw [wi_eq, hl]; simp [h0, h1, h2]
          clear h0 h1 h2
          go_enter Try.func64, Try.ntmps64
          go_wp2_with fail
          refine (equalInts _ H.out H'.out).mono ?_
          rintro e w2 ⟨rfl, b2⟩
          rw [hl]
          have K := G.out.on RP.keeps b2
          have K' := G'.out.on RP.keeps b2
          have hC := cell_of b2
          have z1 : w.heap.size < w2.heap.size := by have := b2.size; simp at this; omega
          have z2 : w.heap.size + 1 < w2.heap.size := by have := b2.size; simp at this; omega
          go_wp2_with fail
          refine (equalPairs _ K K').mono ?_
          rintro e w3 ⟨rfl, b3⟩
          have B3 := (B2.trans (b2.mono B2.size)).trans (b3.mono (B2.trans (b2.mono B2.size)).size)
          clear K K' hC b2 b3 B2
          go_wp2_with fail
          go_ret
          exact ⟨ret_bool HE.out.symm, B3⟩
      · have q2 : (x.value == y.value) = false := by simpa using h2
        have HE : Hid (decide (x = y) = false) := by show _ = _; rw [wi_eq]; simp [h2]
        clear h0 h1 h2
        go_enter Try.func64, Try.ntmps64
        go_wp2_with fail
        go_ret
        exact ⟨ret_bool HE.out.symm, B2⟩
    · have q1 : (x.field == y.field) = false := by simpa using h1
      have HE : Hid (decide (x = y) = false) := by show _ = _; rw [wi_eq]; simp [h1]
      clear h0 h1
      go_enter Try.func64, Try.ntmps64
      go_wp2_with fail
      go_ret
      exact ⟨ret_bool HE.out.symm, B2⟩
  · have q0 : (x.kind == y.kind) = false := by simpa using h0
    have HE : Hid (decide (x = y) = false) := by show _ = _; rw [wi_eq]; simp [h0]
    clear h0
    go_enter Try.func64, Try.ntmps64
    go_wp2_with fail
    go_ret
    exact ⟨ret_bool HE.out.symm, B2⟩
set_option maxHeartbeats 1600000 in
set_option maxRecDepth 100000 in
theorem equalNode {A E A' E' : Option Addr} {n c m d n' c' m' d' : Nat} {x y : Nd} (w : World) (h : Sl RI 1 w w.heap.size A n c x.wish.list) (g : Sl RP 2 w w.heap.size E m d x.wish.pairs) (h' : Sl RI 1 w w.heap.size A' n' c' y.wish.list) (g' : Sl RP 2 w w.heap.size E' m' d' y.wish.pairs) :
    Calls Try.prog 63 #[.agg #[.int .i64 x.op, .int .i64 x.wish.kind, .int .i64 x.wish.field, .int .i64 x.wish.value, .slice A n c, .slice E m d], .agg #[.int .i64 y.op, .int .i64 y.wish.kind, .int .i64 y.wish.field, .int .i64 y.wish.value, .slice A' n' c', .slice E' m' d']] w fun e w' => e = .returned (.bool (decide (x = y))) ∧ Below w.heap.size w w' := by
  have B2 := ((Below.refl w.heap.size w).alloc (Nat.le_refl _) (.cells #[.int .i64 x.op, .int .i64 x.wish.kind, .int .i64 x.wish.field, .int .i64 x.wish.value, .slice A n c, .slice E m d] 83)).alloc (by simp) (.cells #[.int .i64 y.op, .int .i64 y.wish.kind, .int .i64 y.wish.field, .int .i64 y.wish.value, .slice A' n' c', .slice E' m' d'] 83)
  have H := Lib.hid (h.on RI.keeps B2)
  have H' := Lib.hid (h'.on RI.keeps B2)
  have G := Lib.hid (g.on RP.keeps B2)
  have G' := Lib.hid (g'.on RP.keeps B2)
  clear h h' g g'
  by_cases h0 : x.op = y.op
  · have q0 : (x.op == y.op) = true := by simpa using h0
    have HE : Hid (decide (x = y) = decide (x.wish = y.wish)) := by show _ = _; rw [nd_eq]; simp [h0]
    clear h0
    go_enter Try.func63, Try.ntmps63
    go_wp2_with (go_at_call 64; refine (equalWish _ H.out G.out H'.out G'.out).mono ?_; rintro e w2 ⟨rfl, b2⟩)
    go_ret
    exact ⟨ret_bool HE.out.symm, B2.trans (b2.mono B2.size)⟩
  · have q0 : (x.op == y.op) = false := by simpa using h0
    have HE : Hid (decide (x = y) = false) := by show _ = _; rw [nd_eq]; simp [h0]
    clear h0
    go_enter Try.func63, Try.ntmps63
    go_wp2_with fail
    go_ret
    exact ⟨ret_bool HE.out.symm, B2⟩
set_option maxHeartbeats 1600000 in
set_option maxRecDepth 100000 in
theorem specEqualExpressions {A A' : Option Addr} {n n' c c' : Nat} {xs ys : List Nd} (w : World) (h : Sl RN 6 w w.heap.size A n c xs) (h' : Sl RN 6 w w.heap.size A' n' c' ys) :
    Calls Try.prog 31 #[.slice A n c, .slice A' n' c'] w fun e w' => e = .returned (.bool (decide (xs = ys))) ∧ Below w.heap.size w w' := by
  have mx1 := Nat.le_trans h.le h.max
  have mx2 := Nat.le_trans h'.le h'.max
  unfold maxLen at mx1 mx2
  have HL := Lib.hid h.len
  have HL' := Lib.hid h'.len
  by_cases hne : n = n'
  · have HN := Lib.hid hne
    have ht : ((n : Int) != (n' : Int)) = false := by simp [hne]
    clear hne
    go_enter Try.func31, Try.ntmps31
    go_wp2
    go_loopw [5] (fun vk wr => ∃ k : Nat, k ≤ n ∧ vk = .int .i64 k ∧ Hid (P.Agree xs ys k) ∧ Below w.heap.size w wr) (fun vk _ => n - (intOf vk).toNat)
    case atStart => exact ⟨0, Nat.zero_le _, rfl, rfl, Below.refl _ _⟩
    case round =>
      obtain ⟨k, hk, rfl, hup, hbw⟩ := hrel
      by_cases hlt : k < n
      · have hlt' : k < n' := by have := HN.out; omega
        obtain ⟨b, o, x, A1, n1, c1, E1, m1, d1, rfl, hb, hx, hf, hs, ht1, g0, g1, g2, g3, g4, g5⟩ := nodeAt h hlt
        obtain ⟨b', o', y, A2, n2, c2, E2, m2, d2, rfl, hb', hy, hf', hs', ht1', g0', g1', g2', g3', g4', g5'⟩ := nodeAt h' hlt'
        have hsz := hbw.size
        have i1 : b < wr.heap.size := by omega
        have i2 : b' < wr.heap.size := by omega
        have i3 : b < wr.heap.size + 1 := by omega
        have i4 : b' < wr.heap.size + 1 := by omega
        have e0 := ((cell_of hbw) b (o + k * 6) hb).trans g0
        have e1 := ((cell_of hbw) b (o + k * 6 + 1) hb).trans g1
        have e2 := ((cell_of hbw) b (o + k * 6 + 2) hb).trans g2
        have e3 := ((cell_of hbw) b (o + k * 6 + 3) hb).trans g3
        have e4 := ((cell_of hbw) b (o + k * 6 + 4) hb).trans g4
        have e5 := ((cell_of hbw) b (o + k * 6 + 5) hb).trans g5
        have e0' := ((cell_of hbw) b' (o' + k * 6) hb').trans g0'
        have e1' := ((cell_of hbw) b' (o' + k * 6 + 1) hb').trans g1'
        have e2' := ((cell_of hbw) b' (o' + k * 6 + 2) hb').trans g2'
        have e3' := ((cell_of hbw) b' (o' + k * 6 + 3) hb').trans g3'
        have e4' := ((cell_of hbw) b' (o' + k * 6 + 4) hb').trans g4'
        have e5' := ((cell_of hbw) b' (o' + k * 6 + 5) hb').trans g5'
        have q1 : (k : Int) < (n : Int) := by omega
        have q2 : (k : Int) < (n' : Int) := by omega
        have HX := Lib.hid hx
        have HY := Lib.hid hy
        have HS := Lib.hid (hs.on RI.keeps hbw)
        have HS' := Lib.hid (hs'.on RI.keeps hbw)
        have HT := Lib.hid (ht1.on RP.keeps hbw)
        have HT' := Lib.hid (ht1'.on RP.keeps hbw)
        have HBW := Lib.hid hbw
        have f0 : o + k * 6 + 1 + 1 = o + k * 6 + 2 := rfl
        clear hx hy h h' hbw hs hs' ht1 ht1' g0 g1 g2 g3 g4 g5 g0' g1' g2' g3' g4' g5' f0
        by_cases hop : x.op = y.op
        · have q : (x.op != y.op) = false := by simpa using hop
          cases hv : decide (x.wish = y.wish) with
          | true =>
            have hxy : x = y := by
              have := nd_eq x y
              rw [hv] at this
              simpa [hop] using this
            have HE := Lib.hid (P.agree_step hup.out HX.out (hxy ▸ HY.out))
            clear hxy hop
            go_wp2_with fail
            refine wp_region_qb (by kernel_rfl) (by kernel_rfl) ?_; (repeat (go_big_quiet_step ((go_at_call 70; exact quietBb hv (l5SameWish _ (HS.out.gr RI.keeps _ _) (HT.out.gr RP.keeps _ _) (HS'.out.gr RI.keeps _ _) (HT'.out.gr RP.keeps _ _)))))); refine wpQuiet_nil ?_; intro w8 hb8
            go_wp2
            go_roundw
            case rel => exact ⟨k + 1, by omega, by go_num, HE, HBW.out.trans (hb8.mono hsz)⟩
            case measure => simp [intOf]; omega
          | false =>
            have HE : Hid (decide (xs = ys) = false) := by
              show _ = _
              rw [decide_eq_false_iff_not]
              exact P.agree_no HX.out HY.out (by rintro rfl; simp at hv)
            clear hop
            go_wp2_with fail
            refine wp_region_qb (by kernel_rfl) (by kernel_rfl) ?_; (repeat (go_big_quiet_step ((go_at_call 70; exact quietBb hv (l5SameWish _ (HS.out.gr RI.keeps _ _) (HT.out.gr RP.keeps _ _) (HS'.out.gr RI.keeps _ _) (HT'.out.gr RP.keeps _ _)))))); refine wpQuiet_nil ?_; intro w8 hb8
            go_wp2
            go_ret
            exact ⟨ret_bool HE.out.symm, HBW.out.trans (hb8.mono hsz)⟩
        · have q : (x.op != y.op) = true := by simpa using hop
          have HE : Hid (decide (xs = ys) = false) := by
            show _ = _
            rw [decide_eq_false_iff_not]
            exact P.agree_no HX.out HY.out (by rintro rfl; exact hop rfl)
          clear hop
          go_wp2_with fail
          refine wp_region_qb (by kernel_rfl) (by kernel_rfl) ?_; (repeat (go_big_quiet_step ((fail)))); refine wpQuiet_nil ?_; intro w8 hb8
          go_wp2
          go_ret
          exact ⟨ret_bool HE.out.symm, HBW.out.trans (hb8.mono hsz)⟩
      · have HE : Hid (decide (xs = ys) = true) := by
          show _ = _
          rw [decide_eq_true_iff]
          exact P.agree_all hup.out HL.out (by rw [HL'.out]; exact HN.out.symm) (by omega)
        clear h h'
        go_wp2
        go_ret
        exact ⟨ret_bool HE.out.symm, hbw⟩
  · have ht : ((n : Int) != (n' : Int)) = true := by simp; omega
    have HE : Hid (decide (xs = ys) = false) := by
      show _ = _
      rw [decide_eq_false_iff_not]
      rintro rfl
      exact hne (HL.out.symm.trans HL'.out)
    clear hne h h'
    go_enter Try.func31, Try.ntmps31
    go_wp2
    go_ret
    exact ⟨ret_bool HE.out.symm, Below.refl _ _⟩
set_option maxHeartbeats 1600000 in
set_option maxRecDepth 100000 in
theorem equalFuncN {A A' : Option Addr} {n n' c c' : Nat} {xs ys : List Nd} (w : World) (h : Sl RN 6 w w.heap.size A n c xs) (h' : Sl RN 6 w w.heap.size A' n' c' ys) :
    Calls Try.prog 62 #[.slice A n c, .slice A' n' c', .func (Fn.func 63) #[] #[]] w fun e w' => e = .returned (.bool (decide (xs = ys))) ∧ Below w.heap.size w w' := by
  have mx1 := Nat.le_trans h.le h.max
  have mx2 := Nat.le_trans h'.le h'.max
  unfold maxLen at mx1 mx2
  have HL := Lib.hid h.len
  have HL' := Lib.hid h'.len
  by_cases hne : n = n'
  · have HN := Lib.hid hne
    have ht : ((n : Int) != (n' : Int)) = false := by simp [hne]
    clear hne
    go_enter Try.func62, Try.ntmps62
    go_wp2
    go_loopw [7, 8, 9, 17] (fun va vb vc vk wr => ∃ k : Nat, k ≤ n ∧ vk = .int .i64 k ∧ Hid (P.Agree xs ys k) ∧ Below w.heap.size w wr) (fun va vb vc vk _ => n - (intOf vk).toNat)
    case atStart => exact ⟨0, Nat.zero_le _, rfl, rfl, Below.refl _ _⟩
    case round =>
      obtain ⟨k, hk, rfl, hup, hbw⟩ := hrel
      by_cases hlt : k < n
      · have hlt' : k < n' := by have := HN.out; omega
        obtain ⟨b, o, x, A1, n1, c1, E1, m1, d1, rfl, hb, hx, hf, hs, ht1, g0, g1, g2, g3, g4, g5⟩ := nodeAt h hlt
        obtain ⟨b', o', y, A2, n2, c2, E2, m2, d2, rfl, hb', hy, hf', hs', ht1', g0', g1', g2', g3', g4', g5'⟩ := nodeAt h' hlt'
        have hsz := hbw.size
        have i1 : b < wr.heap.size := by omega
        have i2 : b' < wr.heap.size := by omega
        have i3 : b < wr.heap.size + 1 := by omega
        have i4 : b' < wr.heap.size + 1 := by omega
        have e0 := ((cell_of hbw) b (o + k * 6) hb).trans g0
        have e1 := ((cell_of hbw) b (o + k * 6 + 1) hb).trans g1
        have e2 := ((cell_of hbw) b (o + k * 6 + 2) hb).trans g2
        have e3 := ((cell_of hbw) b (o + k * 6 + 3) hb).trans g3
        have e4 := ((cell_of hbw) b (o + k * 6 + 4) hb).trans g4
        have e5 := ((cell_of hbw) b (o + k * 6 + 5) hb).trans g5
        have e0' := ((cell_of hbw) b' (o' + k * 6) hb').trans g0'
        have e1' := ((cell_of hbw) b' (o' + k * 6 + 1) hb').trans g1'
        have e2' := ((cell_of hbw) b' (o' + k * 6 + 2) hb').trans g2'
        have e3' := ((cell_of hbw) b' (o' + k * 6 + 3) hb').trans g3'
        have e4' := ((cell_of hbw) b' (o' + k * 6 + 4) hb').trans g4'
        have e5' := ((cell_of hbw) b' (o' + k * 6 + 5) hb').trans g5'
        have q1 : (k : Int) < (n : Int) := by omega
        have q2 : (k : Int) < (n' : Int) := by omega
        have HX := Lib.hid hx
        have HY := Lib.hid hy
        have BW : Below wr.heap.size wr ((wr.alloc (.cells #[.int .i64 x.op, .int .i64 x.wish.kind, .int .i64 x.wish.field, .int .i64 x.wish.value, .slice A1 n1 c1, .slice E1 m1 d1] 83)).alloc (.cells #[.int .i64 y.op, .int .i64 y.wish.kind, .int .i64 y.wish.field, .int .i64 y.wish.value, .slice A2 n2 c2, .slice E2 m2 d2] 83)) := ((Below.refl _ _).alloc (Nat.le_refl _) _).alloc (by simp) _
        have HS := Lib.hid ((hs.on RI.keeps hbw).on RI.keeps BW)
        have HS' := Lib.hid ((hs'.on RI.keeps hbw).on RI.keeps BW)
        have HT := Lib.hid ((ht1.on RP.keeps hbw).on RP.keeps BW)
        have HT' := Lib.hid ((ht1'.on RP.keeps hbw).on RP.keeps BW)
        have HBW := Lib.hid (hbw.trans (BW.mono hsz))
        clear hx hy h h' hbw hs hs' ht1 ht1' BW g0 g1 g2 g3 g4 g5 g0' g1' g2' g3' g4' g5'
        cases hd : decide (x = y) with
        | true =>
          have HE := Lib.hid (P.agree_step hup.out HX.out ((decide_eq_true_iff.1 hd) ▸ HY.out))
          go_wp2_with (go_at_call 63; refine (equalNode _ HS.out HT.out HS'.out HT'.out).mono ?_; rintro e w9 ⟨rfl, b9⟩; rw [hd])
          go_roundw
          case rel => exact ⟨k + 1, by omega, by go_num, HE, HBW.out.trans (b9.mono (by simp; omega))⟩
          case measure => simp [intOf]; omega
        | false =>
          have HE : Hid (decide (xs = ys) = false) := by
            show _ = _
            rw [decide_eq_false_iff_not]; exact P.agree_no HX.out HY.out (decide_eq_false_iff_not.1 hd)
          go_wp2_with (go_at_call 63; refine (equalNode _ HS.out HT.out HS'.out HT'.out).mono ?_; rintro e w9 ⟨rfl, b9⟩; rw [hd])
          go_ret
          exact ⟨ret_bool HE.out.symm, HBW.out.trans (b9.mono (by simp; omega))⟩
      · have HE : Hid (decide (xs = ys) = true) := by
          show _ = _
          rw [decide_eq_true_iff]
          exact P.agree_all hup.out HL.out (by rw [HL'.out]; exact HN.out.symm) (by omega)
        clear h h'
        go_wp2
        go_ret
        exact ⟨ret_bool HE.out.symm, hbw⟩
  · have ht : ((n : Int) != (n' : Int)) = true := by simp; omega
    have HE : Hid (decide (xs = ys) = false) := by
      show _ = _
      rw [decide_eq_false_iff_not]
      rintro rfl
      exact hne (HL.out.symm.trans HL'.out)
    clear hne h h'
    go_enter Try.func62, Try.ntmps62
    go_wp2
    go_ret
    exact ⟨ret_bool HE.out.symm, Below.refl _ _⟩
theorem implEqualExpressions {A A' : Option Addr} {n n' c c' : Nat} {xs ys : List Nd} (w : World) (h : Sl RN 6 w w.heap.size A n c xs) (h' : Sl RN 6 w w.heap.size A' n' c' ys) :
    Calls Try.prog 25 #[.slice A n c, .slice A' n' c'] w fun e w' => e = .returned (.bool (decide (xs = ys))) ∧ Below w.heap.size w w' := by
  go_enter Try.func25, Try.ntmps25
  go_wp2_with fail
  refine (equalFuncN _ h h').mono ?_
  rintro e w1 ⟨rfl, b1⟩
  clear h h'
  go_wp2
  go_ret
  exact ⟨rfl, b1⟩
end Go.Proofs.Ytphbochfpidgeaa.Wk

namespace Go.Proofs.Ytphbochfpidgeaa.P
set_option linter.unusedVariables false

theorem nodup_len {l : List Int} : ∀ {m : List Int}, l.Nodup → (∀ x ∈ l, x ∈ m) → l.length ≤ m.length := by
  induction l with
  | nil => intro m _ _; simp
  | cons a t ih =>
    intro m hn hs
    rw [List.nodup_cons] at hn
    have ha := hs a (by simp)
    have := ih (m := m.erase a) hn.2 (fun x hx => (List.mem_erase_of_ne (by rintro rfl; exact hn.1 hx)).2 (hs x (by simp [hx])))
    rw [List.length_erase_of_mem ha] at this
    have hp : 0 < m.length := List.length_pos_of_mem ha
    simp only [List.length_cons]; omega
/-- The state of the search: S is what was seen; the first i of it are done; of number i the first k pairs are done. -/
structure Bfs (l : List (Int × Int)) (a b : Int) (S : List Int) (i k : Nat) : Prop where
  start : a ∈ S
  nodup : S.Nodup
  path : ∀ s ∈ S, s = a ∨ Path l a s
  sub : ∀ s ∈ S, s = a ∨ ∃ p ∈ l, p.2 = s
  done : ∀ (j : Nat) (s : Int), j < i → S[j]? = some s → ∀ x, (s, x) ∈ l → x ≠ b ∧ x ∈ S
  part : ∀ s, S[i]? = some s → ∀ (j : Nat) (x : Int), j < k → l[j]? = some (s, x) → x ≠ b ∧ x ∈ S
theorem Bfs.init (l : List (Int × Int)) (a b : Int) : Bfs l a b [a] 0 0 :=
  ⟨by simp, by simp, by simp, by simp, fun j s hj => by omega, fun s _ j x hj => by omega⟩
theorem Bfs.len {l : List (Int × Int)} {a b : Int} {S : List Int} {i k : Nat} (h : Bfs l a b S i k) : S.length ≤ l.length + 1 := by
  have := nodup_len (m := a :: l.map (·.2)) h.nodup (fun x hx => by
    rcases h.sub x hx with rfl | ⟨p, hp, rfl⟩
    · simp
    · exact List.mem_cons_of_mem _ (List.mem_map.2 ⟨p, hp, rfl⟩))
  simpa using this
theorem Bfs.skip {l : List (Int × Int)} {a b : Int} {S : List Int} {i k : Nat} {p : Int × Int} {s : Int} (h : Bfs l a b S i k) (hp : l[k]? = some p) (hs : S[i]? = some s) (hne : p.1 ≠ s) : Bfs l a b S i (k + 1) := by
  refine ⟨h.start, h.nodup, h.path, h.sub, h.done, fun s' hs' j x hj hx => ?_⟩
  rw [hs] at hs'; injection hs' with hs'; subst hs'
  rcases Nat.lt_or_ge j k with hlt | hge
  · exact h.part s hs j x hlt hx
  · obtain rfl : j = k := by omega
    rw [hp] at hx; injection hx with hx; subst hx; exact absurd rfl hne
theorem Bfs.old {l : List (Int × Int)} {a b : Int} {S : List Int} {i k : Nat} {p : Int × Int} {s : Int} (h : Bfs l a b S i k) (hp : l[k]? = some p) (hs : S[i]? = some s) (hb : p.2 ≠ b) (hm : p.2 ∈ S) : Bfs l a b S i (k + 1) := by
  refine ⟨h.start, h.nodup, h.path, h.sub, h.done, fun s' hs' j x hj hx => ?_⟩
  rcases Nat.lt_or_ge j k with hlt | hge
  · exact h.part s' hs' j x hlt hx
  · obtain rfl : j = k := by omega
    rw [hp] at hx; injection hx with hx; subst hx; exact ⟨hb, hm⟩
theorem Bfs.reach {l : List (Int × Int)} {a b : Int} {S : List Int} {i k : Nat} {p : Int × Int} {s : Int} (h : Bfs l a b S i k) (hp : l[k]? = some p) (hs : S[i]? = some s) (he : p.1 = s) : Path l a p.2 := by
  have hm : (s, p.2) ∈ l := by rw [← he]; exact List.mem_of_getElem? hp
  rcases h.path s (List.mem_of_getElem? hs) with rfl | hq
  · exact .one hm
  · exact .two hq (.one hm)
theorem Bfs.new {l : List (Int × Int)} {a b : Int} {S : List Int} {i k : Nat} {p : Int × Int} {s : Int} (h : Bfs l a b S i k) (hp : l[k]? = some p) (hs : S[i]? = some s) (he : p.1 = s) (hb : p.2 ≠ b) (hm : p.2 ∉ S) : Bfs l a b (S ++ [p.2]) i (k + 1) := by
  have hlt : i < S.length := (List.getElem?_eq_some_iff.1 hs).1
  refine ⟨by simp [h.start], ?_, ?_, ?_, ?_, ?_⟩
  · rw [List.nodup_append]
    exact ⟨h.nodup, by simp, fun x hx y hy => by simp at hy; subst hy; rintro rfl; exact hm hx⟩
  · intro t ht
    rcases List.mem_append.1 ht with ht | ht
    · exact h.path t ht
    · simp at ht; subst ht; exact .inr (h.reach hp hs he)
  · intro t ht
    rcases List.mem_append.1 ht with ht | ht
    · exact h.sub t ht
    · simp at ht; subst ht; exact .inr ⟨p, List.mem_of_getElem? hp, rfl⟩
  · intro j t hj ht x hx
    rw [List.getElem?_append_left (by omega)] at ht
    obtain ⟨h1, h2⟩ := h.done j t hj ht x hx
    exact ⟨h1, by simp [h2]⟩
  · intro t ht j x hj hx
    rw [List.getElem?_append_left hlt] at ht
    rcases Nat.lt_or_ge j k with hlt' | hge
    · obtain ⟨h1, h2⟩ := h.part t ht j x hlt' hx
      exact ⟨h1, by simp [h2]⟩
    · obtain rfl : j = k := by omega
      rw [hp] at hx; injection hx with hx; subst hx; exact ⟨hb, by simp⟩
theorem Bfs.next {l : List (Int × Int)} {a b : Int} {S : List Int} {i k : Nat} (h : Bfs l a b S i k) (hk : l.length ≤ k) : Bfs l a b S (i + 1) 0 := by
  refine ⟨h.start, h.nodup, h.path, h.sub, fun j s hj hs x hx => ?_, fun s _ j x hj => by omega⟩
  rcases Nat.lt_or_ge j i with hlt | hge
  · exact h.done j s hlt hs x hx
  · obtain rfl : j = i := by omega
    obtain ⟨q, hq⟩ := List.getElem?_of_mem hx
    exact h.part s hs q x (by have := (List.getElem?_eq_some_iff.1 hq).1; omega) hq
theorem Bfs.yes {l : List (Int × Int)} {a b : Int} {S : List Int} {i k : Nat} {p : Int × Int} {s : Int} (h : Bfs l a b S i k) (hp : l[k]? = some p) (hs : S[i]? = some s) (he : p.1 = s) (hb : p.2 = b) : abv l a b = true :=
  abv_iff.2 (hb ▸ h.reach hp hs he)
theorem Bfs.no {l : List (Int × Int)} {a b : Int} {S : List Int} {i k : Nat} (h : Bfs l a b S i k) (hi : S.length ≤ i) : abv l a b = false := by
  have all : ∀ s ∈ S, ∀ x, (s, x) ∈ l → x ≠ b ∧ x ∈ S := by
    intro s hs x hx
    obtain ⟨j, hj⟩ := List.getElem?_of_mem hs
    exact h.done j s (by have := (List.getElem?_eq_some_iff.1 hj).1; omega) hj x hx
  have key : ∀ x y, Path l x y → x ∈ S → y ≠ b ∧ y ∈ S := by
    intro x y hp
    induction hp with
    | one hm => intro hx; exact all _ hx _ hm
    | two _ _ h1 h2 => intro hx; exact h2 (h1 hx).2
  cases e : abv l a b with
  | false => rfl
  | true => exact absurd rfl (key a b (abv_iff.1 e) h.start).1
theorem inP_no {l : List (Int × Int)} {k : Nat} {p : Int × Int} (hp : l[k]? = some p) (h : inR p.1 0 9 = false ∨ inR p.2 0 9 = false) : inP l = false := by
  unfold inP
  rw [List.all_eq_false]
  refine ⟨p, List.mem_of_getElem? hp, ?_⟩
  rcases h with h | h <;> simp [h]
theorem inP_all {l : List (Int × Int)} (h : ∀ i p, i < l.length → l[i]? = some p → (inR p.1 0 9 && inR p.2 0 9) = true) : inP l = true := by
  unfold inP
  rw [List.all_eq_true]
  intro p hp
  obtain ⟨i, hi⟩ := List.getElem?_of_mem hp
  exact h i p (List.getElem?_eq_some_iff.1 hi).1 hi
theorem okP_bad1 {l : List (Int × Int)} (h : inP l = false) : okP l = false := by unfold okP; rw [h]; rfl
theorem okP_bad2 {l : List (Int × Int)} (h : 8 < l.length) : okP l = false := by
  unfold okP
  have : decide (l.length ≤ 8) = false := by simp; omega
  rw [this]; simp
theorem okP_bad3 {l : List (Int × Int)} {v : Nat} (hv : v < 10) (h : abv l v v = true) : okP l = false := by
  unfold okP
  have : ((List.range 10).all fun v => !abv l v v) = false := by
    rw [List.all_eq_false]
    exact ⟨v, by simpa using hv, by simp [h]⟩
  rw [this]; simp
theorem okP_mk {l : List (Int × Int)} (h1 : inP l = true) (h2 : l.length ≤ 8) (h3 : ∀ v : Nat, v < 10 → abv l v v = false) : okP l = true := by
  unfold okP
  simp only [Bool.and_eq_true, decide_eq_true_eq]
  refine ⟨⟨h1, h2⟩, List.all_eq_true.2 fun v hv => ?_⟩
  rw [h3 v (by simpa using hv)]; rfl
end Go.Proofs.Ytphbochfpidgeaa.P

namespace Go.Proofs.Ytphbochfpidgeaa.Wk
open Go.RowKit Go.Proofs.Ytphbochfpidgeaa.M
set_option linter.unusedVariables false
attribute [local go_sem] cell_grow

theorem info_int2 : (Try.prog.info? 3).map (fun i => (i.zero, i.size, i.bytes)) = some (some (.int .i64 0), 1, 8) := by kernel_rfl
theorem l2Has {A : Option Addr} {n c : Nat} {xs : List Int} {x : Int} (w : World) (h : Sl RI 1 w w.heap.size A n c xs) : Calls Try.prog 77 #[.slice A n c, .int .i64 x] w fun e w' => e = .returned (.bool (decide (x ∈ xs))) ∧ w = w' := by
  have m1 := Nat.le_trans h.le h.max
  unfold maxLen at m1
  have HL := Lib.hid h.len
  go_enter Try.func77, Try.ntmps77
  go_wp2
  go_loop [5] (fun vk => ∃ k : Nat, k ≤ n ∧ vk = .int .i64 k ∧ Hid (∀ i y, i < k → xs[i]? = some y → y ≠ x)) (fun vk => n - (intOf vk).toNat)
  case atStart => exact ⟨0, Nat.zero_le _, rfl, fun i y hi => absurd hi (by omega)⟩
  case round =>
    obtain ⟨k, hk, rfl, hup⟩ := hrel
    by_cases hlt : k < n
    · obtain ⟨b, o, y, rfl, hb, hy, hf, hc⟩ := h.int hlt
      have HY := Lib.hid hy
      clear hy h
      by_cases hxy : y = x
      · have q : (y == x) = true := by simpa using hxy
        have HE : Hid (decide (x ∈ xs) = true) := by show _ = _; rw [decide_eq_true_iff, ← hxy]; exact List.mem_of_getElem? HY.out
        clear hxy
        go_wp2
        go_ret
        exact ⟨ret_bool HE.out.symm, rfl⟩
      · have q : (y == x) = false := by simpa using hxy
        have HU := Lib.hid (P.before_step hup.out HY.out hxy)
        clear hxy
        go_wp2
        go_round
        case rel => exact ⟨k + 1, by omega, by go_num, HU⟩
        case measure => simp [intOf]; omega
    · have HE : Hid (decide (x ∈ xs) = false) := by
        show _ = _
        rw [decide_eq_false_iff_not]
        intro hm
        obtain ⟨i, hi⟩ := List.getElem?_of_mem hm
        exact hup.out i x (by have := (List.getElem?_eq_some_iff.1 hi).1; have := HL.out; omega) hi rfl
      clear h
      go_wp2
      go_ret
      exact ⟨ret_bool HE.out.symm, rfl⟩
theorem l3Valid {A : Option Addr} {n c : Nat} {l : List (Int × Int)} (w : World) (h : Sl RP 2 w w.heap.size A n c l) : Calls Try.prog 52 #[.slice A n c] w fun e w' => e = .returned (.bool (P.inP l && decide (l.length ≤ 8))) ∧ w = w' := by
  have m1 := Nat.le_trans h.le h.max
  unfold maxLen at m1
  have HL := Lib.hid h.len
  go_enter Try.func52, Try.ntmps52
  go_wp2
  go_loop [3] (fun vk => ∃ k : Nat, k ≤ n ∧ vk = .int .i64 k ∧ Hid (∀ i p, i < k → l[i]? = some p → (P.inR p.1 0 9 && P.inR p.2 0 9) = true)) (fun vk => n - (intOf vk).toNat)
  case atStart => exact ⟨0, Nat.zero_le _, rfl, fun i y hi => absurd hi (by omega)⟩
  case round =>
    obtain ⟨k, hk, rfl, hup⟩ := hrel
    by_cases hlt : k < n
    · obtain ⟨b, o, p, rfl, hb, hx, hf, hg, hc0, hc1⟩ := pairAt h hlt
      have HX := Lib.hid hx
      clear hx h
      cases h1 : P.inR p.1 0 9 with
      | false =>
        have HE : Hid ((P.inP l && decide (l.length ≤ 8)) = false) := by show _ = _; rw [P.inP_no HX.out (.inl h1)]; rfl
        go_wp2_with (go_at_call 51; refine (l1In _ _ _ _).mono ?_; rintro e w' ⟨rfl, rfl⟩)
        go_ret
        exact ⟨ret_bool HE.out.symm, rfl⟩
      | true =>
        cases h2 : P.inR p.2 0 9 with
        | false =>
          have HE : Hid ((P.inP l && decide (l.length ≤ 8)) = false) := by show _ = _; rw [P.inP_no HX.out (.inr h2)]; rfl
          go_wp2_with (go_at_call 51; refine (l1In _ _ _ _).mono ?_; rintro e w' ⟨rfl, rfl⟩)
          go_ret
          exact ⟨ret_bool HE.out.symm, rfl⟩
        | true =>
          have HU := Lib.hid (P.before_step (Q := fun p : Int × Int => (P.inR p.1 0 9 && P.inR p.2 0 9) = true) hup.out HX.out (by rw [h1, h2]; rfl))
          go_wp2_with (go_at_call 51; refine (l1In _ _ _ _).mono ?_; rintro e w' ⟨rfl, rfl⟩)
          go_round
          case rel => exact ⟨k + 1, by omega, by go_num, HU⟩
          case measure => simp [intOf]; omega
    · have HE : Hid ((P.inP l && decide (l.length ≤ 8)) = decide ((n : Int) ≤ 8)) := by
        show _ = _
        rw [P.inP_all (fun i p hi hp => hup.out i p (by have := HL.out; omega) hp), Bool.true_and, HL.out]
        simp; omega
      clear h
      go_wp2
      go_ret
      exact ⟨ret_bool HE.out.symm, rfl⟩
set_option maxHeartbeats 3200000 in
set_option maxRecDepth 100000 in
theorem l3Reach {A : Option Addr} {n c : Nat} {l : List (Int × Int)} {a b : Int} (w : World) (h : Sl RP 2 w w.heap.size A n c l) (hn : n ≤ 8) (ha : Fit a) : Calls Try.prog 53 #[.slice A n c, .int .i64 a, .int .i64 b] w fun e w' => e = .returned (.bool (P.abv l a b)) ∧ Below w.heap.size w w' := by
  obtain ⟨i0, hi, hz0, hz1, hz2⟩ := info_parts info_int2
  have HL := Lib.hid h.len
  have HF : Hid (∀ S i k, P.Bfs l a b S i k → ∀ x ∈ S, Fit x) := fun S i k hB x hx => by
    rcases hB.sub x hx with rfl | ⟨p, hp, rfl⟩
    · exact ha
    · exact (fitPairs h p hp).2
  have HN : Hid (∀ S i k, P.Bfs l a b S i k → S.length ≤ n + 1) := fun S i k hB => by have := hB.len; have := HL.out; omega
  clear ha
  go_enter Try.func53, Try.ntmps53
  go_wp2
  go_loopw [7, 8, 9] (fun vs vi vk wr => ∃ (S : List Int) (i : Nat), i ≤ S.length ∧ vi = .int .i64 i ∧ wr.ownsRow w.heap.size 3 1 vs S.length (S.map (Value.int .i64)) ∧ Hid (P.Bfs l a b S i 0) ∧ Below w.heap.size w wr) (fun _ vi _ _ => n + 1 - (intOf vi).toNat)
  case atStart =>
    refine ⟨[a], 0, by simp, rfl, ?_, P.Bfs.init _ _ _, (Below.refl _ _).alloc (Nat.le_refl _) _⟩
    have := World.ownsRow_lit (base := w.heap.size) (e := 3) (size := 1) w #[.int .i64 a] 1 (Nat.le_refl _) (by unfold maxLen; omega) rfl
    simpa using this
  case round =>
    obtain ⟨S, i, hi', rfl, hown, hB, hbw⟩ := hrel
    obtain ⟨wo, rfl⟩ : ∃ wo : World, wo = wr := ⟨_, rfl⟩
    obtain ⟨A', m', c', hv, hS⟩ := own_ints hown (HF.out S i 0 hB.out)
    obtain rfl := hS.len
    subst hv
    have hSl := HN.out S i 0 hB.out
    by_cases hlt : i < S.length
    · clear hS
      go_wp2
      go_loopw [7, 9] (fun vs vk wr => ∃ (S : List Int) (k : Nat), k ≤ n ∧ i < S.length ∧ vk = .int .i64 k ∧ wr.ownsRow w.heap.size 3 1 vs S.length (S.map (Value.int .i64)) ∧ Hid (P.Bfs l a b S i k) ∧ Below w.heap.size w wr) (fun _ vk _ => n - (intOf vk).toNat)
      case atStart => exact ⟨S, 0, Nat.zero_le _, hlt, rfl, hown, hB, hbw⟩
      case round =>
        clear hown hbw hB hi'
        obtain ⟨T, k, hk, hiT, rfl, hown, hB, hbw⟩ := hrel
        obtain ⟨A2, m2, c2, hv, hS⟩ := own_ints hown (HF.out T i k hB.out)
        obtain rfl := hS.len
        subst hv
        have hTl := HN.out T i k hB.out
        have hsz := hbw.size
        by_cases hlk : k < n
        · obtain ⟨bp, op, p, rfl, hb, hx, hf, hg, g0, g1⟩ := pairAt h hlk
          obtain ⟨bs, os, s, rfl, hbs, hs, hfs, hcs⟩ := hS.int hiT
          have e0 := ((cell_of hbw) bp (op + k * 2) hb).trans g0
          have e1 := ((cell_of hbw) bp (op + k * 2 + 1) hb).trans g1
          have hb2 : bp < wr.heap.size := by omega
          have q1 : (k : Int) < (n : Int) := by omega
          have q2 : (i : Int) < (T.length : Int) := by omega
          have q3 : (T.length : Int) ≤ (c2 : Int) := by have := hS.le; omega
          have HX := Lib.hid hx
          have HSS := Lib.hid hs
          have HS := Lib.hid hS
          have HO := Lib.hid hown
          clear hx hs hS hown g0 g1 h
          by_cases h1 : p.1 = s
          · have t1 : (p.1 != s) = false := by simpa using h1
            have H1 := Lib.hid h1
            clear h1
            by_cases h2 : p.2 = b
            · have t2 : (p.2 == b) = true := by simpa using h2
              have HE := Lib.hid (hB.out.yes HX.out HSS.out H1.out h2)
              clear h2
              go_wp2_with fail
              refine wp_region_qb (by kernel_rfl) (by kernel_rfl) ?_; (repeat (go_big_quiet_step ((fail)))); refine wpQuiet_nil ?_; intro w8 hb8
              have k0 := ((cell_of hb8) bp (op + k * 2) hb2).trans e0
              have k1 := ((cell_of hb8) bp (op + k * 2 + 1) hb2).trans e1
              clear e0 e1
              go_wp2
              go_ret
              exact ⟨ret_bool HE.out.symm, hbw.trans (hb8.mono hsz)⟩
            · have t2 : (p.2 == b) = false := by simpa using h2
              have H2 := Lib.hid h2
              clear h2
              by_cases h3 : p.2 ∈ T
              · have t3 : decide (p.2 ∈ T) = true := by simpa using h3
                have HE := Lib.hid (hB.out.old HX.out HSS.out H2.out h3)
                clear h3
                go_wp2_with fail
                refine wp_region_qb (by kernel_rfl) (by kernel_rfl) ?_; (repeat (go_big_quiet_step ((fail)))); refine wpQuiet_nil ?_; intro w8 hb8
                have k0 := ((cell_of hb8) bp (op + k * 2) hb2).trans e0
                have k1 := ((cell_of hb8) bp (op + k * 2 + 1) hb2).trans e1
                have HS8 := Lib.hid (HS.out.on RI.keeps hb8)
                clear e0 e1
                go_wp2_with (go_at_call 77; refine (l2Has _ HS8.out).mono ?_; rintro e w' ⟨rfl, rfl⟩; rw [t3])
                go_roundw
                case rel => exact ⟨T, k + 1, by omega, hiT, by go_num, own_below HO.out hb8, HE, hbw.trans (hb8.mono hsz)⟩
                case measure => simp [intOf]; omega
              · have t3 : decide (p.2 ∈ T) = false := by simpa using h3
                have HE := Lib.hid (hB.out.new HX.out HSS.out H1.out H2.out h3)
                clear h3
                go_wp2_with fail
                refine wp_region_qb (by kernel_rfl) (by kernel_rfl) ?_; (repeat (go_big_quiet_step ((fail)))); refine wpQuiet_nil ?_; intro w8 hb8
                have k0 := ((cell_of hb8) bp (op + k * 2) hb2).trans e0
                have k1 := ((cell_of hb8) bp (op + k * 2 + 1) hb2).trans e1
                have HS8 := Lib.hid (HS.out.on RI.keeps hb8)
                have hown8 := own_below HO.out hb8
                have hbw8 := hbw.trans (hb8.mono hsz)
                have hsz8 := hbw8.size
                clear e0 e1 HO HS
                go_wp2_with (first | (go_at_call 77; refine (l2Has _ HS8.out).mono ?_; rintro e w' ⟨rfl, rfl⟩; rw [t3]) | (at_builtin; refine wpList_append_own _ rfl _ _ 24 rfl w.heap.size 3 i0 (.int .i64 0) 1 8 Try.underlying24 hi hz0 hz1 hz2 rfl (by decide) _ _ _ rfl (hown8.alloc _) ⟨w8.heap.size, 0, none⟩ 1 1 [_] rfl rfl (one_new _ _ _) (by simp [Value.oneCell']) (by unfold maxLen; omega) (by omega) (by simp; omega) ?_))
                intro v' w9 hown9 hgrow _
                have hbw9 := Lib.hid (app_below hbw8 hown8 hgrow)
                have HO9 : Hid (w9.ownsRow w.heap.size 3 1 v' (T ++ [p.2]).length ((T ++ [p.2]).map (Value.int .i64))) := by
                  refine Lib.hid ?_
                  simpa using hown9
                clear hown9 hgrow hown8 hbw8
                go_wp2
                go_roundw
                case rel => exact ⟨T ++ [p.2], k + 1, by omega, by simp; omega, by go_num, HO9.out, HE, hbw9.out⟩
                case measure => simp [intOf]; omega
          · have t1 : (p.1 != s) = true := by simpa using h1
            have HE := Lib.hid (hB.out.skip HX.out HSS.out h1)
            clear h1
            go_wp2_with fail
            refine wp_region_qb (by kernel_rfl) (by kernel_rfl) ?_; (repeat (go_big_quiet_step ((fail)))); refine wpQuiet_nil ?_; intro w8 hb8
            go_wp2
            go_roundw
            case rel => exact ⟨T, k + 1, by omega, hiT, by go_num, own_below HO.out hb8, HE, hbw.trans (hb8.mono hsz)⟩
            case measure => simp [intOf]; omega
        · have HE := Lib.hid (hB.out.next (by have := HL.out; omega))
          have HO := Lib.hid hown
          clear hS hown
          go_wp2
          refine ⟨⟨T, i + 1, by omega, by go_num, HO.out, HE, hbw⟩, by simp [intOf]; omega⟩
    · have HE := Lib.hid (hB.out.no (by omega))
      clear hS hown h
      go_wp2
      go_ret
      exact ⟨ret_bool HE.out.symm, hbw⟩
theorem abv_no {l : List (Int × Int)} {a b : Int} (h : P.inP l = true) (hab : P.inR a 0 9 = false ∨ P.inR b 0 9 = false) : P.abv l a b = false := by
  cases e : P.abv l a b with
  | false => rfl
  | true =>
    obtain ⟨h1, h2⟩ := P.Path.bd h (P.abv_iff.1 e)
    rcases hab with h | h
    · rw [P.inR_mk h1] at h; cases h
    · rw [P.inR_mk h2] at h; cases h
set_option maxHeartbeats 800000 in
theorem specArePairs {A : Option Addr} {n c : Nat} {l : List (Int × Int)} (w : World) (h : Sl RP 2 w w.heap.size A n c l) : Calls Try.prog 14 #[.slice A n c] w fun e w' => e = .returned (.bool (P.okP l)) ∧ Below w.heap.size w w' := by
  have HL := Lib.hid h.len
  have m1 := Nat.le_trans h.le h.max
  cases hv : (P.inP l && decide (l.length ≤ 8)) with
  | false =>
    have HE : Hid (P.okP l = false) := by
      rw [Bool.and_eq_false_iff] at hv
      rcases hv with hv | hv
      · exact P.okP_bad1 hv
      · exact P.okP_bad2 (by simpa using hv)
    go_enter Try.func14, Try.ntmps14
    go_wp2_with (go_at_call 52; refine (l3Valid _ h).mono ?_; rintro e w' ⟨rfl, rfl⟩)
    go_ret
    exact ⟨ret_bool HE.out.symm, Below.refl _ _⟩
  | true =>
    have hv2 := hv
    rw [Bool.and_eq_true, decide_eq_true_eq] at hv2
    have HIN := Lib.hid hv2.1
    have hn8 : n ≤ 8 := by have := hv2.2; have := HL.out; omega
    have H := Lib.hid h
    have HL8 := Lib.hid hv2.2
    clear hv2
    go_enter Try.func14, Try.ntmps14
    go_wp2_with (go_at_call 52; refine (l3Valid _ h).mono ?_; rintro e w' ⟨rfl, rfl⟩)
    clear h hv
    go_loopw [3] (fun vk wr => ∃ v : Nat, v ≤ 10 ∧ vk = .int .i64 v ∧ Hid (∀ i : Nat, i < v → P.abv l i i = false) ∧ Below w.heap.size w wr) (fun vk _ => 10 - (intOf vk).toNat)
    case atStart => exact ⟨0, by omega, rfl, fun i hi => absurd hi (by omega), Below.refl _ _⟩
    case round =>
      obtain ⟨v, hv, rfl, hno, hbw⟩ := hrel
      by_cases hv10 : v < 10
      · have HS := Lib.hid (H.out.on RP.keeps hbw)
        have hfit : Fit (v : Int) := by unfold Fit; omega
        cases hav : P.abv l v v with
        | true =>
          have HE : Hid (P.okP l = false) := P.okP_bad3 hv10 hav
          go_wp2_with (go_at_call 53; refine (l3Reach _ HS.out hn8 hfit).mono ?_; rintro e w2 ⟨rfl, hb2⟩)
          go_ret
          exact ⟨ret_bool HE.out.symm, hbw.trans (hb2.mono hbw.size)⟩
        | false =>
          have HE : Hid (∀ i : Nat, i < v + 1 → P.abv l i i = false) := fun i hi => by
            rcases Nat.lt_or_ge i v with h | h
            · exact hno.out i h
            · obtain rfl : i = v := by omega
              exact hav
          go_wp2_with (go_at_call 53; refine (l3Reach _ HS.out hn8 hfit).mono ?_; rintro e w2 ⟨rfl, hb2⟩)
          go_roundw
          case rel => exact ⟨v + 1, by omega, by go_num, HE, hbw.trans (hb2.mono hbw.size)⟩
          case measure => simp [intOf]; omega
      · have HE : Hid (P.okP l = true) := P.okP_mk HIN.out HL8.out (fun i hi => hno.out i (by omega))
        go_wp2
        go_ret
        exact ⟨ret_bool HE.out.symm, hbw⟩
end Go.Proofs.Ytphbochfpidgeaa.Wk

namespace Go.Proofs.Ytphbochfpidgeaa.P
set_option linter.unusedVariables false

open Classical in
/-- Is a above b by way of values less than k? -/
noncomputable def pl (l : List (Int × Int)) (k : Nat) (a b : Nat) : Bool := decide (PathLt l (k : Int) (a : Int) (b : Int))
theorem pl_iff {l : List (Int × Int)} {k a b : Nat} : pl l k a b = true ↔ PathLt l k a b := by simp [pl]
theorem PathLt.mono {l : List (Int × Int)} {k k' a b : Int} (h : PathLt l k a b) (hk : k ≤ k') : PathLt l k' a b := by
  induction h with
  | one h => exact .one h
  | two _ hb _ h1 h2 => exact .two h1 (by omega) h2
theorem pl_step {l : List (Int × Int)} {k a b : Nat} : pl l (k + 1) a b = (pl l k a b || (pl l k a k && pl l k k b)) := by
  rw [Bool.eq_iff_iff]
  simp only [Bool.or_eq_true, Bool.and_eq_true, pl_iff]
  constructor
  · intro h
    have := PathLt.step (k := (k : Int)) (by simpa using h)
    exact this
  · rintro (h | ⟨h1, h2⟩)
    · exact h.mono (by omega)
    · exact .two (h1.mono (by omega)) (by omega) (h2.mono (by omega))
theorem pl_to {l : List (Int × Int)} {k a : Nat} : pl l (k + 1) a k = pl l k a k := by
  rw [pl_step]; cases pl l k a k <;> simp
theorem pl_from {l : List (Int × Int)} {k b : Nat} : pl l (k + 1) k b = pl l k k b := by
  rw [pl_step]; cases pl l k k b <;> simp
theorem pl_zero {l : List (Int × Int)} (h : inP l = true) {a b : Nat} : pl l 0 a b = decide (((a : Int), (b : Int)) ∈ l) := by
  rw [Bool.eq_iff_iff, pl_iff, decide_eq_true_iff]
  constructor
  · intro hp
    cases hp with
    | one hm => exact hm
    | @two _ b' _ h1 hb h2 =>
      have := (Path.bd h h1.path).2
      simp at hb; omega
  · exact fun hm => .one hm
theorem pl_ten {l : List (Int × Int)} (h : inP l = true) {a b : Nat} : pl l 10 a b = abv l a b := by
  rw [Bool.eq_iff_iff, pl_iff, abv_iff]
  exact ⟨fun hp => hp.path, fun hp => Path.lt h hp⟩
/-- The table in the midst of a round. -/
noncomputable def fw (l : List (Int × Int)) (k i j x y : Nat) : Bool := if x < i ∨ (x = i ∧ y < j) then pl l (k + 1) x y else pl l k x y
/-- The table is as it should be. -/
def FW (l : List (Int × Int)) (k i j : Nat) (M : Nat → Nat → Bool) : Prop := ∀ x y, x < 10 → y < 10 → M x y = fw l k i j x y
def upd (M : Nat → Nat → Bool) (i j : Nat) (v : Bool) : Nat → Nat → Bool := fun x y => if x = i ∧ y = j then v else M x y
theorem FW.at_to {l : List (Int × Int)} {k i j : Nat} {M : Nat → Nat → Bool} (h : FW l k i j M) (hi : i < 10) (hk : k < 10) : M i k = pl l k i k := by
  rw [h i k hi hk]; unfold fw; split
  · exact pl_to
  · rfl
theorem FW.at_from {l : List (Int × Int)} {k i j : Nat} {M : Nat → Nat → Bool} (h : FW l k i j M) (hj : j < 10) (hk : k < 10) : M k j = pl l k k j := by
  rw [h k j hk hj]; unfold fw; split
  · exact pl_from
  · rfl
theorem FW.at_self {l : List (Int × Int)} {k i j : Nat} {M : Nat → Nat → Bool} (h : FW l k i j M) (hi : i < 10) (hj : j < 10) : M i j = pl l k i j := by
  rw [h i j hi hj]; unfold fw; rw [if_neg (by omega)]
theorem FW.step {l : List (Int × Int)} {k i j : Nat} {M : Nat → Nat → Bool} (h : FW l k i j M) (hi : i < 10) (hj : j < 10) (hk : k < 10) {v : Bool} (hv : v = (M i j || (M i k && M k j))) : FW l k i (j + 1) (upd M i j v) := by
  intro x y hx hy
  unfold upd
  by_cases e : x = i ∧ y = j
  · rw [if_pos e, hv, h.at_to hi hk, h.at_from hj hk, h.at_self hi hj]
    obtain ⟨rfl, rfl⟩ := e
    unfold fw
    rw [if_pos (by omega), pl_step]
  · rw [if_neg e, h x y hx hy]
    unfold fw
    by_cases c : x < i ∨ (x = i ∧ y < j)
    · rw [if_pos c, if_pos (by omega)]
    · rw [if_neg c, if_neg (by omega)]
theorem FW.row {l : List (Int × Int)} {k i : Nat} {M : Nat → Nat → Bool} (h : FW l k i 10 M) : FW l k (i + 1) 0 M := by
  intro x y hx hy
  rw [h x y hx hy]
  unfold fw
  by_cases c : x < i ∨ (x = i ∧ y < 10)
  · rw [if_pos c, if_pos (by omega)]
  · rw [if_neg c, if_neg (by omega)]
theorem FW.round {l : List (Int × Int)} {k j : Nat} {M : Nat → Nat → Bool} (h : FW l k 10 j M) : FW l (k + 1) 0 0 M := by
  intro x y hx hy
  rw [h x y hx hy]
  unfold fw
  rw [if_pos (by omega), if_neg (by omega)]
theorem FW.first {l : List (Int × Int)} (hin : inP l = true) {M : Nat → Nat → Bool} (h : ∀ x y, x < 10 → y < 10 → M x y = decide (((x : Int), (y : Int)) ∈ l)) : FW l 0 0 0 M := by
  intro x y hx hy
  rw [h x y hx hy, ← pl_zero hin]
  unfold fw
  rw [if_neg (by omega)]
theorem FW.last {l : List (Int × Int)} (hin : inP l = true) {M : Nat → Nat → Bool} (h : FW l 10 0 0 M) : ∀ x y, x < 10 → y < 10 → M x y = abv l x y := by
  intro x y hx hy
  rw [h x y hx hy, ← pl_ten hin]
  unfold fw
  rw [if_neg (by omega)]
/-- The first k pairs are entered. -/
def Ent (l : List (Int × Int)) (k : Nat) (M : Nat → Nat → Bool) : Prop := ∀ x y, x < 10 → y < 10 → M x y = decide (((x : Int), (y : Int)) ∈ l.take k)
theorem Ent.init (l : List (Int × Int)) : Ent l 0 (fun _ _ => false) := by intro x y _ _; simp
theorem Ent.step {l : List (Int × Int)} {k i j : Nat} {M : Nat → Nat → Bool} (h : Ent l k M) (hp : l[k]? = some ((i : Int), (j : Int))) : Ent l (k + 1) (upd M i j true) := by
  intro x y hx hy
  obtain ⟨hl, e⟩ := List.getElem?_eq_some_iff.1 hp
  rw [List.take_succ_eq_append_getElem hl, e]
  unfold upd
  by_cases c : x = i ∧ y = j
  · rw [if_pos c]; obtain ⟨rfl, rfl⟩ := c; simp
  · rw [if_neg c, h x y hx hy]
    have : ((x : Int), (y : Int)) ≠ ((i : Int), (j : Int)) := by
      intro e; injection e with e1 e2; exact c ⟨by omega, by omega⟩
    simp [this]
theorem Ent.done {l : List (Int × Int)} {k : Nat} {M : Nat → Nat → Bool} (h : Ent l k M) (hin : inP l = true) (hk : l.length ≤ k) : FW l 0 0 0 M := by
  refine FW.first hin fun x y hx hy => ?_
  rw [h x y hx hy, List.take_of_length_le hk]
end Go.Proofs.Ytphbochfpidgeaa.P

namespace Go.Proofs.Ytphbochfpidgeaa.M
open Go Go.RowKit

/-- The cells of a table. -/
def matC (M : Nat → Nat → Bool) : List Value := (List.range 100).map fun t => .bool (M (t / 10) (t % 10))
theorem matC_len (M : Nat → Nat → Bool) : (matC M).length = 100 := by simp [matC]
theorem matC_at (M : Nat → Nat → Bool) {i j : Nat} (hi : i < 10) (hj : j < 10) : (matC M)[i * 10 + j]? = some (.bool (M i j)) := by
  unfold matC
  rw [List.getElem?_map, List.getElem?_range (by omega)]
  simp only [Option.map_some, Option.some.injEq]
  rw [show (i * 10 + j) / 10 = i by omega, show (i * 10 + j) % 10 = j by omega]
theorem matC_ext {M N : Nat → Nat → Bool} (h : ∀ x y, x < 10 → y < 10 → M x y = N x y) : matC M = matC N := by
  unfold matC
  apply List.map_congr_left
  intro t ht
  have : t < 100 := by simpa using ht
  rw [h _ _ (by omega) (by omega)]
theorem matC_set (M : Nat → Nat → Bool) {i j : Nat} (hi : i < 10) (hj : j < 10) (v : Bool) : (matC M).set (i * 10 + j) (.bool v) = matC (P.upd M i j v) := by
  apply List.ext_getElem?
  intro t
  rw [List.getElem?_set]
  by_cases e : i * 10 + j = t
  · subst e
    rw [if_pos rfl, if_pos (by rw [matC_len]; omega), matC_at _ hi hj]
    simp [P.upd]
  · rw [if_neg e]
    unfold matC
    rw [List.getElem?_map, List.getElem?_map]
    rcases Nat.lt_or_ge t 100 with ht | ht
    · rw [List.getElem?_range ht]
      simp only [Option.map_some, Option.some.injEq, Value.bool.injEq]
      unfold P.upd
      rw [if_neg (by omega)]
    · rw [List.getElem?_eq_none (by simpa using ht)]
      rfl
theorem matC_one (M : Nat → Nat → Bool) : (matC M).toArray.all (·.oneCell') = true := by
  refine Array.all_eq_true_iff_forall_mem.2 fun v hv => ?_
  simp [matC] at hv
  obtain ⟨t, _, rfl⟩ := hv
  rfl
/-- A whole row is stored into a block that is known whole: the block holds it, and nothing else has turned. -/
theorem store_row {P : Program} {ops : Array Oper} {rest : List Oper} {o : Oper} {a : Act} {w : World} {Q : Exit → Act → World → Prop} (hgd : o.guard = none) (ty : TypeId) (x y : Operand) (ho : o.op = .store ty x y)
    (g : Nat) (cs old : List Value) (t : TypeId) (hx : a.eval x = .pointer (some ⟨g, 0, none⟩)) (hy : a.eval y = .agg cs.toArray) (hg : Row w g t old) (hi : (P.info? ty).map (·.size) = some cs.length) (hl : old.length = cs.length) (h1 : cs.toArray.all (·.oneCell') = true)
    (h : ∀ w', Row w' g t cs → w.grownBy w' (some g) → wpList P ops Q rest (a.put o.dst undef) w') : wpList P ops Q (o :: rest) a w := by
  refine wpList_plain hgd fun K hK => ?_
  have hrun := run_storeVar_row (P := P) w g t ty old.toArray cs.toArray hg.is (by simpa using hi) (by simpa using hl) h1
  unfold Oper.wp execOp
  simp only [ho, hx, hy, Instr.storeAt, Instr.sureAddr, Sem.run_bind, Sem.run_pure, Result.andThen_ok, hrun]
  refine hK _ _ (h _ ⟨setRow_heap w g old.toArray cs.toArray t (0, 0) hg.is⟩ ⟨rfl, rfl, rfl, by simp, fun q hq hne => ?_⟩)
  simp only [World.setRow, Array.getElem?_modify]
  rw [if_neg (by rintro rfl; exact hne rfl)]
end Go.Proofs.Ytphbochfpidgeaa.M

namespace Go.Proofs.Ytphbochfpidgeaa.Wk
open Go.RowKit Go.Proofs.Ytphbochfpidgeaa.M
set_option linter.unusedVariables false
attribute [local go_sem] cell_grow

theorem info_tab : (Try.prog.info? 98).map (·.size) = some 100 := by kernel_rfl
theorem zero_tab (w : World) : (zeroValue 98).run Try.prog w = .ok (.agg (matC fun _ _ => false).toArray) w := by kernel_rfl
theorem sz_tab (M : Nat → Nat → Bool) : (Try.prog.info? 98).map (·.size) = some (matC M).length := by rw [matC_len]; exact info_tab
set_option maxHeartbeats 3200000 in
set_option maxRecDepth 100000 in
theorem above {A : Option Addr} {n c : Nat} {l : List (Int × Int)} (w : World) (h : Sl RP 2 w w.heap.size A n c l) (hin : P.inP l = true) :
    Calls Try.prog 76 #[.slice A n c] w fun e w' => e = .returned (.agg (matC fun x y => P.abv l x y).toArray) ∧ Below w.heap.size w w' := by
  have hzero := zero_tab
  have m1 := Nat.le_trans h.le h.max
  unfold maxLen at m1
  have HL := Lib.hid h.len
  have HIN := Lib.hid hin
  have R0 : Hid (Row ((w.alloc (.cells (matC fun _ _ => false).toArray 98)).alloc (.cells (matC fun _ _ => false).toArray 98)) w.heap.size 98 (matC fun _ _ => false)) := (Row.new w _ _).alloc _
  have R1 : Hid (Row ((w.alloc (.cells (matC fun _ _ => false).toArray 98)).alloc (.cells (matC fun _ _ => false).toArray 98)) (w.heap.size + 1) 98 (matC fun _ _ => false)) := by
    have := Row.new (w.alloc (.cells (matC fun _ _ => false).toArray 98)) 98 (matC fun _ _ => false)
    rw [World.size_alloc] at this
    exact this
  clear hin
  go_enter Try.func76, Try.ntmps76
  go_wp2
  clear hzero
  go_loopw [11] (fun vk wr => ∃ (k : Nat) (M : Nat → Nat → Bool), k ≤ n ∧ vk = .int .i64 k ∧ Row wr w.heap.size 98 (matC fun _ _ => false) ∧ Row wr (w.heap.size + 1) 98 (matC M) ∧ Hid (P.Ent l k M) ∧ Below w.heap.size w wr) (fun vk _ => n - (intOf vk).toNat)
  case atStart => exact ⟨0, _, Nat.zero_le _, rfl, R0.out, R1.out, P.Ent.init l, ((Below.refl _ _).alloc (Nat.le_refl _) _).alloc (by simp) _⟩
  case round =>
    clear R0 R1
    obtain ⟨k, M, hk, rfl, r0, r1, hent, hbw⟩ := hrel
    by_cases hlt : k < n
    · obtain ⟨b, o, ⟨p1, p2⟩, rfl, hb, hx, hf, hg, g0, g1⟩ := pairAt h hlt
      obtain ⟨⟨b1, b2⟩, ⟨b3, b4⟩⟩ := P.inP_mem HIN.out (List.mem_of_getElem? hx)
      simp only at b1 b2 b3 b4 g0 g1
      obtain ⟨i, rfl⟩ := Int.eq_ofNat_of_zero_le b1
      obtain ⟨j, rfl⟩ := Int.eq_ofNat_of_zero_le b3
      have e0 := ((cell_of hbw) b (o + k * 2) hb).trans g0
      have e1 := ((cell_of hbw) b (o + k * 2 + 1) hb).trans g1
      have hi10 : i < 10 := by omega
      have hj10 : j < 10 := by omega
      have c1 := (r1.cell (i * 10 + j)).trans (matC_at M hi10 hj10)
      have f1 := r1.free (i * 10 + j)
      have hlw := r1.lt
      have q1 : (i : Int) < 10 := by omega
      have q2 : (j : Int) < 10 := by omega
      have q3 : (0 : Int) ≤ (i : Int) := by omega
      have q4 : (0 : Int) ≤ (j : Int) := by omega
      have HE := Lib.hid (hent.out.step hx)
      have H0 := Lib.hid (((r0.far (p := ⟨w.heap.size + 1, i * 10 + j, none⟩) (by simp) (.bool true)).alloc (.cells #[.int .i64 i, .int .i64 j] 74)).drew)
      have H1 : Hid (Row ((wr.setCell ⟨w.heap.size + 1, i * 10 + j, none⟩ (.bool true)).alloc (.cells #[.int .i64 i, .int .i64 j] 74)).drew (w.heap.size + 1) 98 (matC (P.upd M i j true))) := by
        refine Lib.hid ?_
        have := ((r1.set (i * 10 + j) (.bool true)).alloc (.cells #[.int .i64 i, .int .i64 j] 74)).drew
        rwa [matC_set M hi10 hj10] at this
      have HB := Lib.hid (((hbw.setCell (p := ⟨w.heap.size + 1, i * 10 + j, none⟩) (by simp) (.bool true)).alloc (by have := hbw.size; simp; omega) (.cells #[.int .i64 i, .int .i64 j] 74)).drew)
      clear hx g0 g1 h r0 r1
      go_wp2_with fail
      refine wp_qt 6 (by kernel_rfl) (by kernel_rfl) ?_; simp only [List.take_succ_cons, List.take_zero, List.drop_succ_cons, List.drop_zero]; (repeat (go_big_quiet_step (fail))); refine wpQuiet_nil ?_
      go_wp2
      refine ⟨⟨k + 1, _, by omega, by go_num, H0.out, H1.out, HE, HB.out⟩, by simp [intOf]; omega⟩
    · have HFW := Lib.hid (hent.out.done HIN.out (by have := HL.out; omega))
      clear hent h
      go_wp2
      go_loopw [22] (fun vk wr => ∃ (k : Nat) (M : Nat → Nat → Bool), k ≤ 10 ∧ vk = .int .i64 k ∧ Row wr w.heap.size 98 (matC fun _ _ => false) ∧ Row wr (w.heap.size + 1) 98 (matC M) ∧ Hid (P.FW l k 0 0 M) ∧ Below w.heap.size w wr) (fun vk _ => 10 - (intOf vk).toNat)
      case atStart => exact ⟨0, M, by omega, rfl, r0, r1, HFW, hbw⟩
      case round =>
        clear r0 r1 hbw HFW
        obtain ⟨k, M, hk, rfl, r0, r1, hfw, hbw⟩ := hrel
        obtain ⟨w1, rfl⟩ : ∃ w1 : World, w1 = wr := ⟨_, rfl⟩
        by_cases hk10 : k < 10
        · go_wp2
          go_loopw [25] (fun vi wr => ∃ (i : Nat) (M : Nat → Nat → Bool), i ≤ 10 ∧ vi = .int .i64 i ∧ Row wr w.heap.size 98 (matC fun _ _ => false) ∧ Row wr (w.heap.size + 1) 98 (matC M) ∧ Hid (P.FW l k i 0 M) ∧ Below w.heap.size w wr) (fun vi _ => 10 - (intOf vi).toNat)
          case atStart => exact ⟨0, M, by omega, rfl, r0, r1, hfw, hbw⟩
          case round =>
            clear r0 r1 hbw hfw
            obtain ⟨i, M, hi, rfl, r0, r1, hfw, hbw⟩ := hrel
            obtain ⟨w2, rfl⟩ : ∃ w2 : World, w2 = wr := ⟨_, rfl⟩
            by_cases hi10 : i < 10
            · go_wp2
              go_loopw [28] (fun vj wr => ∃ (j : Nat) (M : Nat → Nat → Bool), j ≤ 10 ∧ vj = .int .i64 j ∧ Row wr w.heap.size 98 (matC fun _ _ => false) ∧ Row wr (w.heap.size + 1) 98 (matC M) ∧ Hid (P.FW l k i j M) ∧ Below w.heap.size w wr) (fun vj _ => 10 - (intOf vj).toNat)
              case atStart => exact ⟨0, M, by omega, rfl, r0, r1, hfw, hbw⟩
              case round =>
                clear r0 r1 hbw hfw
                obtain ⟨j, M, hj, rfl, r0, r1, hfw, hbw⟩ := hrel
                by_cases hj10 : j < 10
                · have c1 := (r1.cell (i * 10 + j)).trans (matC_at M hi10 hj10)
                  have c2 := (r1.cell (i * 10 + k)).trans (matC_at M hi10 hk10)
                  have c3 := (r1.cell (k * 10 + j)).trans (matC_at M hk10 hj10)
                  have f1 := r1.free (i * 10 + j)
                  have hlw := r1.lt
                  have q1 : (i : Int) < 10 := by omega
                  have q2 : (j : Int) < 10 := by omega
                  have q3 : (k : Int) < 10 := by omega
                  have q4 : (0 : Int) ≤ (i : Int) := by omega
                  have q5 : (0 : Int) ≤ (j : Int) := by omega
                  have q6 : (0 : Int) ≤ (k : Int) := by omega
                  have H0 := fun v => Lib.hid ((r0.far (p := ⟨w.heap.size + 1, i * 10 + j, none⟩) (by simp) (.bool v)).drew)
                  have H1 : ∀ v : Bool, Hid (Row (wr.setCell ⟨w.heap.size + 1, i * 10 + j, none⟩ (.bool v)).drew (w.heap.size + 1) 98 (matC (P.upd M i j v))) := fun v => by
                    refine Lib.hid ?_
                    have := (r1.set (i * 10 + j) (.bool v)).drew
                    rwa [matC_set M hi10 hj10] at this
                  have HB := fun v => Lib.hid ((hbw.setCell (p := ⟨w.heap.size + 1, i * 10 + j, none⟩) (by simp) (.bool v)).drew)
                  have HV := fun v hv => Lib.hid (hfw.out.step hi10 hj10 hk10 (v := v) hv)
                  clear r0 r1
                  cases m1 : M i j with
                  | true =>
                    have HE := HV true (by rw [m1]; rfl)
                    clear HV
                    rw [m1] at c1
                    go_wp2_with fail
                    refine wp_qt 23 (by kernel_rfl) (by kernel_rfl) ?_; simp only [List.take_succ_cons, List.take_zero, List.drop_succ_cons, List.drop_zero]; (repeat (go_big_quiet_step (fail))); refine wpQuiet_nil ?_
                    go_wp2
                    refine ⟨⟨j + 1, _, by omega, by go_num, (H0 _).out, (H1 _).out, HE, (HB _).out⟩, by simp [intOf]; omega⟩
                  | false =>
                    cases m2 : M i k with
                    | false =>
                      have HE := HV false (by rw [m1, m2]; rfl)
                      clear HV
                      rw [m1] at c1
                      rw [m2] at c2
                      go_wp2_with fail
                      refine wp_qt 23 (by kernel_rfl) (by kernel_rfl) ?_; simp only [List.take_succ_cons, List.take_zero, List.drop_succ_cons, List.drop_zero]; (repeat (go_big_quiet_step (fail))); refine wpQuiet_nil ?_
                      go_wp2
                      refine ⟨⟨j + 1, _, by omega, by go_num, (H0 _).out, (H1 _).out, HE, (HB _).out⟩, by simp [intOf]; omega⟩
                    | true =>
                      have HE := HV (M k j) (by rw [m1, m2]; rfl)
                      clear HV
                      rw [m1] at c1
                      rw [m2] at c2
                      go_wp2_with fail
                      refine wp_qt 23 (by kernel_rfl) (by kernel_rfl) ?_; simp only [List.take_succ_cons, List.take_zero, List.drop_succ_cons, List.drop_zero]; (repeat (go_big_quiet_step (fail))); refine wpQuiet_nil ?_
                      go_wp2
                      refine ⟨⟨j + 1, _, by omega, by go_num, (H0 _).out, (H1 _).out, HE, (HB _).out⟩, by simp [intOf]; omega⟩
                · have HE : Hid (P.FW l k (i + 1) 0 M) := by
                    obtain rfl : j = 10 := by omega
                    exact hfw.out.row
                  go_wp2
                  refine ⟨⟨i + 1, M, by omega, by go_num, r0, r1, HE, hbw⟩, by simp [intOf]; omega⟩
            · have HE : Hid (P.FW l (k + 1) 0 0 M) := by
                obtain rfl : i = 10 := by omega
                exact hfw.out.round
              go_wp2
              refine ⟨⟨k + 1, M, by omega, by go_num, r0, r1, HE, hbw⟩, by simp [intOf]; omega⟩
        · have HM : Hid (matC M = matC fun x y => P.abv l x y) := by
            obtain rfl : k = 10 := by omega
            exact matC_ext (hfw.out.last HIN.out)
          go_wp2_with (first | (refine wpList_load_row (by rfl) 98 _ (by rfl) (w.heap.size + 1) (by rfl) 98 _ (0, 0) _ r1.is Try.underlying98 (by rfl) (by simpa using sz_tab M) ?_) | (refine store_row (by rfl) 98 _ _ (by rfl) w.heap.size (matC M) _ 98 (by rfl) (by rfl) r0 (sz_tab M) (by rw [matC_len, matC_len]) (matC_one M) ?_; intro w9 r9 hg9))
          have hb9 := hbw.grown hg9 hbw.size (fun k hk => by injection hk with hk; omega)
          refine bodyPost_ret (v := .agg (matC M).toArray) (results_cell_row Try.results76 _ _ w.heap.size 98 (matC M).toArray (0, 0) _ (by rfl) r9.is Try.underlying98 (by rfl) (by simpa using sz_tab M)) rfl ⟨by rw [HM.out], hb9⟩
theorem okP_eq {l : List (Int × Int)} (h1 : P.inP l = true) (h3 : ∀ v : Nat, v < 10 → P.abv l v v = false) {n : Nat} (hn : l.length = n) : P.okP l = decide ((n : Int) ≤ 8) := by
  subst hn
  by_cases h : l.length ≤ 8
  · rw [P.okP_mk h1 h h3]; simp; omega
  · rw [P.okP_bad2 (by omega)]; simp; omega
set_option maxHeartbeats 1600000 in
set_option maxRecDepth 100000 in
theorem implArePairs {A : Option Addr} {n c : Nat} {l : List (Int × Int)} (w : World) (h : Sl RP 2 w w.heap.size A n c l) : Calls Try.prog 47 #[.slice A n c] w fun e w' => e = .returned (.bool (P.okP l)) ∧ Below w.heap.size w w' := by
  have hzero := zero_tab
  have m1 := Nat.le_trans h.le h.max
  unfold maxLen at m1
  have HL := Lib.hid h.len
  go_enter Try.func47, Try.ntmps47
  go_wp2
  go_loopw [4, 9] (fun va vk wr => ∃ k : Nat, k ≤ n ∧ vk = .int .i64 k ∧ Hid (∀ i p, i < k → l[i]? = some p → (P.inR p.1 0 9 && P.inR p.2 0 9) = true) ∧ Below w.heap.size w wr) (fun _ vk _ => n - (intOf vk).toNat)
  case atStart => exact ⟨0, Nat.zero_le _, rfl, fun i y hi => absurd hi (by omega), Below.refl _ _⟩
  case round =>
    obtain ⟨k, hk, rfl, hup, hbw⟩ := hrel
    by_cases hlt : k < n
    · obtain ⟨b, o, p, rfl, hb, hx, hf, hg, g0, g1⟩ := pairAt h hlt
      have e0 := ((cell_of hbw) b (o + k * 2) hb).trans g0
      have e1 := ((cell_of hbw) b (o + k * 2 + 1) hb).trans g1
      have HX := Lib.hid hx
      have HB := Lib.hid (hbw.alloc hbw.size (.cells #[.int .i64 p.1, .int .i64 p.2] 74))
      clear hx h g0 g1
      cases h1 : P.inR p.1 0 9 with
      | false =>
        have HE : Hid (P.okP l = false) := P.okP_bad1 (P.inP_no HX.out (.inl h1))
        go_wp2_with (go_at_call 56; refine (within _ _ _ _).mono ?_; rintro e w' ⟨rfl, rfl⟩)
        go_ret
        exact ⟨ret_bool HE.out.symm, HB.out⟩
      | true =>
        cases h2 : P.inR p.2 0 9 with
        | false =>
          have HE : Hid (P.okP l = false) := P.okP_bad1 (P.inP_no HX.out (.inr h2))
          go_wp2_with (go_at_call 56; refine (within _ _ _ _).mono ?_; rintro e w' ⟨rfl, rfl⟩)
          go_ret
          exact ⟨ret_bool HE.out.symm, HB.out⟩
        | true =>
          have HU := Lib.hid (P.before_step (Q := fun p : Int × Int => (P.inR p.1 0 9 && P.inR p.2 0 9) = true) hup.out HX.out (by rw [h1, h2]; rfl))
          go_wp2_with (go_at_call 56; refine (within _ _ _ _).mono ?_; rintro e w' ⟨rfl, rfl⟩)
          go_roundw
          case rel => exact ⟨k + 1, by omega, by go_num, HU, HB.out⟩
          case measure => simp [intOf]; omega
    · have HIN : Hid (P.inP l = true) := P.inP_all (fun i p hi hp => hup.out i p (by have := HL.out; omega) hp)
      have H1 := Lib.hid (h.on RP.keeps hbw)
      clear h hup
      go_wp2_with fail
      refine (above _ H1.out HIN.out).mono ?_
      rintro e w2 ⟨rfl, hb2⟩
      have r0 := Row.new w2 98 (matC fun _ _ => false)
      have hgz : w.heap.size ≤ w2.heap.size := by have := hb2.size; have := hbw.size; omega
      have HB0 := (hbw.trans (hb2.mono hbw.size)).alloc hgz (.cells (matC fun _ _ => false).toArray 98)
      clear H1 hb2 hbw
      go_wp2_with (refine store_row (by rfl) 98 _ _ (by rfl) w2.heap.size (matC fun x y => P.abv l x y) _ 98 (by rfl) (by rfl) r0 (sz_tab _) (by rw [matC_len, matC_len]) (matC_one _) ?_; intro w9 r9 hg9)
      have hb9 := HB0.grown hg9 HB0.size (fun k hk => by injection hk with hk; omega)
      clear HB0 hg9 r0 hzero
      go_wp2
      go_loop [6, 26] (fun _ vk => ∃ v : Nat, v ≤ 10 ∧ vk = .int .i64 v ∧ Hid (∀ i : Nat, i < v → P.abv l i i = false)) (fun _ vk => 10 - (intOf vk).toNat)
      case atStart => exact ⟨0, by omega, rfl, fun i hi => absurd hi (by omega)⟩
      case round =>
        obtain ⟨v, hv, rfl, hno⟩ := hrel
        by_cases hv10 : v < 10
        · have c1 := (r9.cell (v * 10 + v)).trans (matC_at _ hv10 hv10)
          have q1 : (v : Int) < 10 := by omega
          have q2 : (0 : Int) ≤ (v : Int) := by omega
          cases hav : P.abv l v v with
          | true =>
            have HE : Hid (P.okP l = false) := P.okP_bad3 hv10 hav
            rw [hav] at c1
            go_wp2
            go_ret
            exact ⟨ret_bool HE.out.symm, hb9⟩
          | false =>
            have HE : Hid (∀ i : Nat, i < v + 1 → P.abv l i i = false) := fun i hi => by
              rcases Nat.lt_or_ge i v with h | h
              · exact hno.out i h
              · obtain rfl : i = v := by omega
                exact hav
            rw [hav] at c1
            go_wp2
            go_round
            case rel => exact ⟨v + 1, by omega, by go_num, HE⟩
            case measure => simp [intOf]; omega
        · have HE : Hid (P.okP l = decide ((n : Int) ≤ 8)) := okP_eq HIN.out (fun i hi => hno.out i (by omega)) HL.out
          go_wp2
          go_ret
          exact ⟨ret_bool HE.out.symm, hb9⟩
end Go.Proofs.Ytphbochfpidgeaa.Wk
