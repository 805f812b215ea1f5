/-
  Arguments opened: what reads as data is a slice of numbers, pairs, items, wishes or nodes in the words of M1. No program stands here.
  Conditions: none.
-/
import Derived.Test.YtphbochfpidgeaaM1
import Derived.ProofKit
import Derived.Deep.Slices
namespace Go.Proofs.Ytphbochfpidgeaa.M
open Go Go.RowKit Go.ChangeShapes Go.WideShapes Go.Deep

theorem list_of {α : Type} (n : Nat) (Q : Nat → α → Prop) (h : ∀ i, i < n → ∃ a, Q i a) : ∃ l : List α, l.length = n ∧ ∀ i x, l[i]? = some x → Q i x := by
  induction n with
  | zero => exact ⟨[], rfl, fun i x hx => by simp at hx⟩
  | succ n ih =>
    obtain ⟨l, hl, hq⟩ := ih fun i hi => h i (by omega)
    obtain ⟨a, ha⟩ := h n (by omega)
    refine ⟨l ++ [a], by simp [hl], fun i x hx => ?_⟩
    by_cases hi : i < n
    · rw [List.getElem?_append_left (by omega)] at hx
      exact hq i x hx
    · have hi' : i = n := by
        have := (List.getElem?_eq_some_iff.1 hx).1
        simp at this; omega
      subst hi'
      rw [List.getElem?_append_right (by omega), hl] at hx
      simp at hx
      subst hx
      exact ha
theorem cell_lt {w : World} {a : Addr} {v : Value} (h : w.cell? a = some v) : a.block < w.heap.size := by
  rcases Nat.lt_or_ge a.block w.heap.size with hlt | hge
  · exact hlt
  · simp [World.cell?, Array.getElem?_eq_none hge] at h

section
variable {H : Type} {enc : TypeId × Value → H} {P : Program} {w : World} {base : Nat} {spare : Nat → Bool} {held : Bool}

theorem slice_open {α : Type} {R : Rep α} {sz : Nat} {t e : TypeId} (ht : P.underlying t = some (.slice e)) (hce : P.cellsOf e = sz) (hsz : 0 < sz)
    (op : ∀ fuel cs x, DataW.trod enc P w base spare held fuel e cs = some x → ∃ a, R w w.heap.size a cs) {fuel : Nat} {v : Value} {x : DataW H × List MemPlace}
    (h : DataW.trod enc P w base spare held fuel t [v] = some x) : ∃ l, V R sz w w.heap.size v l := by
  rcases open_slice ht h with ⟨hcs, _⟩ | ⟨a, len, cap, m, k, D, Pl, hcs, _, hl, hm, hmm, _, hi⟩
  · injection hcs with hcs _
    exact ⟨[], none, 0, 0, hcs, Sl.nil w _⟩
  · injection hcs with hcs _
    have hlm : len ≤ m := by rw [hmm]; split <;> omega
    obtain ⟨l, hlen, hq⟩ := list_of len (fun i a' => ∃ cs : List Value, cs.length = sz ∧ R w w.heap.size a' cs ∧ ∀ j u, cs[j]? = some u → w.cell? (a.add (i * sz + j)) = some u) (fun i hlt => by
      obtain ⟨cs', hc, ht'⟩ := hi i (by omega)
      rw [hce] at hc
      obtain ⟨_, hcl, hat⟩ := World.cells?_some hc
      obtain ⟨a', ha'⟩ := op _ _ _ ht'
      refine ⟨a', cs', hcl, ha', fun j u hu => ?_⟩
      have hj : j < sz := by have := (List.getElem?_eq_some_iff.1 hu).1; omega
      rw [← Go.Deep.add_add, hat j hj, hu])
    refine ⟨l, some a, len, cap, hcs, hlen, hl, hm, fun hn => ?_⟩
    have h0 : ∃ x0, l[0]? = some x0 := ⟨_, List.getElem?_eq_getElem (by omega)⟩
    obtain ⟨x0, hx0⟩ := h0
    obtain ⟨cs0, hc0, _, hcell0⟩ := hq 0 x0 hx0
    have hu0 : ∃ u, cs0[0]? = some u := ⟨_, List.getElem?_eq_getElem (by omega)⟩
    obtain ⟨u0, hu0⟩ := hu0
    have hc00 := hcell0 0 u0 hu0
    have hb := cell_lt hc00
    have hs := World.cell?_spot hc00
    obtain ⟨b, o, s⟩ := a
    simp [Addr.add] at hb hs
    subst hs
    refine ⟨b, o, rfl, hb, fun i y hy => ?_⟩
    obtain ⟨cs, h1, h2, h3⟩ := hq i y hy
    refine ⟨cs, h1, h2, fun j u hu => ?_⟩
    have := h3 j u hu
    have e : (⟨b, o, none⟩ : Addr).add (i * sz + j) = ⟨b, o + (i * sz + j), none⟩ := by by_cases h0 : i * sz + j = 0 <;> simp [Addr.add, h0]
    rwa [e] at this

theorem op_int {e : TypeId} (he : P.underlying e = some (.int .i64)) {fuel : Nat} {cs : List Value} {x : DataW H × List MemPlace} (h : DataW.trod enc P w base spare held fuel e cs = some x) : ∃ a, RI w w.heap.size a cs := by
  obtain ⟨n, hcs, _, hw⟩ := DataW.trod_int he h
  exact ⟨n, hcs, fit_wf hw⟩
/-- One field of a struct. -/
theorem field_at {fs : Array Field} {xs : List (DataW H × List MemPlace)} {n : Nat} {cs : List Value} (hxl : xs.length = fs.size)
    (hg : ∀ (i : Nat) (f : Field), fs[i]? = some f → DataW.trod enc P w base spare held n f.type ((cs.drop f.offset).take (P.cellsOf f.type)) = xs[i]?) (i : Nat) (f : Field) (hf : fs[i]? = some f) :
    ∃ y, DataW.trod enc P w base spare held n f.type ((cs.drop f.offset).take (P.cellsOf f.type)) = some y := by
  have hi := (Array.getElem?_eq_some_iff.1 hf).1
  exact ⟨xs[i]'(by omega), by rw [hg i f hf, List.getElem?_eq_getElem]⟩
theorem op_pair {e ti : TypeId} {f0 f1 : Field} (hs : P.underlying e = some (.struct #[f0, f1])) (hi : P.underlying ti = some (.int .i64)) (hC : P.cellsOf e = 2) (hci : P.cellsOf ti = 1)
    (t0 : f0.type = ti) (t1 : f1.type = ti) (o0 : f0.offset = 0) (o1 : f1.offset = 1)
    {fuel : Nat} {cs : List Value} {x : DataW H × List MemPlace} (h : DataW.trod enc P w base spare held fuel e cs = some x) : ∃ a, RP w w.heap.size a cs := by
  obtain ⟨xs, n, _, _, hcl, hxl, hg⟩ := DataW.trod_struct hs h
  obtain ⟨y0, h0⟩ := field_at hxl hg 0 f0 rfl
  obtain ⟨y1, h1⟩ := field_at hxl hg 1 f1 rfl
  rw [hC] at hcl
  rw [t0, o0, hci] at h0
  rw [t1, o1, hci] at h1
  match cs, hcl with
  | [c0, c1], _ =>
    obtain ⟨a, e0, _, w0⟩ := DataW.trod_int hi h0
    obtain ⟨b, e1, _, w1⟩ := DataW.trod_int hi h1
    simp at e0 e1
    subst e0 e1
    exact ⟨(a, b), rfl, fit_wf w0, fit_wf w1⟩
theorem op_item {e ti tl : TypeId} {f0 f1 : Field} (hs : P.underlying e = some (.struct #[f0, f1])) (hi : P.underlying ti = some (.int .i64)) (hl : P.underlying tl = some (.slice ti)) (hC : P.cellsOf e = 2) (hci : P.cellsOf ti = 1) (hcl' : P.cellsOf tl = 1)
    (t0 : f0.type = ti) (t1 : f1.type = tl) (o0 : f0.offset = 0) (o1 : f1.offset = 1)
    {fuel : Nat} {cs : List Value} {x : DataW H × List MemPlace} (h : DataW.trod enc P w base spare held fuel e cs = some x) : ∃ a, RIt w w.heap.size a cs := by
  obtain ⟨xs, n, _, _, hcl, hxl, hg⟩ := DataW.trod_struct hs h
  obtain ⟨y0, h0⟩ := field_at hxl hg 0 f0 rfl
  obtain ⟨y1, h1⟩ := field_at hxl hg 1 f1 rfl
  rw [hC] at hcl
  rw [t0, o0, hci] at h0
  rw [t1, o1, hcl'] at h1
  match cs, hcl with
  | [c0, c1], _ =>
    obtain ⟨a, e0, _, w0⟩ := DataW.trod_int hi h0
    obtain ⟨l, hv⟩ := slice_open (R := RI) hl hci (by omega) (fun _ _ _ hh => op_int hi hh) (v := c1) h1
    simp at e0
    subst e0
    exact ⟨⟨a, l⟩, c1, rfl, fit_wf w0, hv⟩
theorem op_wish {e ti tl tp tps : TypeId} {f0 f1 f2 f3 f4 g0 g1 : Field} (hs : P.underlying e = some (.struct #[f0, f1, f2, f3, f4])) (hi : P.underlying ti = some (.int .i64)) (hl : P.underlying tl = some (.slice ti))
    (hps : P.underlying tps = some (.slice tp)) (hp : P.underlying tp = some (.struct #[g0, g1])) (hC : P.cellsOf e = 5) (hci : P.cellsOf ti = 1) (hcl' : P.cellsOf tl = 1) (hcp : P.cellsOf tp = 2) (hcps : P.cellsOf tps = 1)
    (t0 : f0.type = ti) (t1 : f1.type = ti) (t2 : f2.type = ti) (t3 : f3.type = tl) (t4 : f4.type = tps) (o0 : f0.offset = 0) (o1 : f1.offset = 1) (o2 : f2.offset = 2) (o3 : f3.offset = 3) (o4 : f4.offset = 4)
    (s0 : g0.type = ti) (s1 : g1.type = ti) (q0 : g0.offset = 0) (q1 : g1.offset = 1)
    {fuel : Nat} {cs : List Value} {x : DataW H × List MemPlace} (h : DataW.trod enc P w base spare held fuel e cs = some x) : ∃ a, RW w w.heap.size a cs := by
  obtain ⟨xs, n, _, _, hcl, hxl, hg⟩ := DataW.trod_struct hs h
  obtain ⟨y0, h0⟩ := field_at hxl hg 0 f0 rfl
  obtain ⟨y1, h1⟩ := field_at hxl hg 1 f1 rfl
  obtain ⟨y2, h2⟩ := field_at hxl hg 2 f2 rfl
  obtain ⟨y3, h3⟩ := field_at hxl hg 3 f3 rfl
  obtain ⟨y4, h4⟩ := field_at hxl hg 4 f4 rfl
  rw [hC] at hcl
  rw [t0, o0, hci] at h0
  rw [t1, o1, hci] at h1
  rw [t2, o2, hci] at h2
  rw [t3, o3, hcl'] at h3
  rw [t4, o4, hcps] at h4
  match cs, hcl with
  | [c0, c1, c2, c3, c4], _ =>
    obtain ⟨a, e0, _, w0⟩ := DataW.trod_int hi h0
    obtain ⟨b, e1, _, w1⟩ := DataW.trod_int hi h1
    obtain ⟨c, e2, _, w2⟩ := DataW.trod_int hi h2
    obtain ⟨l, hv⟩ := slice_open (R := RI) hl hci (by omega) (fun _ _ _ hh => op_int hi hh) (v := c3) h3
    obtain ⟨ps, hu⟩ := slice_open (R := RP) hps hcp (by omega) (fun _ _ _ hh => op_pair hp hi hcp hci s0 s1 q0 q1 hh) (v := c4) h4
    simp at e0 e1 e2
    subst e0 e1 e2
    exact ⟨⟨a, b, c, l, ps⟩, c3, c4, rfl, fit_wf w0, fit_wf w1, fit_wf w2, hv, hu⟩
end
end Go.Proofs.Ytphbochfpidgeaa.M
