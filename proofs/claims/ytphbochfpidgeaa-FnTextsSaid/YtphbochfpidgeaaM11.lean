/-
  A region that draws its order: reads and calls that only make memory, in any order, and behind them a tail whose order is forced. No program stands here.
  Conditions: none.
-/
import Derived.Test.YtphbochfpidgeaaM7
import Derived.StillTail
namespace Go.Proofs.Ytphbochfpidgeaa.M
open Go Go.RowKit
set_option linter.unusedVariables false

section
variable {P : Program} {ops : Array Oper} {md : Region.Mode} {C : World → Prop}
/-- f operations below n come up in whatever order; then L. -/
def Hd (P : Program) (md : Region.Mode) (ops : Array Oper) (C : World → Prop) (n : Nat) (L : Array Bool → Act → Prop) (f : Nat) : Array Bool → Act → Prop :=
  f.rec (fun b a => L b a) fun _ ih b a => Region.ready md ops b ≠ [] ∧ ∀ i ∈ Region.ready md ops b, i < n ∧ qOp P ops C i (ih (b.setIfInBounds i true)) a
theorem Hd.wp {n g : Nat} {L : Array Bool → Act → Prop} {Q : Exit → Act → World → Prop} (hL : ∀ b a w, C w → L b a → wpAny P md ops Q g b a w) (f : Nat) : ∀ b a w, C w → Hd P md ops C n L f b a → wpAny P md ops Q (f + g) b a w := by
  induction f with
  | zero => intro b a w hw h; rw [Nat.zero_add]; exact hL b a w hw h
  | succ f ih =>
    intro b a w hw h
    obtain ⟨h1, h2⟩ := h
    rw [Nat.add_right_comm]
    exact ⟨fun e => absurd e h1, fun i hi => wpOp_of_qOp hw (fun a' w' hw' h' => ih _ a' w' hw' h') (h2 i hi).2⟩
/-- Each operation from m on below n is waited for, at last, by number n. -/
def sinkM (md : Region.Mode) (ops : Array Oper) (m n : Nat) : Bool := (List.range n).all fun i => decide (i < m) || (List.range (n + 1)).any fun j => decide (i < j) && Region.waitsFor md ops j i
theorem waitsM {m n : Nat} {b : Array Bool} (hs : sinkM md ops m n = true) (hc : Region.chainB md ops n = true) (hn : n < ops.size) (inv : HeadInv md ops n b) {i : Nat} (hm : m ≤ i) (hi : i < n) (hu : b.getD i true = false) :
    ∀ t, n ≤ t → t ∉ Region.ready md ops b := by
  have first : ∀ (d i : Nat), n - i = d → m ≤ i → i < n → b.getD i true = false → n ∉ Region.ready md ops b := by
    intro d
    induction d using Nat.strongRecOn with
    | ind d ih =>
      intro i hd hm hi hu hr
      have h1 := List.all_eq_true.1 hs i (List.mem_range.2 hi)
      rw [Bool.or_eq_true, decide_eq_true_eq] at h1
      rcases h1 with h1 | h1
      · omega
      · obtain ⟨j, hj, hj2⟩ := List.any_eq_true.1 h1
        rw [Bool.and_eq_true, decide_eq_true_eq] at hj2
        obtain ⟨oj, hoj, e, he, hb, hon⟩ := Region.waitsFor_spec hj2.2
        have hjn : j ≤ n := by have := List.mem_range.1 hj; omega
        by_cases hjn' : j = n
        · subst hjn'
          obtain ⟨_, on, hon', hall⟩ := mem_ready.1 hr
          obtain rfl : oj = on := Option.some.inj (hoj.symm.trans hon')
          have := hall e he hb
          rw [hon, getD_both hu] at this
          cases this
        · cases hl : b.getD j false with
          | true =>
            have := inv.closed j oj hoj hl e he hb
            rw [hon, getD_both hu] at this
            cases this
          | false => exact ih (n - j) (by omega) j rfl (by omega) (by omega) (getD_in (by rw [inv.size]; omega) hl) hr
  intro t ht hr
  by_cases htn : t = n
  · subst htn; exact first _ i rfl hm hi hu hr
  · obtain ⟨_, ot, hot, hall⟩ := mem_ready.1 hr
    have h1 := List.all_eq_true.1 hc t (List.mem_range.2 (Array.getElem?_eq_some_iff.1 hot).1)
    rw [Bool.or_eq_true, decide_eq_true_eq] at h1
    rcases h1 with h1 | h1
    · omega
    · obtain ⟨o', ho', e, he, hb, hon⟩ := Region.waitsFor_spec h1
      obtain rfl : o' = ot := Option.some.inj (ho'.symm.trans hot)
      have := hall e he hb
      rw [hon, getD_both (inv.tail (t - 1) (by omega) (by have := (Array.getElem?_eq_some_iff.1 hot).1; omega))] at this
      cases this
theorem Hd.take {m n i : Nat} {oi : Oper} {v : Value} {L : Array Bool → Act → Prop} (hi : ops[i]? = some oi) (hsel : Region.noSelect ops = true) (hs : sinkM md ops m n = true) (hc : Region.chainB md ops n = true) (hn : n < ops.size) (him : m ≤ i) (hin : i < n)
    (hL : ∀ b a, L b a → ∀ j ∈ Region.ready md ops b, n ≤ j) (f : Nat) : ∀ b a, HeadInv md ops n b →
      (∀ j oj, ops[j]? = some oj → j ≠ i → b.getD j true = false → (∀ e ∈ oj.after, Region.binds md e = true → e.on ≠ i) → oi.apart ops oj = true) →
      i ∈ Region.ready md ops b → YieldsIn P ops C oi v a → Hd P md ops C n L f (b.setIfInBounds i true) (a.put oi.dst v) → Hd P md ops C n L (f + 1) b a := by
  have S := Region.noSelect_spec hsel
  induction f with
  | zero =>
    intro b a inv _ hr hy H
    have below : ∀ j ∈ Region.ready md ops b, j < n := fun j hj => by
      rcases Nat.lt_or_ge j n with h | h
      · exact h
      · exact absurd hj (waitsM hs hc hn inv him hin (mem_ready.1 hr).1 j h)
    refine ⟨List.ne_nil_of_mem hr, fun j hj => ⟨below j hj, ?_⟩⟩
    by_cases e : j = i
    · subst e; exact hy.qOp hi H
    · have := hL _ _ H j (ready_mono hj e)
      have := below j hj
      omega
  | succ f ih =>
    intro b a inv hfree hr hy H
    have hun := (mem_ready.1 hr).1
    have below : ∀ j ∈ Region.ready md ops b, j < n := fun j hj => by
      rcases Nat.lt_or_ge j n with h | h
      · exact h
      · exact absurd hj (waitsM hs hc hn inv him hin hun j h)
    refine ⟨List.ne_nil_of_mem hr, fun j hj => ⟨below j hj, ?_⟩⟩
    by_cases e : j = i
    · subst e; exact hy.qOp hi H
    · obtain ⟨hju, oj, hoj, hall⟩ := mem_ready.1 hj
      have waits : ∀ e ∈ oj.after, Region.binds md e = true → e.on ≠ i := fun x hx hb hxi => by
        have := hall x hx hb
        rw [hxi, getD_both hun] at this
        cases this
      have step := qOp_put hoj (hfree j oj hoj e hju waits) (fun cs b => S i oi cs b hi) (fun cs b => S j oj cs b hoj) hy (H.2 j (ready_mono hj e)).2
      refine qOp_mono (fun a' h3 => ih _ a' (inv.set hj (below j hj)) (fun k ok hk hki hk2 hno => hfree k ok hk hki ?_ hno) (ready_mono hr (Ne.symm e)) h3.1 ?_) step
      · by_cases hjk : j = k
        · subst hjk; exact hju
        · rwa [getD_set_ne true hjk] at hk2
      · rw [Array.setIfInBounds_comm _ _ e]
        exact h3.2
theorem Hd.lex {m n g : Nat} {Lq : Act → Prop} (hsel : Region.noSelect ops = true) (hs : sinkM md ops m n = true) (hc : Region.chainB md ops n = true) (hn : n < ops.size) (l : List Oper) : ∀ (k : Nat) b a, m ≤ k →
    (∀ j, j < l.length → l[j]? = ops[k + j]?) → k + l.length = n → HeadInv md ops n b → Region.lexHead md ops g l.length k b = true → wpQuiet P ops C Lq l a →
    Hd P md ops C n (fun b' a' => Region.seqB md ops g n b' = true ∧ Lq a') l.length b a := by
  induction l with
  | nil =>
    intro k b a _ _ hk _ hB h
    obtain rfl : k = n := hk
    exact ⟨hB, h⟩
  | cons o l ih =>
    intro k b a hmk hl hk inv hB h
    have h0 : ops[k]? = some o := by have := hl 0 (by simp); simpa using this.symm
    simp only [List.length_cons] at hk hB
    unfold Region.lexHead at hB
    rw [Bool.and_eq_true, Bool.and_eq_true] at hB
    obtain ⟨⟨hr, hf⟩, hB'⟩ := hB
    have hr' : k ∈ Region.ready md ops b := by simpa using hr
    have hq : qOp P ops C k (wpQuiet P ops C Lq l) a := by
      unfold qOp
      rw [h0]
      exact h
    obtain ⟨v, hy, hK⟩ := yieldsIn_of_qOp h0 hq
    refine Hd.take h0 hsel hs hc hn hmk (by omega) (fun b' a' hL => seqB_ready hL.1) l.length b a inv (Region.free_spec h0 hf) hr' hy ?_
    refine ih (k + 1) _ _ (by omega) (fun j hj => ?_) (by omega) (inv.set hr' (by omega)) hB' hK
    have := hl (j + 1) (by simp; omega)
    rw [List.getElem?_cons_succ] at this
    rw [this, Nat.add_right_comm]; rfl
end
/-- The first n operations are quiet, in any order; the rest comes up in its order. -/
theorem wp_region_bt {P : Program} {id : Nat} {Q : Exit → Act → World → Prop} {a : Act} {w : World} {l : List Oper} (n : Nat) (hm : P.follows .mixedOrders = true)
    (hB : (Region.noSelect l.toArray && decide (n < l.toArray.size) && sinkM .any l.toArray 0 n && Region.chainB .any l.toArray n && Region.lexHead .any l.toArray (l.toArray.size - n) n 0 (Array.replicate l.toArray.size false)) = true)
    (h : wpQuiet P l.toArray (fun w' => ∃ p : Regrown, w' = Go.Sort.grow (redrawn w p.d) p.os) (fun a' => ∀ w', Below w.heap.size w w' → wpList P l.toArray Q (l.drop n) a' w') (l.take n) a) : (Code.region id l.toArray true).wp P Q a w := by
  simp only [Bool.and_eq_true, decide_eq_true_eq] at hB
  obtain ⟨⟨⟨⟨hsel, hn⟩, hs⟩, hc⟩, hlex⟩ := hB
  have hnl : n < l.length := by simpa using hn
  have tl : (l.take n).length = n := by rw [List.length_take]; omega
  have dl : (l.drop n).length = l.toArray.size - n := by simp
  have inv0 : HeadInv .any l.toArray n (Array.replicate l.toArray.size false) :=
    ⟨by simp, fun j oj _ hl => (by rw [getD_replicate_false] at hl; cases hl), fun t _ ht => getD_in (by simpa using ht) (getD_replicate_false _ _)⟩
  have H := Hd.lex (md := .any) (g := l.toArray.size - n) hsel hs hc hn (l.take n) 0 _ a (Nat.le_refl _) (fun j hj => by rw [tl] at hj; simp [hj]) (by omega) inv0 (by rw [tl]; exact hlex) h
  have hC : ∃ p : Regrown, ({ w with drawn := w.drawn + 1 } : World) = Go.Sort.grow (redrawn w p.d) p.os := ⟨⟨w.drawn + 1, #[]⟩, by rw [Go.Sort.grow_empty]; rfl⟩
  refine wp_region_any hm ?_
  have := Hd.wp (Q := Q) (g := l.toArray.size - n) (fun b a' w' hw' hL => by
    obtain ⟨p, rfl⟩ := hw'
    have := wpAny_of_seq (md := .any) (Q' := Q) (l.drop n) n b a' _ (fun j => by simp [List.getElem?_drop]) (by rw [dl]; exact hL.1) (hL.2 _ (below_regrown w p.d p.os))
    rwa [dl] at this) _ _ _ _ hC H
  rw [tl, show n + (l.toArray.size - n) = l.toArray.size by omega] at this
  exact this
/-- The same behind a first operation that hands a slot's value on ('out' of 'out = append(out, ..)'), and that may come up whenever. -/
theorem wp_region_mt {P : Program} {id : Nat} {Q : Exit → Act → World → Prop} {a : Act} {w : World} {o : Oper} {l : List Oper} (n : Nat) (x : Operand) (hm : P.follows .mixedOrders = true) (ho : o.op = .move x) (hgd : o.guard = none) (hQ : ∀ c a w v, Q (.panic c) (a.put o.dst v) w → Q (.panic c) a w)
    (hB : (Region.noSelect (o :: l).toArray && decide (n + 1 < (o :: l).toArray.size) && sinkM .any (o :: l).toArray 1 (n + 1) && Region.chainB .any (o :: l).toArray (n + 1) && (Region.ready .any (o :: l).toArray (Array.replicate (o :: l).toArray.size false)).contains 0 && Region.free .any (o :: l).toArray (Array.replicate (o :: l).toArray.size false) 0 && Region.lexHead .any (o :: l).toArray ((o :: l).toArray.size - (n + 1)) n 1 ((Array.replicate (o :: l).toArray.size false).setIfInBounds 0 true)) = true)
    (h : wpQuiet P (o :: l).toArray (fun w' => ∃ p : Regrown, w' = Go.Sort.grow (redrawn w p.d) p.os) (fun a' => ∀ w', Below w.heap.size w w' → wpList P (o :: l).toArray Q (l.drop n) a' w') (l.take n) (a.put o.dst (a.eval x))) : (Code.region id (o :: l).toArray true).wp P Q a w := by
  simp only [Bool.and_eq_true, decide_eq_true_eq] at hB
  obtain ⟨⟨⟨⟨⟨⟨hsel, hn⟩, hs⟩, hc⟩, hr⟩, hf⟩, hlex⟩ := hB
  have hnl : n < l.length := by simpa using hn
  have tl : (l.take n).length = n := by rw [List.length_take]; omega
  have dl : (l.drop n).length = (o :: l).toArray.size - (n + 1) := by simp
  have inv0 : HeadInv .any (o :: l).toArray (n + 1) (Array.replicate (o :: l).toArray.size false) :=
    ⟨by simp, fun j oj _ hl => (by rw [getD_replicate_false] at hl; cases hl), fun t _ ht => getD_in (by simpa using ht) (getD_replicate_false _ _)⟩
  have hr0 : 0 ∈ Region.ready .any (o :: l).toArray (Array.replicate (o :: l).toArray.size false) := by simpa using hr
  have H := Hd.lex (md := .any) (g := (o :: l).toArray.size - (n + 1)) hsel hs hc hn (l.take n) 1 _ (a.put o.dst (a.eval x)) (Nat.le_refl _) (fun j hj => by
    rw [tl] at hj
    rw [List.getElem?_take, if_pos hj, Nat.add_comm 1 j]
    simp) (by omega) (inv0.set hr0 (by omega)) (by rw [tl]; exact hlex) h
  have hC : ∃ p : Regrown, ({ w with drawn := w.drawn + 1 } : World) = Go.Sort.grow (redrawn w p.d) p.os := ⟨⟨w.drawn + 1, #[]⟩, by rw [Go.Sort.grow_empty]; rfl⟩
  refine wp_region_any hm ?_
  have key := Hd.wp (Q := Q) (g := (o :: l).toArray.size - (n + 1)) (fun b a' w' hw' hL => by
    obtain ⟨p, rfl⟩ := hw'
    have := wpAny_of_seq (md := .any) (Q' := Q) (l.drop n) (n + 1) b a' _ (fun j => by rw [List.getElem?_drop, show n + 1 + j = (n + j) + 1 by omega]; simp) (by rw [dl]; exact hL.1) (hL.2 _ (below_regrown w p.d p.os))
    rwa [dl] at this) _ _ _ _ hC H
  have hy : Yields P (o :: l).toArray o (a.eval x) a := .inl ⟨by simp [Region.wanted, hgd], fun w => by unfold execOp; rw [ho]; rfl⟩
  have := wpAny_take (md := .any) (ops := (o :: l).toArray) (i := 0) (oi := o) (v := a.eval x) (by simp) hsel hf hr (fun c a w => hQ c a w _) hy key
  rw [tl, show n + ((o :: l).toArray.size - (n + 1)) + 1 = (o :: l).toArray.size by omega] at this
  exact this
end Go.Proofs.Ytphbochfpidgeaa.M
