/-
  A region that draws its order, in which reads are taken first and the rest comes up in its order: what is read need stand only till a place of the order is reached. No program stands here.
  Conditions: none.
-/
import Derived.Test.YtphbochfpidgeaaM11
import Derived.OrdersHeld
namespace Go.Proofs.Ytphbochfpidgeaa.M
open Go Go.RowKit
set_option linter.unusedVariables false

section
variable {P : Program} {ops : Array Oper} {md : Region.Mode} {Q : Exit → Act → World → Prop} {C : World → Prop} {n : Nat}
/-- Whatever order is picked from here on; C holds behind each operation below n. -/
def wpAnyT (P : Program) (md : Region.Mode) (ops : Array Oper) (Q : Exit → Act → World → Prop) (C : World → Prop) (n : Nat) : Nat → Array Bool → Act → World → Prop
  | 0, b, a, w => Region.ready md ops b = [] ∧ Q .normal a w
  | f + 1, b, a, w => (Region.ready md ops b = [] → Q .normal a w) ∧ ∀ i ∈ Region.ready md ops b, wpOp P ops Q i (fun a' w' => (i < n → C w') ∧ wpAnyT P md ops Q C n f (b.setIfInBounds i true) a' w') a w
theorem wpAny_of_T : ∀ (f : Nat) (b : Array Bool) (a : Act) (w : World), wpAnyT P md ops Q C n f b a w → wpAny P md ops Q f b a w
  | 0, _, _, _, h => h
  | f + 1, _, _, _, h => ⟨h.1, fun i hi => wpOp_mono (fun a' w' h' => wpAny_of_T f _ a' w' h'.2) (h.2 i hi)⟩
theorem wpAnyT_first {i : Nat} {oi : Oper} {v : Value} (hi : ops[i]? = some oi) (hsel : ∀ (j : Nat) (o : Oper) cs b, ops[j]? = some o → o.op ≠ .select cs b)
    (hQ : ∀ c a w, Q (.panic c) (a.put oi.dst v) w → Q (.panic c) a w) (hs : sinkM md ops 0 n = true) (hc : Region.chainB md ops n = true) (hn : n < ops.size) (hin : i < n) :
    ∀ (fuel : Nat) (listed : Array Bool) (a : Act) (w : World), HeadInv md ops n listed →
      (∀ j oj, ops[j]? = some oj → j ≠ i → listed.getD j true = false → (∀ e ∈ oj.after, Region.binds md e = true → e.on ≠ i) → oi.apart ops oj = true) →
      i ∈ Region.ready md ops listed → YieldsIf P ops C oi v a → C w →
      wpAnyT P md ops Q C n fuel (listed.setIfInBounds i true) (a.put oi.dst v) w → wpAnyT P md ops Q C n (fuel + 1) listed a w := by
  intro fuel
  induction fuel with
  | zero =>
    intro listed a w _ _ hr hy hS H
    refine ⟨fun h => (by rw [h] at hr; cases hr), fun j hj => ?_⟩
    by_cases hji : j = i
    · subst hji; exact hy.wpOp hi hS ⟨fun _ => hS, H⟩
    · have := ready_mono hj hji
      rw [H.1] at this
      cases this
  | succ fuel ih =>
    intro listed a w inv hfree hr hy hS H
    refine ⟨fun h => (by rw [h] at hr; cases hr), fun j hj => ?_⟩
    by_cases hji : j = i
    · subst hji; exact hy.wpOp hi hS ⟨fun _ => hS, H⟩
    · have hun := (mem_ready.1 hr).1
      have hjn : j < n := by
        rcases Nat.lt_or_ge j n with h | h
        · exact h
        · exact absurd hj (waitsM hs hc hn inv (Nat.zero_le _) hin hun j h)
      have h1 := H.2 j (ready_mono hj hji)
      obtain ⟨hjun, oj, hoj, hall⟩ := mem_ready.1 hj
      have hnot : ∀ e ∈ oj.after, Region.binds md e = true → e.on ≠ i := fun e he hb heq => by
        have h1 := hall e he hb
        rw [heq, getD_both hun] at h1
        cases h1
      have h2 := wpOp_putIf hoj (hfree j oj hoj hji hjun hnot) (fun cs b => hsel i oi cs b hi) (fun cs b => hsel j oj cs b hoj) hQ hy h1
      have hfree' : ∀ k ok, ops[k]? = some ok → k ≠ i → (listed.setIfInBounds j true).getD k true = false →
          (∀ e ∈ ok.after, Region.binds md e = true → e.on ≠ i) → oi.apart ops ok = true := fun k ok hk hki hun2 hno => by
        refine hfree k ok hk hki ?_ hno
        by_cases hjk : j = k
        · subst hjk; exact hjun
        · rw [getD_set_ne true hjk] at hun2; exact hun2
      refine wpOp_mono (fun a' w' h3 => ⟨h3.2.1, ih (listed.setIfInBounds j true) a' w' (inv.set hj hjn) hfree' (ready_mono hr (Ne.symm hji)) h3.1 (h3.2.1 hjn) ?_⟩) h2
      rw [Array.setIfInBounds_comm _ _ hji]
      exact h3.2.2
/-- Some operations, one behind the other; C behind each below n. -/
def wpListT (P : Program) (ops : Array Oper) (Q : Exit → Act → World → Prop) (C : World → Prop) (n : Nat) : List Oper → Nat → Act → World → Prop
  | [], _, a, w => Q .normal a w
  | _ :: l, k, a, w => wpOp P ops Q k (fun a' w' => (k < n → C w') ∧ wpListT P ops Q C n l (k + 1) a' w') a w
theorem wpAnyT_seq : ∀ (l : List Oper) (k : Nat) (b : Array Bool) (a : Act) (w : World), Region.seqB md ops l.length k b = true → wpListT P ops Q C n l k a w → wpAnyT P md ops Q C n l.length b a w
  | [], _, _, _, _, hB, h => ⟨by simpa [Region.seqB] using hB, h⟩
  | o :: l, k, b, a, w, hB, h => by
    simp only [List.length_cons, Region.seqB, Bool.and_eq_true, decide_eq_true_eq] at hB
    refine ⟨fun h1 => (by rw [hB.1] at h1; cases h1), fun i hi => ?_⟩
    rw [hB.1] at hi
    have hik : i = k := by simpa using hi
    subst hik
    exact wpOp_mono (fun a' w' h' => ⟨h'.1, wpAnyT_seq l (i + 1) _ a' w' hB.2 h'.2⟩) h
/-- What is asked of the listed operations, as a test. -/
def headB (md : Region.Mode) (ops : Array Oper) (n : Nat) (b : Array Bool) : Bool :=
  decide (b.size = ops.size) && (List.range ops.size).all fun j => !(b.getD j false) || (decide (j < n) && match ops[j]? with | some o => o.after.all (fun e => !Region.binds md e || b.getD e.on false) | none => true)
theorem headB_spec {b : Array Bool} (h : headB md ops n b = true) : HeadInv md ops n b := by
  unfold headB at h
  rw [Bool.and_eq_true, decide_eq_true_eq] at h
  obtain ⟨h1, h2⟩ := h
  have key : ∀ j, j < ops.size → b.getD j false = true → j < n ∧ ∀ o, ops[j]? = some o → ∀ e ∈ o.after, Region.binds md e = true → b.getD e.on false = true := by
    intro j hj hb
    have h3 := List.all_eq_true.1 h2 j (List.mem_range.2 hj)
    rw [hb] at h3
    simp only [Bool.not_true, Bool.false_or, Bool.and_eq_true, decide_eq_true_eq] at h3
    refine ⟨h3.1, fun o ho e he hbi => ?_⟩
    have h4 := h3.2
    rw [ho] at h4
    simp only at h4
    rw [Array.all_eq_true_iff_forall_mem] at h4
    have h5 := h4 e he
    rw [hbi] at h5
    simpa using h5
  refine ⟨h1, fun j oj hj hl e he hb => (key j (Array.getElem?_eq_some_iff.1 hj).1 hl).2 oj hj e he hb, fun t ht hts => getD_in (by omega) ?_⟩
  cases hb : b.getD t false with
  | false => rfl
  | true => have := (key t hts hb).1; omega
def takeB (md : Region.Mode) (ops : Array Oper) (n : Nat) (b : Array Bool) (i : Nat) : Bool :=
  Region.noSelect ops && sinkM md ops 0 n && Region.chainB md ops n && decide (n < ops.size) && decide (i < n) && headB md ops n b && (Region.ready md ops b).contains i && Region.free md ops b i
theorem wpAnyT_take {i : Nat} {oi : Oper} {v : Value} {fuel : Nat} {b : Array Bool} {a : Act} {w : World} (hi : ops[i]? = some oi) (hB : takeB md ops n b i = true)
    (hQ : ∀ c a w, Q (.panic c) (a.put oi.dst v) w → Q (.panic c) a w) (hy : YieldsIf P ops C oi v a) (hS : C w)
    (h : wpAnyT P md ops Q C n fuel (b.setIfInBounds i true) (a.put oi.dst v) w) : wpAnyT P md ops Q C n (fuel + 1) b a w := by
  unfold takeB at hB
  simp only [Bool.and_eq_true, decide_eq_true_eq] at hB
  obtain ⟨⟨⟨⟨⟨⟨⟨h1, h2⟩, h3⟩, h4⟩, h5⟩, h6⟩, h7⟩, h8⟩ := hB
  exact wpAnyT_first hi (Region.noSelect_spec h1) hQ h2 h3 h4 h5 fuel b a w (headB_spec h6) (Region.free_spec hi h8) (by simpa using h7) hy hS h
theorem wp_region_T {id : Nat} {a : Act} {w : World} {l : List Oper} (n : Nat) (C : World → Prop) (hm : P.follows .mixedOrders = true) (hC : C w.drew)
    (h : C w.drew → wpAnyT P .any l.toArray Q C n l.toArray.size (Array.replicate l.toArray.size false) a w.drew) : (Code.region id l.toArray true).wp P Q a w :=
  wp_region_any hm (wpAny_of_T _ _ _ _ (h hC))
theorem wpAnyT_rest {l : List Oper} (m : Nat) {fuel : Nat} {b : Array Bool} {a : Act} {w : World} (hB : (decide (fuel = (l.drop m).length) && Region.seqB md l.toArray (l.drop m).length m b) = true)
    (h : wpListT P l.toArray Q C n (l.drop m) m a w) : wpAnyT P md l.toArray Q C n fuel b a w := by
  rw [Bool.and_eq_true, decide_eq_true_eq] at hB
  obtain ⟨rfl, h2⟩ := hB
  exact wpAnyT_seq (l.drop m) m b a w h2 h
theorem letsOut_then {R : Act → World → Prop} (h : LetsOut (Exit.then R Q)) : LetsOut Q := h
theorem Oper.wp_then {o : Oper} {a : Act} {w : World} {K : Act → World → Prop} {R : Act → World → Prop} (h : o.wp P a w K (Exit.then R Q)) : o.wp P a w K Q := by
  unfold Oper.wp at *
  generalize (execOp a.eval o).run P w = r at *
  cases r with
  | ok x w' => cases x <;> simp only [Oper.upon] at h ⊢ <;> exact h
  | halt x w' => cases x <;> simp only [Oper.upon] at h ⊢ <;> exact h
/-- The next operation by itself; behind it C, and the rest. -/
theorem wpListT_step {o : Oper} {l : List Oper} {k : Nat} {a : Act} {w : World} (ho : ops[k]? = some o)
    (h : wpList P ops (Exit.then (fun a w => (k < n → C w) ∧ wpListT P ops Q C n l (k + 1) a w) Q) [o] a w) : wpListT P ops Q C n (o :: l) k a w := by
  unfold wpListT wpOp
  rw [ho]
  simp only
  unfold wpList at h
  split
  · rename_i hw
    rw [if_pos hw] at h
    rcases h with h | ⟨h1, h2⟩
    · exact .inl (Oper.wp_mono (fun a w hh => hh) (Oper.wp_then h))
    · exact .inr ⟨h1, letsOut_then h2⟩
  · rename_i hw
    rw [if_neg hw] at h
    exact h
theorem wpListT_tail : ∀ {l : List Oper} {k : Nat} {a : Act} {w : World}, n ≤ k → (∀ j, l[j]? = ops[j + k]?) → wpList P ops Q l a w → wpListT P ops Q C n l k a w
  | [], _, _, _, _, _, h => h
  | o :: l, k, a, w, hk, hl, h => by
    have h0 : ops[k]? = some o := by simpa using (hl 0).symm
    have hw : wpOp P ops Q k (wpList P ops Q l) a w := by unfold wpOp; simp only [h0]; exact h
    exact wpOp_mono (fun a' w' h' => ⟨fun hh => absurd hh (by omega), wpListT_tail (by omega) (fun j => by have := hl (j + 1); rw [show j + 1 + k = j + (k + 1) by omega] at this; simpa using this) h'⟩) hw
theorem wpListT_end {l : List Oper} {k : Nat} {a : Act} {w : World} (hk : n ≤ k) (hl : ops.toList.drop k = l) (h : wpList P ops Q l a w) : wpListT P ops Q C n l k a w :=
  wpListT_tail hk (fun j => by rw [← hl, List.getElem?_drop, Array.getElem?_toList, Nat.add_comm]) h
end
end Go.Proofs.Ytphbochfpidgeaa.M
