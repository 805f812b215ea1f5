/-
  Lists of numbers and of pairs that a call laid, between two block numbers: carried on, marked, read.
  Conditions: none beyond the bounds that each states.
-/
import Derived.Test.YtphbochfpidgeaaU4
import Derived.Test.YtphbochfpidgeaaW12
import Derived.Test.YtphbochfpidgeaaW30
namespace Go.Proofs.Ytphbochfpidgeaa.Wk
open Go.RowKit Go.Proofs.Ytphbochfpidgeaa.M
set_option linter.unusedVariables false

/-- The blocks from lo on below hi. -/
abbrev Rng (lo hi : Nat) : Nat → Prop := fun b => lo ≤ b ∧ b < hi
/-- Its block, if it has one, is below hi. -/
abbrev Und (v : Value) (hi : Nat) : Prop := ∀ g, v.ownBlock = some g → g < hi
theorem below_chg {w w' : World} {lo hi lo' : Nat} (h : Chg (Rng lo hi) w w') (hl : lo' ≤ lo) : Below lo' w w' := h.below fun b hb => by have := hb.1; omega
section
variable {w w' : World} {lo hi lo' hi' E sz n : Nat} {v : Value} {xs : List Value}
theorem own_rng (h : w.ownsRow lo E sz v n xs) (hu : Und v hi) (hc : Chg (Rng lo' hi') w w') (hd : hi' ≤ lo ∨ hi ≤ lo') : w'.ownsRow lo E sz v n xs :=
  own_chg h hc fun g hg hh => by
    have h1 := (h.lt g hg).1
    have h2 := hu g hg
    omega
theorem own_und (h : w.ownsRow lo E sz v n xs) : Und v w.heap.size := fun g hg => (h.lt g hg).2
theorem blk_rng (h : w.ownsRow lo E sz v n xs) (hu : Und v hi) (hc : Chg (BlkOf v) w w') : Chg (Rng lo hi) w w' := hc.mono fun b hb => ⟨(h.lt b hb).1, hu b hb⟩
end
theorem V_on {α : Type} {R : Rep α} {sz : Nat} {w w' : World} {v : Value} {l : List α} (K : Keeps R) (h : V R sz w w.heap.size v l) (hb : Below w.heap.size w w') : V R sz w' w'.heap.size v l := (h.below K hb).more K hb.size
/-! ### numbers -/
def OwnQ (w : World) (lo hi : Nat) (v : Value) (l : List Int) : Prop := w.ownsRow lo 3 1 v l.length (l.map (Value.int .i64)) ∧ Und v hi
def RetQs (w : World) (l : List Int) (e : Ending) (w' : World) : Prop := ∃ v, e = .returned v ∧ OwnQ w' w.heap.size w'.heap.size v l ∧ Below w.heap.size w w'
section
variable {w w' : World} {lo hi lo' hi' : Nat} {v : Value} {l : List Int}
theorem OwnQ.below (h : OwnQ w lo hi v l) (hb : Below w.heap.size w w') : OwnQ w' lo hi v l := ⟨own_below h.1 hb, h.2⟩
theorem OwnQ.rng (h : OwnQ w lo hi v l) (hc : Chg (Rng lo' hi') w w') (hd : hi' ≤ lo ∨ hi ≤ lo') : OwnQ w' lo hi v l := ⟨own_rng h.1 h.2 hc hd, h.2⟩
theorem OwnQ.read (h : OwnQ w lo hi v l) (hf : ∀ x ∈ l, Fit x) : V RI 1 w w.heap.size v l := own_ints h.1 hf
end
theorem fit_allI {n : Nat} {k : Int} (h0 : 0 ≤ k) (h1 : k + n ≤ 4611686018427387904) : ∀ x ∈ allI n k, Fit x := by
  intro x hx
  obtain ⟨i, hi, rfl⟩ := List.mem_map.1 hx
  have := List.mem_range.1 hi
  unfold Fit; omega
/-! ### pairs -/
def OwnPs (w : World) (lo hi : Nat) (v : Value) (l : List (Int × Int)) : Prop := w.ownsRow lo 74 2 v l.length (prc l) ∧ Und v hi
def RetPP (w : World) (l : List (Int × Int)) (e : Ending) (w' : World) : Prop := ∃ v, e = .returned v ∧ OwnPs w' w.heap.size w'.heap.size v l ∧ Below w.heap.size w w'
section
variable {w w' : World} {lo hi lo' hi' : Nat} {v : Value} {l : List (Int × Int)}
theorem OwnPs.below (h : OwnPs w lo hi v l) (hb : Below w.heap.size w w') : OwnPs w' lo hi v l := ⟨own_below h.1 hb, h.2⟩
theorem OwnPs.rng (h : OwnPs w lo hi v l) (hc : Chg (Rng lo' hi') w w') (hd : hi' ≤ lo ∨ hi ≤ lo') : OwnPs w' lo hi v l := ⟨own_rng h.1 h.2 hc hd, h.2⟩
theorem OwnPs.read (h : OwnPs w lo hi v l) (hf : ∀ p ∈ l, Fit p.1 ∧ Fit p.2) : V RP 2 w w.heap.size v l := own_pairs h.1 hf
end
theorem fit_allP {n : Nat} {k : Int} (h0 : 0 ≤ k) (h1 : k + 2 * n ≤ 4611686018427387904) : ∀ p ∈ allP n k, Fit p.1 ∧ Fit p.2 := by
  intro x hx
  obtain ⟨i, hi, rfl⟩ := List.mem_map.1 hx
  have := List.mem_range.1 hi
  unfold Fit; simp only; omega
theorem fitPairsV {w : World} {B : Nat} {v : Value} {l : List (Int × Int)} (h : V RP 2 w B v l) : ∀ p ∈ l, Fit p.1 ∧ Fit p.2 := by
  obtain ⟨A, n, c, rfl, hs⟩ := h
  exact fitPairs hs
end Go.Proofs.Ytphbochfpidgeaa.Wk
