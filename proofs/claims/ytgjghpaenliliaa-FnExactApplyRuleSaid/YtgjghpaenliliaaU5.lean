/-
  Lists of numbers and of pairs that a call laid, between two block numbers: carried on, marked, read.
  Conditions: none beyond the bounds that each states.
-/
import Derived.Test.YtgjghpaenliliaaU4
import Derived.Test.YtgjghpaenliliaaW12
import Derived.Test.YtgjghpaenliliaaW30
namespace Go.Proofs.Ytgjghpaenliliaa.Wk
open Go.RowKit Go.Proofs.Ytgjghpaenliliaa.M
set_option linter.unusedVariables false

/-- The blocks from lo on below hi. -/
abbrev Rng (lo hi : Nat) : Nat → Prop := fun b => lo ≤ b ∧ b < hi
/-- Its block, if it has one, is below hi. -/
abbrev Und (v : Value) (hi : Nat) : Prop := ∀ g, v.ownBlock = some g → g < hi
theorem below_chg {w w' : World} {lo hi lo' : Nat} (h : Chg (Rng lo hi) w w') (hl : lo' ≤ lo) : Below lo' w w' := h.below fun b hb => by have := hb.1; omega
section
variable {w w' : World} {lo hi lo' hi' E sz n : Nat} {v : Value} {xs : List Value}
theorem own_rng (h : w.ownsRow lo E sz v n xs) (hu : Und v hi) (hc : Chg (Rng lo' hi') w w') (hd : hi' ≤ lo ∨ hi ≤ lo') : w'.ownsRow lo E sz v n xs :=
  own_chg h hc fun g hg hh => by
    have h1 := (h.lt g hg).1
    have h2 := hu g hg
    omega
theorem own_und (h : w.ownsRow lo E sz v n xs) : Und v w.heap.size := fun g hg => (h.lt g hg).2
theorem blk_rng (h : w.ownsRow lo E sz v n xs) (hu : Und v hi) (hc : Chg (BlkOf v) w w') : Chg (Rng lo hi) w w' := hc.mono fun b hb => ⟨(h.lt b hb).1, hu b hb⟩
end
theorem V_on {α : Type} {R : Rep α} {sz : Nat} {w w' : World} {v : Value} {l : List α} (K : Keeps R) (h : V R sz w w.heap.size v l) (hb : Below w.heap.size w w') : V R sz w' w'.heap.size v l := (h.below K hb).more K hb.size
/-! ### numbers -/
def OwnQ (w : World) (lo hi : Nat) (v : Value) (l : List Int) : Prop := w.ownsRow lo 3 1 v l.length (l.map (Value.int .i64)) ∧ Und v hi
def RetQs (w : World) (l : List Int) (e : Ending) (w' : World) : Prop := ∃ v, e = .returned v ∧ OwnQ w' w.heap.size w'.heap.size v l ∧ Below w.heap.size w w'
section
variable {w w' : World} {lo hi lo' hi' : Nat} {v : Value} {l : List Int}
theorem OwnQ.below (h : OwnQ w lo hi v l) (hb : Below w.heap.size w w') : OwnQ w' lo hi v l := ⟨own_below h.1 hb, h.2⟩
theorem OwnQ.rng (h : OwnQ w lo hi v l) (hc : Chg (Rng lo' hi') w w') (hd : hi' ≤ lo ∨ hi ≤ lo') : OwnQ w' lo hi v l := ⟨own_rng h.1 h.2 hc hd, h.2⟩
theorem OwnQ.read (h : OwnQ w lo hi v l) (hf : ∀ x ∈ l, Fit x) : V RI 1 w w.heap.size v l := own_ints h.1 hf
end
theorem fit_allI {n : Nat} {k : Int} (h0 : 0 ≤ k) (h1 : k + n ≤ 4611686018427387904) : ∀ x ∈ allI n k, Fit x := by
  intro x hx
  obtain ⟨i, hi, rfl⟩ := List.mem_map.1 hx
  have := List.mem_range.1 hi
  unfold Fit; omega
theorem mark_ints {lo hi : Nat} {v : Value} {l : List Int} {k : Int} (w : World) (h : OwnQ w lo hi v l) (h0 : 0 ≤ k) (h1 : k + l.length ≤ 4611686018427387904) :
    Calls Try.prog 46 #[v, .int .i64 k] w fun e w' => e = .returned (.int .i64 (k + l.length)) ∧ OwnQ w' lo hi v (allI l.length k) ∧ Chg (Rng lo hi) w w' :=
  (markIntS w h.1 h0 h1).mono fun e w' ⟨he, ho, hc⟩ => ⟨he, ⟨by rw [allI_len]; exact ho, h.2⟩, blk_rng h.1 h.2 hc⟩
theorem held_ints {lo hi m : Nat} {v : Value} {k : Int} (w : World) (h : OwnQ w lo hi v (allI m k)) (h0 : 0 ≤ k) (h1 : k + m ≤ 4611686018427387904) :
    Calls Try.prog 48 #[v, .int .i64 k] w fun e w' => e = .returned (.int .i64 (k + m)) ∧ w = w' := by
  obtain ⟨A, n, c, rfl, hs⟩ := h.read (fit_allI h0 h1)
  obtain rfl : m = n := by have := hs.len; rwa [allI_len] at this
  exact heldIntS w hs h0 h1
theorem eqO_ints {lo hi B : Nat} {v u : Value} {l : List Int} (w : World) (h : OwnQ w lo hi v l) (hf : ∀ x ∈ l, Fit x) (h' : V RI 1 w B u l) (hB : B ≤ w.heap.size) :
    Calls Try.prog 38 #[v, u] w fun e w' => e = .returned (.bool true) ∧ Below w.heap.size w w' := by
  obtain ⟨A, n, c, rfl, hs⟩ := h.read hf
  obtain ⟨A', n', c', rfl, hs'⟩ := h'
  exact (eqIntS w hs hs').mono fun e w' hh => by
    obtain ⟨he, hb⟩ := hh.below
    exact ⟨by rw [he]; simp, hb⟩
theorem eq_ints {A A' : Option Addr} {n n' c c' : Nat} {xs : List Int} (w : World) (h : Sl RI 1 w w.heap.size A n c xs) {B : Nat} (h' : Sl RI 1 w B A' n' c' xs) :
    Calls Try.prog 38 #[.slice A n c, .slice A' n' c'] w fun e w' => e = .returned (.bool true) ∧ Below w.heap.size w w' :=
  (eqIntS w h h').mono fun e w' hh => by
    obtain ⟨he, hb⟩ := hh.below
    exact ⟨by rw [he]; simp, hb⟩
/-! ### pairs -/
def OwnPs (w : World) (lo hi : Nat) (v : Value) (l : List (Int × Int)) : Prop := w.ownsRow lo 92 2 v l.length (prc l) ∧ Und v hi
def RetPP (w : World) (l : List (Int × Int)) (e : Ending) (w' : World) : Prop := ∃ v, e = .returned v ∧ OwnPs w' w.heap.size w'.heap.size v l ∧ Below w.heap.size w w'
section
variable {w w' : World} {lo hi lo' hi' : Nat} {v : Value} {l : List (Int × Int)}
theorem OwnPs.below (h : OwnPs w lo hi v l) (hb : Below w.heap.size w w') : OwnPs w' lo hi v l := ⟨own_below h.1 hb, h.2⟩
theorem OwnPs.rng (h : OwnPs w lo hi v l) (hc : Chg (Rng lo' hi') w w') (hd : hi' ≤ lo ∨ hi ≤ lo') : OwnPs w' lo hi v l := ⟨own_rng h.1 h.2 hc hd, h.2⟩
theorem OwnPs.read (h : OwnPs w lo hi v l) (hf : ∀ p ∈ l, Fit p.1 ∧ Fit p.2) : V RP 2 w w.heap.size v l := own_pairs h.1 hf
end
theorem fit_allP {n : Nat} {k : Int} (h0 : 0 ≤ k) (h1 : k + 2 * n ≤ 4611686018427387904) : ∀ p ∈ allP n k, Fit p.1 ∧ Fit p.2 := by
  intro x hx
  obtain ⟨i, hi, rfl⟩ := List.mem_map.1 hx
  have := List.mem_range.1 hi
  unfold Fit; simp only; omega
theorem mark_pairs {lo hi : Nat} {v : Value} {l : List (Int × Int)} {k : Int} (w : World) (h : OwnPs w lo hi v l) (h0 : 0 ≤ k) (h1 : k + 2 * l.length ≤ 4611686018427387904) :
    Calls Try.prog 47 #[v, .int .i64 k] w fun e w' => e = .returned (.int .i64 (k + 2 * l.length)) ∧ OwnPs w' lo hi v (allP l.length k) ∧ Chg (Rng lo hi) w w' :=
  (markPairS w h.1 h0 h1).mono fun e w' ⟨he, ho, hc⟩ => ⟨he, ⟨by rw [allP_len]; exact ho, h.2⟩, blk_rng h.1 h.2 hc⟩
theorem held_pairs {lo hi m : Nat} {v : Value} {k : Int} (w : World) (h : OwnPs w lo hi v (allP m k)) (h0 : 0 ≤ k) (h1 : k + 2 * m ≤ 4611686018427387904) :
    Calls Try.prog 49 #[v, .int .i64 k] w fun e w' => e = .returned (.int .i64 (k + 2 * m)) ∧ w = w' := by
  obtain ⟨A, n, c, rfl, hs⟩ := h.read (fit_allP h0 h1)
  obtain rfl : m = n := by have := hs.len; rwa [allP_len] at this
  exact heldPairS w hs h0 h1
theorem eqO_pairs {lo hi B : Nat} {v u : Value} {l : List (Int × Int)} (w : World) (h : OwnPs w lo hi v l) (hf : ∀ p ∈ l, Fit p.1 ∧ Fit p.2) (h' : V RP 2 w B u l) (hB : B ≤ w.heap.size) :
    Calls Try.prog 92 #[v, u] w fun e w' => e = .returned (.bool true) ∧ Below w.heap.size w w' := by
  obtain ⟨A, n, c, rfl, hs⟩ := h.read hf
  obtain ⟨A', n', c', rfl, hs'⟩ := h'
  exact eq_pairs w hs (hs'.more RP.keeps hB)
theorem fitPairsV {w : World} {B : Nat} {v : Value} {l : List (Int × Int)} (h : V RP 2 w B v l) : ∀ p ∈ l, Fit p.1 ∧ Fit p.2 := by
  obtain ⟨A, n, c, rfl, hs⟩ := h
  exact fitPairs hs
theorem toO_pairs {v : Value} {l : List (Int × Int)} (w : World) (h : V RP 2 w w.heap.size v l) (ht : l.length ≤ 1048576) : Calls Try.prog 88 #[v] w (RetPP w l) := by
  obtain ⟨A, n, c, rfl, hs⟩ := h
  exact (toPairS w hs ht).mono fun e w' ⟨v, he, ho, hb⟩ => ⟨v, he, ⟨ho, own_und ho⟩, hb⟩
theorem szV_pairs {v : Value} {l : List (Int × Int)} {left : Int} (w : World) (h : V RP 2 w w.heap.size v l) (h0 : 0 ≤ left) (h1 : left ≤ 1048576) :
    Calls Try.prog 85 #[v, .int .i64 left] w fun e w' => e = .returned (.int .i64 (less left l.length)) ∧ Below w.heap.size w w' := by
  obtain ⟨A, n, c, rfl, hs⟩ := h
  exact sz_pairs w hs h0 h1
end Go.Proofs.Ytgjghpaenliliaa.Wk
