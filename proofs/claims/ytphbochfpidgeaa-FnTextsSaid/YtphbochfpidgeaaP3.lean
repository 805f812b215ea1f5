/-
  Plain functions: pairs of values, what is above what. No program stands here.
  Conditions: none.
-/
import Derived.Test.YtphbochfpidgeaaP1
namespace Go.Proofs.Ytphbochfpidgeaa.P

/-- One or more pairs lead from a down to b. -/
inductive Path (l : List (Int × Int)) : Int → Int → Prop
  | one {a b : Int} : (a, b) ∈ l → Path l a b
  | two {a b c : Int} : Path l a b → Path l b c → Path l a c
/-- .. and every value between is less than k. -/
inductive PathLt (l : List (Int × Int)) (k : Int) : Int → Int → Prop
  | one {a b : Int} : (a, b) ∈ l → PathLt l k a b
  | two {a b c : Int} : PathLt l k a b → b < k → PathLt l k b c → PathLt l k a c
theorem PathLt.path {l : List (Int × Int)} {k a b : Int} (h : PathLt l k a b) : Path l a b := by
  induction h with
  | one h => exact .one h
  | two _ _ _ h1 h2 => exact .two h1 h2
theorem PathLt.step {l : List (Int × Int)} {k a b : Int} (h : PathLt l (k + 1) a b) : PathLt l k a b ∨ (PathLt l k a k ∧ PathLt l k k b) := by
  induction h with
  | one h => exact .inl (.one h)
  | @two a b c _ hk _ h1 h2 =>
    by_cases e : b = k
    · subst e
      refine .inr ⟨?_, ?_⟩
      · rcases h1 with h | ⟨h, _⟩ <;> exact h
      · rcases h2 with h | ⟨_, h⟩ <;> exact h
    · have hb : b < k := by omega
      rcases h1 with h1 | ⟨h1, h1'⟩ <;> rcases h2 with h2 | ⟨h2, h2'⟩
      · exact .inl (.two h1 hb h2)
      · exact .inr ⟨.two h1 hb h2, h2'⟩
      · exact .inr ⟨h1, .two h1' hb h2⟩
      · exact .inr ⟨h1, h2'⟩
/-- All values of the pairs lie between 0 and 9. -/
def inP (l : List (Int × Int)) : Bool := l.all fun p => inR p.1 0 9 && inR p.2 0 9
theorem inP_mem {l : List (Int × Int)} (h : inP l = true) {p : Int × Int} (hp : p ∈ l) : (0 ≤ p.1 ∧ p.1 ≤ 9) ∧ (0 ≤ p.2 ∧ p.2 ≤ 9) := by
  have := List.all_eq_true.1 h p hp
  simp only [Bool.and_eq_true] at this
  exact ⟨inR_t this.1, inR_t this.2⟩
theorem Path.bd {l : List (Int × Int)} (h : inP l = true) {a b : Int} (p : Path l a b) : (0 ≤ a ∧ a ≤ 9) ∧ (0 ≤ b ∧ b ≤ 9) := by
  induction p with
  | one hm => exact inP_mem h hm
  | two _ _ h1 h2 => exact ⟨h1.1, h2.2⟩
theorem Path.lt {l : List (Int × Int)} (h : inP l = true) {a b : Int} (p : Path l a b) : PathLt l 10 a b := by
  induction p with
  | one hm => exact .one hm
  | @two a b c p1 p2 h1 h2 => exact .two h1 (by have := (p1.bd h).2; omega) h2
open Classical in
/-- Is a above b? -/
noncomputable def abv (l : List (Int × Int)) (a b : Int) : Bool := decide (Path l a b)
theorem abv_iff {l : List (Int × Int)} {a b : Int} : abv l a b = true ↔ Path l a b := by simp [abv]
theorem abv_trans {l : List (Int × Int)} {a b c : Int} (h1 : abv l a b = true) (h2 : abv l b c = true) : abv l a c = true :=
  abv_iff.2 (.two (abv_iff.1 h1) (abv_iff.1 h2))
/-- Valid pairs. -/
noncomputable def okP (l : List (Int × Int)) : Bool := inP l && decide (l.length ≤ 8) && (List.range 10).all fun v => !abv l v v
theorem okP_in {l : List (Int × Int)} (h : okP l = true) : inP l = true := by simp only [okP, Bool.and_eq_true] at h; exact h.1.1
theorem okP_len {l : List (Int × Int)} (h : okP l = true) : l.length ≤ 8 := by simp only [okP, Bool.and_eq_true, decide_eq_true_eq] at h; exact h.1.2
theorem okP_irr {l : List (Int × Int)} (h : okP l = true) (a : Int) : abv l a a = false := by
  cases e : abv l a a with
  | false => rfl
  | true =>
    have hb := (Path.bd (okP_in h) (abv_iff.1 e)).1
    simp only [okP, Bool.and_eq_true] at h
    have := List.all_eq_true.1 h.2 a.toNat (by simp; omega)
    rw [show ((a.toNat : Nat) : Int) = a by omega, e] at this
    simp at this
theorem okP_asym {l : List (Int × Int)} (h : okP l = true) {a b : Int} (h1 : abv l a b = true) : abv l b a = false := by
  cases e : abv l b a with
  | false => rfl
  | true => have := okP_irr h a; rw [abv_trans h1 e] at this; cases this
end Go.Proofs.Ytphbochfpidgeaa.P
