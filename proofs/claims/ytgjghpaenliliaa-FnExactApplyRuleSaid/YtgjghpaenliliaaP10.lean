/-
  Plain laws of the table of what is above what. No program stands here.
  Conditions: none.
-/
import Derived.Test.YtgjghpaenliliaaP9
namespace Go.Proofs.Ytgjghpaenliliaa.P
set_option linter.unusedVariables false

open Classical in
/-- Is a above b by way of values less than k? -/
noncomputable def pl (l : List (Int × Int)) (k : Nat) (a b : Nat) : Bool := decide (PathLt l (k : Int) (a : Int) (b : Int))
theorem pl_iff {l : List (Int × Int)} {k a b : Nat} : pl l k a b = true ↔ PathLt l k a b := by simp [pl]
theorem PathLt.mono {l : List (Int × Int)} {k k' a b : Int} (h : PathLt l k a b) (hk : k ≤ k') : PathLt l k' a b := by
  induction h with
  | one h => exact .one h
  | two _ hb _ h1 h2 => exact .two h1 (by omega) h2
theorem pl_step {l : List (Int × Int)} {k a b : Nat} : pl l (k + 1) a b = (pl l k a b || (pl l k a k && pl l k k b)) := by
  rw [Bool.eq_iff_iff]
  simp only [Bool.or_eq_true, Bool.and_eq_true, pl_iff]
  constructor
  · intro h
    have := PathLt.step (k := (k : Int)) (by simpa using h)
    exact this
  · rintro (h | ⟨h1, h2⟩)
    · exact h.mono (by omega)
    · exact .two (h1.mono (by omega)) (by omega) (h2.mono (by omega))
theorem pl_to {l : List (Int × Int)} {k a : Nat} : pl l (k + 1) a k = pl l k a k := by
  rw [pl_step]; cases pl l k a k <;> simp
theorem pl_from {l : List (Int × Int)} {k b : Nat} : pl l (k + 1) k b = pl l k k b := by
  rw [pl_step]; cases pl l k k b <;> simp
theorem pl_zero {l : List (Int × Int)} (h : inP l = true) {a b : Nat} : pl l 0 a b = decide (((a : Int), (b : Int)) ∈ l) := by
  rw [Bool.eq_iff_iff, pl_iff, decide_eq_true_iff]
  constructor
  · intro hp
    cases hp with
    | one hm => exact hm
    | @two _ b' _ h1 hb h2 =>
      have := (Path.bd h h1.path).2
      simp at hb; omega
  · exact fun hm => .one hm
theorem pl_ten {l : List (Int × Int)} (h : inP l = true) {a b : Nat} : pl l 10 a b = abv l a b := by
  rw [Bool.eq_iff_iff, pl_iff, abv_iff]
  exact ⟨fun hp => hp.path, fun hp => Path.lt h hp⟩
/-- The table in the midst of a round. -/
noncomputable def fw (l : List (Int × Int)) (k i j x y : Nat) : Bool := if x < i ∨ (x = i ∧ y < j) then pl l (k + 1) x y else pl l k x y
/-- The table is as it should be. -/
def FW (l : List (Int × Int)) (k i j : Nat) (M : Nat → Nat → Bool) : Prop := ∀ x y, x < 10 → y < 10 → M x y = fw l k i j x y
def upd (M : Nat → Nat → Bool) (i j : Nat) (v : Bool) : Nat → Nat → Bool := fun x y => if x = i ∧ y = j then v else M x y
theorem FW.at_to {l : List (Int × Int)} {k i j : Nat} {M : Nat → Nat → Bool} (h : FW l k i j M) (hi : i < 10) (hk : k < 10) : M i k = pl l k i k := by
  rw [h i k hi hk]; unfold fw; split
  · exact pl_to
  · rfl
theorem FW.at_from {l : List (Int × Int)} {k i j : Nat} {M : Nat → Nat → Bool} (h : FW l k i j M) (hj : j < 10) (hk : k < 10) : M k j = pl l k k j := by
  rw [h k j hk hj]; unfold fw; split
  · exact pl_from
  · rfl
theorem FW.at_self {l : List (Int × Int)} {k i j : Nat} {M : Nat → Nat → Bool} (h : FW l k i j M) (hi : i < 10) (hj : j < 10) : M i j = pl l k i j := by
  rw [h i j hi hj]; unfold fw; rw [if_neg (by omega)]
theorem FW.step {l : List (Int × Int)} {k i j : Nat} {M : Nat → Nat → Bool} (h : FW l k i j M) (hi : i < 10) (hj : j < 10) (hk : k < 10) {v : Bool} (hv : v = (M i j || (M i k && M k j))) : FW l k i (j + 1) (upd M i j v) := by
  intro x y hx hy
  unfold upd
  by_cases e : x = i ∧ y = j
  · rw [if_pos e, hv, h.at_to hi hk, h.at_from hj hk, h.at_self hi hj]
    obtain ⟨rfl, rfl⟩ := e
    unfold fw
    rw [if_pos (by omega), pl_step]
  · rw [if_neg e, h x y hx hy]
    unfold fw
    by_cases c : x < i ∨ (x = i ∧ y < j)
    · rw [if_pos c, if_pos (by omega)]
    · rw [if_neg c, if_neg (by omega)]
theorem FW.row {l : List (Int × Int)} {k i : Nat} {M : Nat → Nat → Bool} (h : FW l k i 10 M) : FW l k (i + 1) 0 M := by
  intro x y hx hy
  rw [h x y hx hy]
  unfold fw
  by_cases c : x < i ∨ (x = i ∧ y < 10)
  · rw [if_pos c, if_pos (by omega)]
  · rw [if_neg c, if_neg (by omega)]
theorem FW.round {l : List (Int × Int)} {k j : Nat} {M : Nat → Nat → Bool} (h : FW l k 10 j M) : FW l (k + 1) 0 0 M := by
  intro x y hx hy
  rw [h x y hx hy]
  unfold fw
  rw [if_pos (by omega), if_neg (by omega)]
theorem FW.first {l : List (Int × Int)} (hin : inP l = true) {M : Nat → Nat → Bool} (h : ∀ x y, x < 10 → y < 10 → M x y = decide (((x : Int), (y : Int)) ∈ l)) : FW l 0 0 0 M := by
  intro x y hx hy
  rw [h x y hx hy, ← pl_zero hin]
  unfold fw
  rw [if_neg (by omega)]
theorem FW.last {l : List (Int × Int)} (hin : inP l = true) {M : Nat → Nat → Bool} (h : FW l 10 0 0 M) : ∀ x y, x < 10 → y < 10 → M x y = abv l x y := by
  intro x y hx hy
  rw [h x y hx hy, ← pl_ten hin]
  unfold fw
  rw [if_neg (by omega)]
/-- The first k pairs are entered. -/
def Ent (l : List (Int × Int)) (k : Nat) (M : Nat → Nat → Bool) : Prop := ∀ x y, x < 10 → y < 10 → M x y = decide (((x : Int), (y : Int)) ∈ l.take k)
theorem Ent.init (l : List (Int × Int)) : Ent l 0 (fun _ _ => false) := by intro x y _ _; simp
theorem Ent.step {l : List (Int × Int)} {k i j : Nat} {M : Nat → Nat → Bool} (h : Ent l k M) (hp : l[k]? = some ((i : Int), (j : Int))) : Ent l (k + 1) (upd M i j true) := by
  intro x y hx hy
  obtain ⟨hl, e⟩ := List.getElem?_eq_some_iff.1 hp
  rw [List.take_succ_eq_append_getElem hl, e]
  unfold upd
  by_cases c : x = i ∧ y = j
  · rw [if_pos c]; obtain ⟨rfl, rfl⟩ := c; simp
  · rw [if_neg c, h x y hx hy]
    have : ((x : Int), (y : Int)) ≠ ((i : Int), (j : Int)) := by
      intro e; injection e with e1 e2; exact c ⟨by omega, by omega⟩
    simp [this]
theorem Ent.done {l : List (Int × Int)} {k : Nat} {M : Nat → Nat → Bool} (h : Ent l k M) (hin : inP l = true) (hk : l.length ≤ k) : FW l 0 0 0 M := by
  refine FW.first hin fun x y hx hy => ?_
  rw [h x y hx hy, List.take_of_length_le hk]
end Go.Proofs.Ytgjghpaenliliaa.P
