/-
  Plain laws of heights. No program stands here.
  Conditions: none.
-/
import Derived.Test.YtmglapndpcfafaaP10
namespace Go.Proofs.Ytmglapndpcfafaa.P
set_option linter.unusedVariables false

/-- The greatest number of pairs that lead down to a value, at most f of them. -/
def hgt (l : List (Int × Int)) : Nat → Int → Int
  | 0, _ => 0
  | f + 1, v => l.foldl (fun a p => if p.2 = v then max a (hgt l f p.1 + 1) else a) 0
/-- .. of the first k pairs. -/
def hgtK (l : List (Int × Int)) (f : Nat) (v : Int) (k : Nat) : Int := (l.take k).foldl (fun a p => if p.2 = v then max a (hgt l f p.1 + 1) else a) 0
theorem hgtK_all {l : List (Int × Int)} {f : Nat} {v : Int} {k : Nat} (h : l.length ≤ k) : hgtK l f v k = hgt l (f + 1) v := by
  unfold hgtK; rw [List.take_of_length_le h]; rfl
theorem hgtK_zero (l : List (Int × Int)) (f : Nat) (v : Int) : hgtK l f v 0 = 0 := by simp [hgtK]
theorem hgtK_yes {l : List (Int × Int)} {f : Nat} {v : Int} {k : Nat} {p : Int × Int} (hp : l[k]? = some p) (h : p.2 = v) : hgtK l f v (k + 1) = max (hgtK l f v k) (hgt l f p.1 + 1) := by
  obtain ⟨hl, e⟩ := List.getElem?_eq_some_iff.1 hp
  unfold hgtK
  rw [List.take_succ_eq_append_getElem hl, e, List.foldl_append]
  simp [h]
theorem hgtK_no {l : List (Int × Int)} {f : Nat} {v : Int} {k : Nat} {p : Int × Int} (hp : l[k]? = some p) (h : p.2 ≠ v) : hgtK l f v (k + 1) = hgtK l f v k := by
  obtain ⟨hl, e⟩ := List.getElem?_eq_some_iff.1 hp
  unfold hgtK
  rw [List.take_succ_eq_append_getElem hl, e, List.foldl_append]
  simp [h]
theorem fold_bd {l : List (Int × Int)} {g : Int → Int} {v c : Int} (hg : ∀ x, 0 ≤ g x ∧ g x ≤ c) : ∀ (m : List (Int × Int)) (a : Int), 0 ≤ a → a ≤ c + 1 →
    0 ≤ m.foldl (fun a p => if p.2 = v then max a (g p.1 + 1) else a) a ∧ m.foldl (fun a p => if p.2 = v then max a (g p.1 + 1) else a) a ≤ c + 1 := by
  intro m
  induction m with
  | nil => intro a h1 h2; exact ⟨h1, h2⟩
  | cons p t ih =>
    intro a h1 h2
    rw [List.foldl_cons]
    have := hg p.1
    split
    · exact ih _ (by omega) (by omega)
    · exact ih _ h1 h2
theorem hgt_bd (l : List (Int × Int)) : ∀ (f : Nat) (v : Int), 0 ≤ hgt l f v ∧ hgt l f v ≤ f
  | 0, v => by simp [hgt]
  | f + 1, v => by
    have := fold_bd (l := l) (g := hgt l f) (v := v) (c := f) (hgt_bd l f) l 0 (by omega) (by omega)
    rw [hgt]; omega
theorem hgtK_bd (l : List (Int × Int)) (f : Nat) (v : Int) (k : Nat) : 0 ≤ hgtK l f v k ∧ hgtK l f v k ≤ f + 1 :=
  fold_bd (l := l) (g := hgt l f) (v := v) (c := f) (hgt_bd l f) (l.take k) 0 (by omega) (by omega)
theorem count_lt {α : Type} {p q : α → Bool} (h : ∀ x, p x = true → q x = true) : ∀ (l : List α) (x : α), x ∈ l → q x = true → p x = false → (l.filter p).length < (l.filter q).length := by
  have le : ∀ l : List α, (l.filter p).length ≤ (l.filter q).length := by
    intro l
    induction l with
    | nil => simp
    | cons a t ih =>
      rw [List.filter_cons, List.filter_cons]
      cases hp : p a with
      | true => simp only [h a hp, if_true, List.length_cons]; omega
      | false =>
        simp only [Bool.false_eq_true, if_false]
        split
        · simp only [List.length_cons]; omega
        · exact ih
  intro l
  induction l with
  | nil => intro x hx; simp at hx
  | cons a t ih =>
    intro x hx hq hp
    rw [List.filter_cons, List.filter_cons]
    rcases List.mem_cons.1 hx with rfl | hx
    · simp only [hp, hq, if_true, Bool.false_eq_true, if_false, List.length_cons]
      have := le t; omega
    · have := ih x hx hq hp
      cases hpa : p a with
      | true => simp only [h a hpa, if_true, List.length_cons]; omega
      | false =>
        simp only [Bool.false_eq_true, if_false]
        split
        · simp only [List.length_cons]; omega
        · exact this
/-- How many values are above v. -/
noncomputable def rnk (l : List (Int × Int)) (v : Int) : Nat := ((List.range 10).filter fun u => abv l (u : Nat) v).length
theorem rnk_le (l : List (Int × Int)) (v : Int) : rnk l v ≤ 10 := by
  unfold rnk
  have := List.length_filter_le (fun u : Nat => abv l u v) (List.range 10)
  simpa using this
theorem rnk_lt {l : List (Int × Int)} (h : okP l = true) {p : Int × Int} (hp : p ∈ l) : rnk l p.1 < rnk l p.2 := by
  have hb := (inP_mem (okP_in h) hp).1
  have hp' : Path l p.1 p.2 := .one hp
  unfold rnk
  refine count_lt (fun u hu => abv_iff.2 (.two (abv_iff.1 hu) hp')) _ p.1.toNat (by simp; omega) ?_ ?_
  · show abv l (p.1.toNat : Nat) p.2 = true
    rw [show ((p.1.toNat : Nat) : Int) = p.1 by omega]; exact abv_iff.2 hp'
  · show abv l (p.1.toNat : Nat) p.1 = false
    rw [show ((p.1.toNat : Nat) : Int) = p.1 by omega]; exact okP_irr h p.1
end Go.Proofs.Ytmglapndpcfafaa.P
