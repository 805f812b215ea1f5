/-
  Plain laws of lists: the place of an item; two lists compared place by place. No program stands here.
  Conditions: none.
-/
import Derived.Test.YtphbochfpidgeaaP4
namespace Go.Proofs.Ytphbochfpidgeaa.P
open Go.Proofs.Ytphbochfpidgeaa.M

theorem findI_at {l : List It} {id : Int} {k : Nat} {x : It} (hx : l[k]? = some x) (h : x.id = id) (hb : ∀ i y, i < k → l[i]? = some y → y.id ≠ id) : findI l id = k := by
  have : l.findIdx? (fun x => decide (x.id = id)) = some k := by
    rw [List.findIdx?_eq_some_iff_getElem]
    have hl := (List.getElem?_eq_some_iff.1 hx).1
    refine ⟨hl, ?_, fun j hj => ?_⟩
    · rw [List.getElem?_eq_getElem hl] at hx; injection hx with hx; rw [hx]; simpa using h
    · simpa using hb j _ hj (List.getElem?_eq_getElem (by omega))
  unfold findI; rw [this]
theorem findI_no {l : List It} {id : Int} (hb : ∀ i y, i < l.length → l[i]? = some y → y.id ≠ id) : findI l id = -1 := by
  have : l.findIdx? (fun x => decide (x.id = id)) = none := by
    rw [List.findIdx?_eq_none_iff]
    intro x hx
    obtain ⟨i, hi⟩ := List.getElem?_of_mem hx
    simpa using hb i x (List.getElem?_eq_some_iff.1 hi).1 hi
  unfold findI; rw [this]
theorem before_step {α : Type} {Q : α → Prop} {l : List α} {k : Nat} {x : α} (h : ∀ i y, i < k → l[i]? = some y → Q y) (hx : l[k]? = some x) (hq : Q x) : ∀ i y, i < k + 1 → l[i]? = some y → Q y := by
  intro i y hi hy
  rcases Nat.lt_or_ge i k with hlt | hge
  · exact h i y hlt hy
  · obtain rfl : i = k := by omega
    rw [hx] at hy; injection hy with hy; subst hy; exact hq
/-- The first k places agree. -/
def Agree {α : Type} (xs ys : List α) (k : Nat) : Prop := xs.take k = ys.take k
theorem agree_step {α : Type} {xs ys : List α} {k : Nat} {x : α} (h : Agree xs ys k) (hx : xs[k]? = some x) (hy : ys[k]? = some x) : Agree xs ys (k + 1) := by
  obtain ⟨l1, e1⟩ := List.getElem?_eq_some_iff.1 hx
  obtain ⟨l2, e2⟩ := List.getElem?_eq_some_iff.1 hy
  unfold Agree at *
  rw [List.take_succ_eq_append_getElem l1, List.take_succ_eq_append_getElem l2, h, e1, e2]
theorem agree_no {α : Type} {xs ys : List α} {k : Nat} {x y : α} (hx : xs[k]? = some x) (hy : ys[k]? = some y) (h : x ≠ y) : xs ≠ ys := by
  rintro rfl; rw [hx] at hy; injection hy with hy; exact h hy
theorem agree_all {α : Type} {xs ys : List α} {k n : Nat} (h : Agree xs ys k) (h1 : xs.length = n) (h2 : ys.length = n) (hk : n ≤ k) : xs = ys := by
  unfold Agree at h
  rwa [List.take_of_length_le (by omega), List.take_of_length_le (by omega)] at h
end Go.Proofs.Ytphbochfpidgeaa.P
