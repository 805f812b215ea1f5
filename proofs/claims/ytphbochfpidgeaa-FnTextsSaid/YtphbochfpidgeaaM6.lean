/-
  Lists of items as the call lays them: cells in pairs. No program stands here.
  Conditions: none.
-/
import Derived.Test.YtphbochfpidgeaaM5
namespace Go.Proofs.Ytphbochfpidgeaa.M
open Go Go.RowKit

/-- The cells of a list of items: an id, a slice value. -/
def itc (ps : List (Int × Value)) : List Value := ps.flatMap fun p => [.int .i64 p.1, p.2]
theorem itc_len (ps : List (Int × Value)) : (itc ps).length = ps.length * 2 := by
  induction ps with
  | nil => rfl
  | cons a t ih => simp only [itc, List.flatMap_cons, List.length_append, List.length_cons, List.length_nil] at ih ⊢; omega
theorem itc_set (ps : List (Int × Value)) : ∀ (k : Nat) (p : Int × Value), ((itc ps).set (k * 2) (.int .i64 p.1)).set (k * 2 + 1) p.2 = itc (ps.set k p) := by
  induction ps with
  | nil => intro k p; simp [itc]
  | cons a t ih =>
    intro k p
    cases k with
    | zero => simp [itc]
    | succ k =>
      have := ih k p
      simp only [itc, List.flatMap_cons, List.set_cons_succ] at this ⊢
      rw [show (k + 1) * 2 = k * 2 + 1 + 1 by omega, List.cons_append, List.cons_append, List.nil_append, List.set_cons_succ, List.set_cons_succ, List.set_cons_succ, List.set_cons_succ, this]
      rfl
theorem itc_at (ps : List (Int × Value)) : ∀ (k : Nat) (p : Int × Value), ps[k]? = some p → (itc ps)[k * 2]? = some (.int .i64 p.1) ∧ (itc ps)[k * 2 + 1]? = some p.2 := by
  induction ps with
  | nil => intro k p h; simp at h
  | cons a t ih =>
    intro k p h
    cases k with
    | zero => simp at h; subst h; simp [itc]
    | succ k =>
      obtain ⟨h1, h2⟩ := ih k p (by simpa using h)
      simp only [itc, List.flatMap_cons] at h1 h2 ⊢
      rw [show (k + 1) * 2 = k * 2 + 1 + 1 by omega, List.cons_append, List.cons_append, List.nil_append, List.getElem?_cons_succ, List.getElem?_cons_succ, List.getElem?_cons_succ, List.getElem?_cons_succ]
      exact ⟨h1, h2⟩
/-- Of several slice values no two share a block. -/
def Apart (vs : List Value) : Prop := ∀ (i j : Nat) (a b : Value), i < j → vs[i]? = some a → vs[j]? = some b → a.ownBlock = none ∨ a.ownBlock ≠ b.ownBlock
/-- Rows of numbers, one behind the other, each in a block of its own from lo on. -/
def OwnRows (w : World) (lo : Nat) (E : TypeId) (l : List It) (ps : List (Int × Value)) : Prop :=
  ps.length = l.length ∧ (∀ (i : Nat) (x : It), l[i]? = some x → ∃ u, ps[i]? = some (x.id, u) ∧ w.ownsRow lo E 1 u x.vals.length (x.vals.map (Value.int .i64))) ∧ Apart (ps.map (·.2))
/-- A list of items that the call laid: the outer row, and the rows of its items, all apart. -/
def OwnIts (w : World) (lo : Nat) (EI E : TypeId) (v : Value) (l : List It) : Prop :=
  ∃ ps, OwnRows w (lo + 1) E l ps ∧ w.ownsRow lo EI 2 v l.length (itc ps) ∧ (∀ u ∈ ps.map (·.2), u.ownBlock = none ∨ u.ownBlock ≠ v.ownBlock)
theorem OwnRows.snoc {w w' : World} {lo : Nat} {E : TypeId} {l : List It} {ps : List (Int × Value)} {k : Nat} {x : It} {u : Value}
    (h : OwnRows w lo E (l.take k) ps) (hx : l[k]? = some x) (hb : Below w.heap.size w w') (hu : w'.ownsRow w.heap.size E 1 u x.vals.length (x.vals.map (Value.int .i64))) (hlo : lo ≤ w.heap.size) :
    OwnRows w' lo E (l.take (k + 1)) (ps ++ [(x.id, u)]) := by
  obtain ⟨h1, h2, h3⟩ := h
  have hl := (List.getElem?_eq_some_iff.1 hx).1
  have hk : (l.take k).length = k := by simp; omega
  have old : ∀ (i : Nat) (y : It) (v : Value), w.ownsRow lo E 1 v y.vals.length (y.vals.map (Value.int .i64)) → w'.ownsRow lo E 1 v y.vals.length (y.vals.map (Value.int .i64)) := by
    intro i y v ho
    refine ho.kept (row := none) ⟨hb.os, hb.tape, hb.output, hb.size, fun q hq _ => hb.block q hq⟩ ?_
    cases v.ownBlock <;> simp
  refine ⟨by simp [h1]; omega, fun i y hy => ?_, fun i j a b hij ha hb' => ?_⟩
  · by_cases hi : i < k
    · rw [List.getElem?_take, if_pos (by omega)] at hy
      obtain ⟨v, e, ho⟩ := h2 i y (by rw [List.getElem?_take, if_pos hi]; exact hy)
      exact ⟨v, by rw [List.getElem?_append_left (by omega)]; exact e, old i y v ho⟩
    · have hik : i = k := by
        have := (List.getElem?_eq_some_iff.1 hy).1
        simp at this; omega
      subst hik
      rw [List.getElem?_take, if_pos (by omega), hx] at hy
      injection hy with hy
      subst hy
      exact ⟨u, by rw [List.getElem?_append_right (by omega), h1, hk]; simp, own_mono hu hlo⟩
  · rw [List.map_append] at ha hb'
    have hml : (ps.map (·.2)).length = k := by simp; omega
    by_cases hj : j < k
    · rw [List.getElem?_append_left (by omega)] at ha hb'
      exact h3 i j a b hij ha hb'
    · rw [List.getElem?_append_right (by omega)] at hb'
      have hjk : j = k := by
        have := (List.getElem?_eq_some_iff.1 hb').1
        simp at this; omega
      subst hjk
      rw [hml] at hb'
      simp at hb'
      subst hb'
      rw [List.getElem?_append_left (by omega), List.getElem?_map] at ha
      cases hp : ps[i]? with
      | none => rw [hp] at ha; simp at ha
      | some p =>
        rw [hp] at ha
        simp at ha
        subst ha
        have hil : i < j := hij
        obtain ⟨v, e, ho⟩ := h2 i (l[i]'(by omega)) (by rw [List.getElem?_take, if_pos hil, List.getElem?_eq_getElem])
        rw [hp] at e
        injection e with e
        subst e
        cases hv : v.ownBlock with
        | none => exact .inl rfl
        | some g =>
          refine .inr fun hh => ?_
          have g1 := (ho.lt g hv).2
          have g2 := (hu.lt g hh.symm).1
          omega
theorem OwnRows.far {w : World} {lo : Nat} {E : TypeId} {l : List It} {ps : List (Int × Value)} (h : OwnRows w lo E l ps) {a : Addr} (ha : a.block < lo) (u : Value) : OwnRows (w.setCell a u) lo E l ps := by
  obtain ⟨h1, h2, h3⟩ := h
  refine ⟨h1, fun i x hx => ?_, h3⟩
  obtain ⟨v, e, ho⟩ := h2 i x hx
  exact ⟨v, e, ownsRow_setCell_below ho ha u⟩
theorem set_at {α : Type} (ps : List α) (z x : α) (m : Nat) : (ps ++ List.replicate (m + 1) z).set ps.length x = (ps ++ [x]) ++ List.replicate m z := by
  rw [List.set_append_right _ _ (Nat.le_refl _), Nat.sub_self, List.replicate_succ, List.set_cons_zero, List.append_assoc]; rfl
/-- A list of items that the call laid reads as the list. -/
theorem OwnIts.read {w : World} {lo : Nat} {EI E : TypeId} {v : Value} {l : List It} (h : OwnIts w lo EI E v l) (hf : ∀ x ∈ l, Fit x.id ∧ ∀ y ∈ x.vals, Fit y) : V RIt 2 w w.heap.size v l := by
  obtain ⟨ps, ⟨h1, h2, _⟩, ho, _⟩ := h
  have e : (ps.map fun p => [Value.int .i64 p.1, p.2]).flatten = itc ps := by unfold itc; rw [List.flatMap_def]
  refine own_V (css := ps.map fun p => [Value.int .i64 p.1, p.2]) (by rw [e]; exact ho) (by simp [h1]) (fun i x cs hx hc => ?_)
  obtain ⟨u, hu, hr⟩ := h2 i x hx
  rw [List.getElem?_map, hu] at hc
  simp at hc
  subst hc
  obtain ⟨f1, f2⟩ := hf x (List.mem_of_getElem? hx)
  exact ⟨rfl, u, rfl, f1, own_ints hr f2⟩
end Go.Proofs.Ytphbochfpidgeaa.M
