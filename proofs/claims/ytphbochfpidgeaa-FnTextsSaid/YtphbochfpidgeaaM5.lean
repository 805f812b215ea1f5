/-
  Rows of the call's own, read as lists; a row filled from the front. No program stands here.
  Conditions: none.
-/
import Derived.Test.YtphbochfpidgeaaM4
namespace Go.Proofs.Ytphbochfpidgeaa.M
open Go Go.RowKit

theorem set_fill {α : Type} (f : α → Value) (z : Value) (xs : List α) (k n : Nat) (x : α) (hn : xs.length = n) (hk : k < n) (hx : xs[k]? = some x) :
    ((xs.take k).map f ++ List.replicate (n - k) z).set k (f x) = (xs.take (k + 1)).map f ++ List.replicate (n - (k + 1)) z := by
  have e : (xs.take (k + 1)).map f = (xs.take k).map f ++ [f x] := by
    have hl : k < xs.length := by omega
    rw [List.take_succ_eq_append_getElem hl, List.map_append]
    rw [List.getElem?_eq_getElem hl] at hx
    injection hx with hx
    rw [hx]; rfl
  rw [e, show n - k = (n - (k + 1)) + 1 by omega, List.replicate_succ, List.append_assoc, List.set_append_right _ _ (by simp; omega)]
  have : k - (List.map f (List.take k xs)).length = 0 := by simp; omega
  rw [this]; rfl
section
variable {w : World} {base : Nat} {E : TypeId} {v : Value} {n : Nat} {xs : List Int}
/-- A whole block as a row of the call's own. -/
theorem Row.own {g : Nat} {cs : List Value} {sz m : Nat} (h : Row w g E cs) (hb : base ≤ g) (hl : cs.length = m * sz) (hm : m ≤ maxLen) : w.ownsRow base E sz (.slice (some ⟨g, 0, none⟩) m m) m cs :=
  ⟨hl, .inr ⟨g, m, cs.toArray, rfl, hb, h.is, Nat.le_refl _, hm, by simpa using hl, List.take_of_length_le (by simp; omega)⟩⟩
theorem own_cell {sz : Nat} {cs : List Value} (h : w.ownsRow base E sz v n cs) (h0 : 0 < n) : ∃ g c, v = .slice (some ⟨g, 0, none⟩) n c ∧ base ≤ g ∧ g < w.heap.size ∧ n ≤ c ∧ c ≤ maxLen ∧ ∀ j u, cs[j]? = some u → w.cell? ⟨g, 0 + j, none⟩ = some u := by
  rcases h.2 with ⟨_, h'⟩ | ⟨g, c, cur, rfl, hb, hh, hn, hm, _, _⟩
  · omega
  · refine ⟨g, c, rfl, hb, (h.lt g rfl).2, hn, hm, fun j u hu => ?_⟩
    have := h.cells (g := g) rfl j u hu
    have e : (⟨g, 0, none⟩ : Addr).add j = ⟨g, 0 + j, none⟩ := by by_cases h0 : j = 0 <;> simp [Addr.add, h0]
    rwa [e] at this
theorem own_form {sz : Nat} {cs : List Value} (h : w.ownsRow base E sz v n cs) : ∃ A c, v = .slice A n c ∧ n ≤ c ∧ c ≤ maxLen := by
  rcases h.2 with ⟨rfl, rfl⟩ | ⟨g, c, cur, rfl, _, _, hn, hm, _⟩
  · exact ⟨none, 0, rfl, Nat.le_refl _, Nat.zero_le _⟩
  · exact ⟨_, c, rfl, hn, hm⟩
/-- A row of the call's own, in which each element's cells are told by R, reads as a list. -/
theorem own_V {α : Type} {R : Rep α} {sz : Nat} {l : List α} {css : List (List Value)} (h : w.ownsRow base E sz v l.length css.flatten) (hl : css.length = l.length)
    (hR : ∀ (i : Nat) (x : α) (cs : List Value), l[i]? = some x → css[i]? = some cs → cs.length = sz ∧ R w w.heap.size x cs) : V R sz w w.heap.size v l := by
  obtain ⟨A, c, e, h1, h2⟩ := own_form h
  refine ⟨A, l.length, c, e, rfl, h1, h2, fun h0 => ?_⟩
  obtain ⟨g, c', e', _, hlt, _, _, hc⟩ := own_cell h h0
  rw [e] at e'
  injection e' with e' _ _
  refine ⟨g, 0, e', hlt, fun i x hx => ?_⟩
  have hi : i < css.length := by have := (List.getElem?_eq_some_iff.1 hx).1; omega
  obtain ⟨g1, g2⟩ := hR i x css[i] hx (List.getElem?_eq_getElem hi)
  refine ⟨css[i], g1, g2, fun j u hu => hc _ u ?_⟩
  have hj : j < sz := by have := (List.getElem?_eq_some_iff.1 hu).1; omega
  have key : ∀ (L : List (List Value)) (i : Nat) (c : List Value), (∀ (k : Nat) (c' : List Value), L[k]? = some c' → c'.length = sz) → L[i]? = some c → L.flatten[i * sz + j]? = c[j]? := by
    intro L
    induction L with
    | nil => intro i c _ h; simp at h
    | cons a t ih =>
      intro i c hall h
      have ha : a.length = sz := hall 0 a (by simp)
      cases i with
      | zero =>
        simp at h; subst h
        rw [Nat.zero_mul, Nat.zero_add, List.flatten_cons, List.getElem?_append_left (by omega)]
      | succ i =>
        rw [List.getElem?_cons_succ] at h
        rw [List.flatten_cons, List.getElem?_append_right (by rw [ha, Nat.add_mul]; omega), ha, Nat.add_mul, show i * sz + 1 * sz + j - sz = i * sz + j by omega]
        exact ih i c (fun k c' hk => hall (k + 1) c' (by simpa using hk)) h
  rw [key css i css[i] (fun k c' hk => by
    have hkl : k < l.length := by have := (List.getElem?_eq_some_iff.1 hk).1; omega
    exact (hR k l[k] c' (List.getElem?_eq_getElem hkl) hk).1) (List.getElem?_eq_getElem hi)]
  exact hu
/-- .. of numbers. -/
theorem flat_one (xs : List Int) : (xs.map fun x => [Value.int .i64 x]).flatten = xs.map (Value.int .i64) := by
  induction xs with
  | nil => rfl
  | cons a t ih => rw [List.map_cons, List.flatten_cons, ih]; rfl
theorem own_ints (h : w.ownsRow base E 1 v xs.length (xs.map (Value.int .i64))) (hf : ∀ x ∈ xs, Fit x) : V RI 1 w w.heap.size v xs := by
  have e := flat_one xs
  refine own_V (css := xs.map fun x => [Value.int .i64 x]) (by rw [e]; exact h) (by simp) (fun i x cs hx hc => ?_)
  rw [List.getElem?_map, hx] at hc
  simp at hc
  subst hc
  exact ⟨rfl, rfl, hf x (List.mem_of_getElem? hx)⟩
end
section
variable {α : Type} {R : Rep α} {sz : Nat} {w w' : World} {B n c k : Nat} {A : Option Addr} {l : List α}
theorem V.fit {xs : List Int} {v : Value} (h : V RI 1 w B v xs) : ∀ x ∈ xs, Fit x := by
  obtain ⟨A, n, c, rfl, hs⟩ := h
  intro x hx
  obtain ⟨i, hi⟩ := List.getElem?_of_mem hx
  have hin : i < n := by have := (List.getElem?_eq_some_iff.1 hi).1; have := hs.len; omega
  obtain ⟨b, o, e, _, hc⟩ := hs.at_ (by omega)
  obtain ⟨cs, _, hr, _⟩ := hc i x hi
  exact hr.2
/-- Number k of a slice of numbers. -/
theorem Sl.int {xs : List Int} (h : Sl RI 1 w B A n c xs) (hk : k < n) : ∃ b o x, A = some ⟨b, o, none⟩ ∧ b < B ∧ xs[k]? = some x ∧ Fit x ∧ w.cell? ⟨b, o + k, none⟩ = some (.int .i64 x) := by
  obtain ⟨b, o, x, cs, e, hlt, hx, _, ⟨rfl, hf⟩, hc⟩ := h.get hk
  have := hc 0 (.int .i64 x) rfl
  exact ⟨b, o, x, e, hlt, hx, hf, by simpa using this⟩
end
theorem own_mono {w : World} {b b' E sz n : Nat} {v : Value} {cs : List Value} (h : w.ownsRow b E sz v n cs) (hb : b' ≤ b) : w.ownsRow b' E sz v n cs := by
  obtain ⟨h1, h2⟩ := h
  refine ⟨h1, ?_⟩
  rcases h2 with h2 | ⟨g, c, cur, a1, a2, a3⟩
  · exact .inl h2
  · exact .inr ⟨g, c, cur, a1, by omega, a3⟩
theorem Sl.at_world {α : Type} {R : Rep α} {sz B n c : Nat} {w w' : World} {A : Option Addr} {l : List α} (K : Keeps R) (h : Sl R sz w B A n c l) (hb : Below B w w') (hB : B ≤ w'.heap.size) : Sl R sz w' w'.heap.size A n c l :=
  (h.below K hb).more K hB
end Go.Proofs.Ytphbochfpidgeaa.M
