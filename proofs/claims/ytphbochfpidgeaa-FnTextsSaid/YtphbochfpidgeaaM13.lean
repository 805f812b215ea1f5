/-
  Marks: rows of the call's own that are written over with consecutive numbers; what turns is a range of blocks alone. No program stands here.
  Conditions: none.
-/
import Derived.Test.YtphbochfpidgeaaM9
namespace Go.Proofs.Ytphbochfpidgeaa.M
open Go Go.RowKit

/-- From w to w' only the blocks in S have turned, and none has come. -/
structure Chg (S : Nat → Prop) (w w' : World) : Prop where
  os : w'.os = w.os
  tape : w'.tape = w.tape
  output : w'.output = w.output
  size : w'.heap.size = w.heap.size
  block : ∀ b, ¬ S b → w'.heap[b]? = w.heap[b]?
section
variable {w w' w'' : World} {S S' : Nat → Prop} {lo base E sz n : Nat} {v : Value} {xs : List Value}
theorem Chg.refl (S : Nat → Prop) (w : World) : Chg S w w := ⟨rfl, rfl, rfl, rfl, fun _ _ => rfl⟩
theorem Chg.trans (h : Chg S w w') (h' : Chg S w' w'') : Chg S w w'' := ⟨h'.os.trans h.os, h'.tape.trans h.tape, h'.output.trans h.output, h'.size.trans h.size, fun b hb => (h'.block b hb).trans (h.block b hb)⟩
theorem Chg.mono (h : Chg S w w') (hS : ∀ b, S b → S' b) : Chg S' w w' := ⟨h.os, h.tape, h.output, h.size, fun b hb => h.block b fun hh => hb (hS b hh)⟩
theorem Chg.setCell (h : Chg S w w') {p : Addr} (hp : S p.block) (u : Value) : Chg S w (w'.setCell p u) :=
  ⟨h.os, h.tape, h.output, by rw [← h.size]; simp, fun b hb => (Below.heap_setCell w' p u b (by rintro rfl; exact hb hp)).trans (h.block b hb)⟩
theorem Chg.below (h : Chg S w w') (hS : ∀ b, S b → lo ≤ b) : Below lo w w' := ⟨h.os, h.tape, h.output, Nat.le_of_eq h.size.symm, fun b hb => h.block b fun hh => by have := hS b hh; omega⟩
/-- A row of the call's own in another block is as it was. -/
theorem own_chg (h : w.ownsRow base E sz v n xs) (ho : Chg S w w') (hb : ∀ g, v.ownBlock = some g → ¬ S g) : w'.ownsRow base E sz v n xs := by
  obtain ⟨h1, h2⟩ := h
  refine ⟨h1, ?_⟩
  rcases h2 with h2 | ⟨g, c, cur, a1, a2, a3, a4⟩
  · exact .inl h2
  · exact .inr ⟨g, c, cur, a1, a2, (ho.block g (hb g (by rw [a1]; rfl))).trans a3, a4⟩
theorem Row.chg {g : Nat} (h : Row w g E xs) (ho : Chg S w w') (hg : ¬ S g) : Row w' g E xs := ⟨(ho.block g hg).trans h.is⟩
theorem own_grown {w w' : World} {base E sz n : Nat} {v : Value} {xs : List Value} {row : Option Nat} (h : w.ownsRow base E sz v n xs) (hg : w.grownBy w' row) (hne : ∀ g, v.ownBlock = some g → some g ≠ row) : w'.ownsRow base E sz v n xs := by
  obtain ⟨h1, h2⟩ := h
  refine ⟨h1, ?_⟩
  rcases h2 with h2 | ⟨g, c, cur, a1, a2, a3, a4⟩
  · exact .inl h2
  · exact .inr ⟨g, c, cur, a1, a2, (hg.block g (Array.getElem?_eq_some_iff.1 a3).1 (hne g (by rw [a1]; rfl))).trans a3, a4⟩
theorem own_row_ne {w : World} {base E E' sz n g : Nat} {v : Value} {xs ys : List Value} (h : w.ownsRow base E sz v n xs) (hr : Row w g E' ys) (hne : E ≠ E') : ∀ q, v.ownBlock = some q → q ≠ g := by
  intro q hq e
  subst e
  rcases h.2 with ⟨rfl, _⟩ | ⟨g', c, cur, rfl, _, a3, _⟩
  · cases hq
  · injection hq with hq
    subst hq
    have := hr.is
    rw [show (⟨g', 0, none⟩ : Addr).block = g' from rfl] at this
    rw [a3] at this
    injection this with this
    injection this with _ this
    exact hne this
/-- An empty slice that was just made. -/
theorem own_emptyS (w : World) (e sz : Nat) : (w.alloc (.cells #[] e)).ownsRow w.heap.size e sz (.slice (some ⟨w.heap.size, 0, none⟩) 0 0) 0 [] :=
  ⟨by simp, .inr ⟨w.heap.size, 0, #[], rfl, Nat.le_refl _, heap_alloc_new w _, Nat.le_refl _, Nat.zero_le _, by simp, by simp⟩⟩
/-- A row of the call's own, its block whole. -/
theorem own_row (h : w.ownsRow base E sz v n xs) (hn : 0 < n) : ∃ g c cs, v = .slice (some ⟨g, 0, none⟩) n c ∧ base ≤ g ∧ n ≤ c ∧ c ≤ maxLen ∧ Row w g E (xs ++ cs) ∧ (xs ++ cs).length = c * sz := by
  obtain ⟨h1, h2⟩ := h
  rcases h2 with ⟨_, h0⟩ | ⟨g, c, cur, a1, a2, a3, a4, a5, a6, a7⟩
  · omega
  · refine ⟨g, c, cur.toList.drop (n * sz), a1, a2, a4, a5, ?_, ?_⟩
    · refine ⟨?_⟩
      rw [← a7, List.take_append_drop]
      simpa using a3
    · rw [← a7, List.take_append_drop]
      simpa using a6
theorem row_own {g c : Nat} {cs : List Value} (h : Row w g E (xs ++ cs)) (hx : xs.length = n * sz) (hb : base ≤ g) (hn : n ≤ c) (hm : c ≤ maxLen) (hl : (xs ++ cs).length = c * sz) : w.ownsRow base E sz (.slice (some ⟨g, 0, none⟩) n c) n xs :=
  ⟨hx, .inr ⟨g, c, (xs ++ cs).toArray, rfl, hb, h.is, hn, hm, by simpa using hl, by rw [← hx]; simp⟩⟩
end
/-! ### consecutive numbers -/
/-- The first j numbers are k, k + 1, ..; the others as they were. -/
def mkI (xs : List Int) (k : Int) (j : Nat) : List Int := ((List.range j).map fun i => k + (i : Nat)) ++ xs.drop j
theorem mkI_zero (xs : List Int) (k : Int) : mkI xs k 0 = xs := by simp [mkI]
theorem mkI_len (xs : List Int) (k : Int) {j : Nat} (h : j ≤ xs.length) : (mkI xs k j).length = xs.length := by simp [mkI]; omega
theorem mkI_set (xs : List Int) (k : Int) {j : Nat} (h : j < xs.length) : (mkI xs k j).set j (k + j) = mkI xs k (j + 1) := by
  have e : ∀ y, (xs.drop j).set 0 y = y :: xs.drop (j + 1) := fun y => by rw [List.drop_eq_getElem_cons h]; rfl
  unfold mkI
  rw [List.range_succ, List.map_append, List.set_append_right _ _ (by simp)]
  simp only [List.length_map, List.length_range, Nat.sub_self, e, List.map_cons, List.map_nil, List.append_assoc, List.cons_append, List.nil_append]
theorem mkI_at (xs : List Int) (k : Int) {i j : Nat} (h : i < j) : (mkI xs k j)[i]? = some (k + i) := by
  unfold mkI
  rw [List.getElem?_append_left (by simpa using h)]
  simp [h]
/-- The same of pairs. -/
def mkP (l : List (Int × Int)) (k : Int) (j : Nat) : List (Int × Int) := ((List.range j).map fun i => (k + 2 * (i : Nat), k + 2 * (i : Nat) + 1)) ++ l.drop j
theorem mkP_zero (l : List (Int × Int)) (k : Int) : mkP l k 0 = l := by simp [mkP]
theorem mkP_len (l : List (Int × Int)) (k : Int) {j : Nat} (h : j ≤ l.length) : (mkP l k j).length = l.length := by simp [mkP]; omega
theorem mkP_set (l : List (Int × Int)) (k : Int) {j : Nat} (h : j < l.length) : (mkP l k j).set j (k + 2 * j, k + 2 * j + 1) = mkP l k (j + 1) := by
  have e : ∀ y, (l.drop j).set 0 y = y :: l.drop (j + 1) := fun y => by rw [List.drop_eq_getElem_cons h]; rfl
  unfold mkP
  rw [List.range_succ, List.map_append, List.set_append_right _ _ (by simp)]
  simp only [List.length_map, List.length_range, Nat.sub_self, e, List.map_cons, List.map_nil, List.append_assoc, List.cons_append, List.nil_append]
theorem mkP_at (l : List (Int × Int)) (k : Int) {i j : Nat} (h : i < j) : (mkP l k j)[i]? = some (k + 2 * i, k + 2 * i + 1) := by
  unfold mkP
  rw [List.getElem?_append_left (by simpa using h)]
  simp [h]
/-- All of them. -/
def allI (n : Nat) (k : Int) : List Int := (List.range n).map fun i => k + (i : Nat)
def allP (n : Nat) (k : Int) : List (Int × Int) := (List.range n).map fun i => (k + 2 * (i : Nat), k + 2 * (i : Nat) + 1)
theorem mkI_all (xs : List Int) (k : Int) : mkI xs k xs.length = allI xs.length k := by simp [mkI, allI]
theorem mkP_all (l : List (Int × Int)) (k : Int) : mkP l k l.length = allP l.length k := by simp [mkP, allP]
theorem allI_len (n : Nat) (k : Int) : (allI n k).length = n := by simp [allI]
theorem allP_len (n : Nat) (k : Int) : (allP n k).length = n := by simp [allP]
theorem allI_at {n : Nat} {k : Int} {i : Nat} (h : i < n) : (allI n k)[i]? = some (k + i) := by simp [allI, h]
theorem allP_at {n : Nat} {k : Int} {i : Nat} (h : i < n) : (allP n k)[i]? = some (k + 2 * i, k + 2 * i + 1) := by simp [allP, h]
theorem set_app {xs cs : List Value} {i : Nat} (h : i < xs.length) (u : Value) : (xs ++ cs).set i u = xs.set i u ++ cs := List.set_append_left _ _ h
theorem prc_set_app (l : List (Int × Int)) (cs : List Value) {k : Nat} (p : Int × Int) (h : k < l.length) : (((prc l ++ cs).set (k * 2) (.int .i64 p.1)).set (k * 2 + 1) (.int .i64 p.2)) = prc (l.set k p) ++ cs := by
  have := prc_len l
  rw [set_app (by omega), set_app (by rw [List.length_set]; omega), prc_set]
theorem map_set_app (l : List Int) (cs : List Value) {k : Nat} (x : Int) (h : k < l.length) : ((l.map (Value.int .i64) ++ cs).set k (.int .i64 x)) = (l.set k x).map (Value.int .i64) ++ cs := by
  rw [set_app (by simpa using h), List.map_set]
end Go.Proofs.Ytphbochfpidgeaa.M
