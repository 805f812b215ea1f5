/-
  What turns is one block alone, new blocks may come: carried by rows of the call's own and by readings. No program stands here.
  Conditions: none.
-/
import Derived.Test.YtphbochfpidgeaaM13
namespace Go.Proofs.Ytphbochfpidgeaa.M
open Go Go.RowKit

/-- From w to w' of the old blocks only p has turned. -/
structure Dr (p : Nat) (w w' : World) : Prop where
  os : w'.os = w.os
  tape : w'.tape = w.tape
  output : w'.output = w.output
  size : w.heap.size ≤ w'.heap.size
  block : ∀ b, b < w.heap.size → b ≠ p → w'.heap[b]? = w.heap[b]?
section
variable {w w' w'' : World} {p B base E sz n : Nat} {v : Value} {xs : List Value}
theorem Dr.refl (p : Nat) (w : World) : Dr p w w := ⟨rfl, rfl, rfl, Nat.le_refl _, fun _ _ _ => rfl⟩
theorem Dr.trans (h : Dr p w w') (h' : Dr p w' w'') : Dr p w w'' := ⟨h'.os.trans h.os, h'.tape.trans h.tape, h'.output.trans h.output, Nat.le_trans h.size h'.size, fun b hb hp => (h'.block b (Nat.lt_of_lt_of_le hb h.size) hp).trans (h.block b hb hp)⟩
theorem Dr.of_below (h : Below B w w') (hB : w.heap.size ≤ B) : Dr p w w' := ⟨h.os, h.tape, h.output, h.size, fun b hb _ => h.block b (Nat.lt_of_lt_of_le hb hB)⟩
theorem Dr.alloc (h : Dr p w w') (o : Obj) : Dr p w (w'.alloc o) := h.trans (Dr.of_below ((Below.refl _ _).alloc (Nat.le_refl _) o) (Nat.le_refl _))
theorem Dr.setCell (h : Dr p w w') {a : Addr} (ha : a.block = p) (u : Value) : Dr p w (w'.setCell a u) :=
  h.trans ⟨rfl, rfl, rfl, by simp, fun b _ hb => Below.heap_setCell w' a u b (by rintro rfl; exact hb ha)⟩
theorem Dr.below (h : Dr p w w') (hB : B ≤ p) (hs : B ≤ w.heap.size) : Below B w w' := ⟨h.os, h.tape, h.output, h.size, fun b hb => h.block b (by omega) (by omega)⟩
/-- A new block is written: nothing that was there turns. -/
theorem Dr.new (h : Dr p w w') {a : Addr} (ha : w.heap.size ≤ a.block) (u : Value) : Dr p w (w'.setCell a u) :=
  ⟨h.os, h.tape, h.output, by simp; exact h.size, fun b hb hp => (Below.heap_setCell w' a u b (by rintro rfl; omega)).trans (h.block b hb hp)⟩
theorem Dr.grown {row : Option Nat} (h : Dr p w w') (hg : w'.grownBy w'' row) (hr : ∀ k, row = some k → w.heap.size ≤ k) : Dr p w w'' := by
  have hb := (Below.refl w.heap.size w').grown hg h.size hr
  exact ⟨hb.os.trans h.os, hb.tape.trans h.tape, hb.output.trans h.output, Nat.le_trans h.size hb.size, fun b hb2 hp => (hb.block b hb2).trans (h.block b hb2 hp)⟩
/-- .. and the row that grew may be an old one, where only what is below is spoken of. -/
theorem Dr.from (h : Dr p w w') (h0 : Below B w'' w) : B ≤ p → B ≤ w.heap.size → Below B w'' w' := fun h1 h2 => h0.trans (h.below h1 h2)
theorem own_dr (h : w.ownsRow base E sz v n xs) (ho : Dr p w w') (hb : ∀ g, v.ownBlock = some g → g ≠ p) : w'.ownsRow base E sz v n xs := by
  obtain ⟨h1, h2⟩ := h
  refine ⟨h1, ?_⟩
  rcases h2 with h2 | ⟨g, c, cur, a1, a2, a3, a4⟩
  · exact .inl h2
  · refine .inr ⟨g, c, cur, a1, a2, (ho.block g ?_ (hb g (by rw [a1]; rfl))).trans a3, a4⟩
    rcases Nat.lt_or_ge g w.heap.size with h5 | h5
    · exact h5
    · rw [Array.getElem?_eq_none h5] at a3; cases a3
/-- A row from beyond p on. -/
theorem own_dr_past (h : w.ownsRow base E sz v n xs) (ho : Dr p w w') (hb : p < base) : w'.ownsRow base E sz v n xs := own_dr h ho fun g hg => by have := (h.lt g hg).1; omega
theorem Row.dr {g : Nat} (h : Row w g E xs) (ho : Dr p w w') (hg : g ≠ p) : Row w' g E xs := ⟨(ho.block g h.lt hg).trans h.is⟩
theorem Dr.cell {b o : Nat} {u : Value} (ho : Dr p w w') (h : w.cell? ⟨b, o, none⟩ = some u) (hb : b ≠ p) : w'.cell? ⟨b, o, none⟩ = some u := by
  rw [World.cell?_of_block (w := w) (ho.block b (World.block_lt_of_cell? w _ h) hb)]; exact h
theorem Dr.sl {α : Type} {R : Rep α} {c : Nat} {A : Option Addr} {l : List α} (ho : Dr p w w') (K : Keeps R) (h : Sl R sz w B A n c l) (h1 : B ≤ p) (h2 : B ≤ w.heap.size) : Sl R sz w' B A n c l := h.below K (ho.below h1 h2)
end
end Go.Proofs.Ytphbochfpidgeaa.M
