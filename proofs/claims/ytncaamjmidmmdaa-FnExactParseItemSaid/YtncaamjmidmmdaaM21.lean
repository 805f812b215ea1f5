/-
  What turns is a range of blocks, new blocks may come. No program stands here.
  Conditions: none.
-/
import Derived.Test.YtncaamjmidmmdaaM13
namespace Go.Proofs.Ytncaamjmidmmdaa.M
open Go Go.RowKit

/-- From w to w' of the old blocks only those from lo on below hi have turned. -/
structure Mk (lo hi : Nat) (w w' : World) : Prop where
  os : w'.os = w.os
  tape : w'.tape = w.tape
  output : w'.output = w.output
  size : w.heap.size ≤ w'.heap.size
  block : ∀ b, b < w.heap.size → ¬ (lo ≤ b ∧ b < hi) → w'.heap[b]? = w.heap[b]?
section
variable {w w' w'' : World} {lo hi B base E sz n : Nat} {v : Value} {xs : List Value}
theorem Mk.refl (lo hi : Nat) (w : World) : Mk lo hi w w := ⟨rfl, rfl, rfl, Nat.le_refl _, fun _ _ _ => rfl⟩
theorem Mk.trans (h : Mk lo hi w w') (h' : Mk lo hi w' w'') : Mk lo hi w w'' := ⟨h'.os.trans h.os, h'.tape.trans h.tape, h'.output.trans h.output, Nat.le_trans h.size h'.size, fun b hb hp => (h'.block b (Nat.lt_of_lt_of_le hb h.size) hp).trans (h.block b hb hp)⟩
theorem Mk.of_below (h : Below B w w') (hB : w.heap.size ≤ B) : Mk lo hi w w' := ⟨h.os, h.tape, h.output, h.size, fun b hb _ => h.block b (Nat.lt_of_lt_of_le hb hB)⟩
theorem Mk.of_chg {S : Nat → Prop} (h : Chg S w w') (hS : ∀ b, S b → lo ≤ b ∧ b < hi) : Mk lo hi w w' := ⟨h.os, h.tape, h.output, Nat.le_of_eq h.size.symm, fun b _ hn => h.block b fun hb => hn (hS b hb)⟩
theorem Mk.below (h : Mk lo hi w w') (hB : B ≤ lo) (hs : B ≤ w.heap.size) : Below B w w' := ⟨h.os, h.tape, h.output, h.size, fun b hb => h.block b (by omega) (by omega)⟩
theorem Row.mkd {g : Nat} (h : Row w g E xs) (ho : Mk lo hi w w') (hg : g < lo ∨ hi ≤ g) : Row w' g E xs := ⟨(ho.block g h.lt (by omega)).trans h.is⟩
end
end Go.Proofs.Ytncaamjmidmmdaa.M
