/-
  A block that is known whole, and what a store, a new block or a draw does to it. No program stands here.
  Conditions: none.
-/
import Derived.Test.YtphbochfpidgeaaM3
import Derived.Deep.OwnRows
namespace Go.Proofs.Ytphbochfpidgeaa.M
open Go Go.RowKit

/-- Block g holds just the cells xs, of element type E, none of them frozen. -/
structure Row (w : World) (g : Nat) (E : TypeId) (xs : List Value) : Prop where
  is : w.heap[g]? = some (.cells xs.toArray E (0, 0))
section
variable {w w' : World} {g : Nat} {E : TypeId} {xs : List Value}
theorem Row.cell (h : Row w g E xs) (i : Nat) : w.cell? ⟨g, i, none⟩ = xs[i]? := by simp [World.cell?, h.is]
theorem Row.free (h : Row w g E xs) (i : Nat) : w.frozen? ⟨g, i, none⟩ = false := by simp [World.frozen?, h.is]
theorem Row.lt (h : Row w g E xs) : g < w.heap.size := by
  rcases Nat.lt_or_ge g w.heap.size with hlt | hge
  · exact hlt
  · have := h.is; rw [Array.getElem?_eq_none hge] at this; cases this
theorem Row.set (h : Row w g E xs) (i : Nat) (u : Value) : Row (w.setCell ⟨g, i, none⟩ u) g E (xs.set i u) := by
  refine ⟨?_⟩
  simp [World.setCell, Array.getElem?_modify, h.is]
theorem Row.far (h : Row w g E xs) {p : Addr} (hp : g ≠ p.block) (u : Value) : Row (w.setCell p u) g E xs := ⟨(Below.heap_setCell w p u g hp).trans h.is⟩
theorem Row.alloc (h : Row w g E xs) (o : Obj) : Row (w.alloc o) g E xs := ⟨(Below.heap_alloc w o g h.lt).trans h.is⟩
theorem Row.drew (h : Row w g E xs) : Row w.drew g E xs := ⟨h.is⟩
theorem Row.drewN (h : Row w g E xs) (n : Nat) : Row (w.drewN n) g E xs := ⟨h.is⟩
theorem Row.below {B : Nat} (h : Row w g E xs) (hb : Below B w w') (hg : g < B) : Row w' g E xs := ⟨(hb.block g hg).trans h.is⟩
theorem Row.grown {row : Option Nat} (h : Row w g E xs) (hb : w.grownBy w' row) (hg : some g ≠ row) : Row w' g E xs := ⟨(hb.block g h.lt hg).trans h.is⟩
theorem Row.new (w : World) (E : TypeId) (xs : List Value) : Row (w.alloc (.cells xs.toArray E)) w.heap.size E xs := ⟨heap_alloc_new w _⟩
theorem Row.made (w : World) (E : TypeId) (z : Value) (n : Nat) : Row (w.alloc (.cells (madeCells #[z] n) E)) w.heap.size E (List.replicate n z) := by
  have e : madeCells #[z] n = (List.replicate n z).toArray := by
    apply Array.ext'
    rw [toList_madeCells_one]
  rw [e]
  exact Row.new w E _
/-- 'string(out)' of such a block. -/
theorem Row.conv {P : Program} {ns : List Int} {n cap : Nat} (src dst : TypeId) (hs : P.underlying src = some (.slice E)) (he : P.underlying E = some (.int .u8)) (hd : P.underlying dst = some .string)
    (h : Row w g E (ns.map (Value.int .u8))) (hn : ns.length = n) : (convert src dst (.slice (some ⟨g, 0, none⟩) n cap)).run P w = .ok (.string (strOfNums ns)) w :=
  run_convert_bytes_arg w src E hs he g 0 n cap ns hn (fun i hi => by
    rw [Nat.zero_add, h.cell]
    have : i < ns.length := by omega
    simp [List.getD, this]) dst hd
end
theorem set_rep {r : Nat} (z x : Value) (L : List Value) : (List.replicate (r + 1) z ++ L).set r x = List.replicate r z ++ x :: L := by
  rw [List.replicate_succ', List.append_assoc, List.set_append_right _ _ (by simp)]
  simp
end Go.Proofs.Ytphbochfpidgeaa.M
