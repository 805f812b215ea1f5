/-
  Rows of the call's own that grow by an element; rows of texts. No program stands here.
  Conditions: none.
-/
import Derived.Test.YtphbochfpidgeaaM7
import Derived.Deep.AppendLies
namespace Go.Proofs.Ytphbochfpidgeaa.M
open Go Go.RowKit

section
variable {w wr w1 w' : World} {base E sz n : Nat} {v : Value} {xs : List Value}
theorem own_below (h : w.ownsRow base E sz v n xs) (hb : Below w.heap.size w w') : w'.ownsRow base E sz v n xs := by
  refine h.kept (row := none) ⟨hb.os, hb.tape, hb.output, hb.size, fun q hq _ => hb.block q hq⟩ ?_
  cases v.ownBlock <;> simp
theorem app_below {o : Obj} (hb : Below w.heap.size w wr) (h : wr.ownsRow w.heap.size E sz v n xs) (hg : (wr.alloc o).grownBy w1 v.ownBlock) : Below w.heap.size w w1 :=
  (hb.alloc hb.size _).grown hg (by have := hb.size; simp; omega) (fun k hk => (h.lt k hk).1)
end
theorem take_map_snoc {α : Type} {f : α → Value} {l : List α} {k : Nat} {x : α} (hx : l[k]? = some x) : (l.take k).map f ++ [f x] = (l.take (k + 1)).map f := by
  obtain ⟨hl, e⟩ := List.getElem?_eq_some_iff.1 hx
  rw [List.take_succ_eq_append_getElem hl, List.map_append, e]; rfl
theorem flat_s (xs : List ByteArray) : (xs.map fun x => [Value.string x]).flatten = xs.map Value.string := by
  induction xs with
  | nil => rfl
  | cons a t ih => rw [List.map_cons, List.flatten_cons, ih]; rfl
theorem own_strs {w : World} {base E : Nat} {v : Value} {xs : List ByteArray} (h : w.ownsRow base E 1 v xs.length (xs.map Value.string)) (hf : ∀ x ∈ xs, x.size ≤ maxLen) : V RS 1 w w.heap.size v xs := by
  have e := flat_s xs
  refine own_V (css := xs.map fun x => [Value.string x]) (by rw [e]; exact h) (by simp) (fun i x cs hx hc => ?_)
  rw [List.getElem?_map, hx] at hc
  simp at hc
  subst hc
  exact ⟨rfl, rfl, hf x (List.mem_of_getElem? hx)⟩
/-- Text k of a slice of texts. -/
theorem Sl.str {w : World} {B n c k : Nat} {A : Option Addr} {xs : List ByteArray} (h : Sl RS 1 w B A n c xs) (hk : k < n) : ∃ b o x, A = some ⟨b, o, none⟩ ∧ b < B ∧ xs[k]? = some x ∧ x.size ≤ maxLen ∧ w.cell? ⟨b, o + k, none⟩ = some (.string x) := by
  obtain ⟨b, o, x, cs, e, hlt, hx, _, ⟨rfl, hf⟩, hc⟩ := h.get hk
  have := hc 0 (.string x) rfl
  exact ⟨b, o, x, e, hlt, hx, hf, by simpa using this⟩
end Go.Proofs.Ytphbochfpidgeaa.M
