/-
  A wish as an argument, opened.
  Conditions: none.
-/
import Derived.Test.YtgjghpaenliliaaO1
namespace Go.Proofs.Ytgjghpaenliliaa
open Go Go.RowKit Go.ChangeShapes Go.WideShapes Go.Deep Go.Proofs.Ytgjghpaenliliaa.M

/-- A wish by value. -/
def WishV (w : World) (v : Value) (x : Wi) : Prop := ∃ A n c E m d, v = .agg #[.int .i64 x.kind, .int .i64 x.field, .int .i64 x.value, .slice A n c, .slice E m d] ∧ Fit x.kind ∧ Fit x.field ∧ Fit x.value ∧ Sl RI 1 w w.heap.size A n c x.list ∧ Sl RP 2 w w.heap.size E m d x.pairs
set_option maxRecDepth 100000 in
theorem open_wish {H : Type} {enc : TypeId × Value → H} {W : World} {b0 : Nat} {v : Value} {d : DataW H} {p : List MemPlace} (hv : Value.okWide Try.prog W .any b0 47 v) (h : DataW.Trod enc Try.prog W 0 (fun _ => true) true 47 v d p) : ∃ l, WishV W v l := by
  obtain ⟨cs, rfl, hsz⟩ := Go.WideShapes.okWide_struct Try.underlying47 hv
  obtain ⟨fuel, hf⟩ := h
  obtain ⟨a, u, u', hcs, h1, h2, h3, ⟨A, n, c, rfl, hs⟩, ⟨E, m, d, rfl, ht⟩⟩ := opW (show DataW.trod enc Try.prog W 0 (fun _ => true) true fuel 47 cs.toList = some (_, p) from hf)
  refine ⟨a, A, n, c, E, m, d, ?_, h1, h2, h3, hs, ht⟩
  obtain ⟨l⟩ := cs
  simp at hcs
  rw [hcs]
end Go.Proofs.Ytgjghpaenliliaa
