/-
  The arguments of the laws opened: items, lists of items, pairs, wishes, nodes, as the words of M1 have them.
  Conditions: none.
-/
import Derived.Test.YtphbochfpidgeaaChecked
import Derived.Test.YtphbochfpidgeaaM2
import Derived.KernelRfl
namespace Go.Proofs.Ytphbochfpidgeaa
open Go Go.RowKit Go.ChangeShapes Go.WideShapes Go.Deep Go.Proofs.Ytphbochfpidgeaa.M

theorem cells_int : Try.prog.cellsOf 3 = 1 := by kernel_rfl
theorem cells_ints : Try.prog.cellsOf 24 = 1 := by kernel_rfl
section
variable {H : Type} {enc : TypeId × Value → H} {W : World} {b0 : Nat} {v : Value} {d : DataW H} {p : List MemPlace}
set_option maxRecDepth 100000 in
theorem trod_slice_V {α : Type} {R : Rep α} {sz t e : Nat} (ht : Try.prog.underlying t = some (.slice e)) (hce : Try.prog.cellsOf e = sz) (hsz : 0 < sz)
    (op : ∀ fuel cs x, DataW.trod enc Try.prog W 0 (fun _ => true) true fuel e cs = some x → ∃ a, R W W.heap.size a cs)
    (hv : Value.okWide Try.prog W .any b0 t v) (h : DataW.Trod enc Try.prog W 0 (fun _ => true) true t v d p) : ∃ l, V R sz W W.heap.size v l := by
  obtain ⟨a, n, c, rfl⟩ := okWide_slice ht hv
  obtain ⟨fuel, hf⟩ := h
  exact slice_open ht hce hsz op (v := .slice a n c) (show DataW.trod enc Try.prog W 0 (fun _ => true) true fuel t [.slice a n c] = some (d, p) from hf)
end
end Go.Proofs.Ytphbochfpidgeaa
