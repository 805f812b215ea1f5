/-
  The arguments of the laws opened: items, lists of items, pairs, wishes, nodes, as the words of M1 have them.
  Conditions: none.
-/
import Derived.Test.YtgjghpaenliliaaChecked
import Derived.Test.YtgjghpaenliliaaM2
import Derived.KernelRfl
namespace Go.Proofs.Ytgjghpaenliliaa
open Go Go.RowKit Go.ChangeShapes Go.WideShapes Go.Deep Go.Proofs.Ytgjghpaenliliaa.M

theorem cells_int : Try.prog.cellsOf 3 = 1 := by kernel_rfl
theorem cells_ints : Try.prog.cellsOf 29 = 1 := by kernel_rfl
section
variable {H : Type} {enc : TypeId × Value → H} {W : World} {b0 : Nat} {v : Value} {d : DataW H} {p : List MemPlace}
set_option maxRecDepth 100000 in
theorem trod_slice_V {α : Type} {R : Rep α} {sz t e : Nat} (ht : Try.prog.underlying t = some (.slice e)) (hce : Try.prog.cellsOf e = sz) (hsz : 0 < sz)
    (op : ∀ fuel cs x, DataW.trod enc Try.prog W 0 (fun _ => true) true fuel e cs = some x → ∃ a, R W W.heap.size a cs)
    (hv : Value.okWide Try.prog W .any b0 t v) (h : DataW.Trod enc Try.prog W 0 (fun _ => true) true t v d p) : ∃ l, V R sz W W.heap.size v l := by
  obtain ⟨a, n, c, rfl⟩ := okWide_slice ht hv
  obtain ⟨fuel, hf⟩ := h
  exact slice_open ht hce hsz op (v := .slice a n c) (show DataW.trod enc Try.prog W 0 (fun _ => true) true fuel t [.slice a n c] = some (d, p) from hf)
theorem cells_item : Try.prog.cellsOf 31 = 2 := by kernel_rfl
set_option maxRecDepth 100000 in
theorem opI {fuel : Nat} {cs : List Value} {x : DataW H × List MemPlace} (h : DataW.trod enc Try.prog W 0 (fun _ => true) true fuel 31 cs = some x) : ∃ a, RIt W W.heap.size a cs :=
  op_item Try.underlying31 Try.underlying3 Try.underlying29 cells_item cells_int cells_ints rfl rfl rfl rfl h
/-- An item by value. -/
def ItemV (w : World) (v : Value) (x : It) : Prop := ∃ A n c, v = .agg #[.int .i64 x.id, .slice A n c] ∧ Fit x.id ∧ Sl RI 1 w w.heap.size A n c x.vals
set_option maxRecDepth 100000 in
theorem open_item (hv : Value.okWide Try.prog W .any b0 31 v) (h : DataW.Trod enc Try.prog W 0 (fun _ => true) true 31 v d p) : ∃ l, ItemV W v l := by
  obtain ⟨cs, rfl, hsz⟩ := okWide_struct Try.underlying31 hv
  obtain ⟨fuel, hf⟩ := h
  obtain ⟨a, u, hcs, hfit, A, n, c, rfl, hs⟩ := opI (show DataW.trod enc Try.prog W 0 (fun _ => true) true fuel 31 cs.toList = some (d, p) from hf)
  refine ⟨a, A, n, c, ?_, hfit, hs⟩
  obtain ⟨l⟩ := cs
  simp at hcs
  rw [hcs]
theorem cells_pair : Try.prog.cellsOf 109 = 2 := by kernel_rfl
theorem cells_pairs : Try.prog.cellsOf 45 = 1 := by kernel_rfl
set_option maxRecDepth 100000 in
theorem opP {fuel : Nat} {cs : List Value} {x : DataW H × List MemPlace} (h : DataW.trod enc Try.prog W 0 (fun _ => true) true fuel 109 cs = some x) : ∃ a, RP W W.heap.size a cs :=
  op_pair Try.underlying109 Try.underlying3 cells_pair cells_int rfl rfl rfl rfl h
set_option maxRecDepth 100000 in
theorem open_pairs (hv : Value.okWide Try.prog W .any b0 45 v) (h : DataW.Trod enc Try.prog W 0 (fun _ => true) true 45 v d p) : ∃ l, V RP 2 W W.heap.size v l :=
  trod_slice_V Try.underlying45 cells_pair (by omega) (fun _ _ _ hh => opP hh) hv h
theorem cells_wish : Try.prog.cellsOf 47 = 5 := by kernel_rfl
set_option maxRecDepth 100000 in
theorem opW {fuel : Nat} {cs : List Value} {x : DataW H × List MemPlace} (h : DataW.trod enc Try.prog W 0 (fun _ => true) true fuel 47 cs = some x) : ∃ a, RW W W.heap.size a cs :=
  op_wish Try.underlying47 Try.underlying3 Try.underlying29 Try.underlying45 Try.underlying109 cells_wish cells_int cells_ints cells_pair cells_pairs rfl rfl rfl rfl rfl rfl rfl rfl rfl rfl rfl rfl rfl rfl h
end
end Go.Proofs.Ytgjghpaenliliaa
