/-
  A list of nodes as an argument, opened.
  Conditions: none.
-/
import Derived.Test.YteinbnjkiebfaaaO2
namespace Go.Proofs.Yteinbnjkiebfaaa
open Go Go.RowKit Go.ChangeShapes Go.WideShapes Go.Deep Go.Proofs.Yteinbnjkiebfaaa.M

theorem op_node {H : Type} {enc : TypeId × Value → H} {W : World} {P : Program} {e ti tw : TypeId} {f0 f1 : Field} (hs : P.underlying e = some (.struct #[f0, f1])) (hi : P.underlying ti = some (.int .i64)) (hC : P.cellsOf e = 6) (hci : P.cellsOf ti = 1) (hcw : P.cellsOf tw = 5)
    (t0 : f0.type = ti) (t1 : f1.type = tw) (o0 : f0.offset = 0) (o1 : f1.offset = 1) (opw : ∀ fuel cs (x : DataW H × List MemPlace), DataW.trod enc P W 0 (fun _ => true) true fuel tw cs = some x → ∃ a, RW W W.heap.size a cs)
    {fuel : Nat} {cs : List Value} {x : DataW H × List MemPlace} (h : DataW.trod enc P W 0 (fun _ => true) true fuel e cs = some x) : ∃ a, RN W W.heap.size a cs := by
  obtain ⟨xs, n, _, _, hcl, hxl, hg⟩ := DataW.trod_struct hs h
  obtain ⟨y0, h0⟩ := field_at hxl hg 0 f0 rfl
  obtain ⟨y1, h1⟩ := field_at hxl hg 1 f1 rfl
  rw [hC] at hcl
  rw [t0, o0, hci] at h0
  rw [t1, o1, hcw] at h1
  match cs, hcl with
  | c0 :: rest, hcl =>
    have hr : rest.length = 5 := by simpa using hcl
    obtain ⟨a, e0, _, w0⟩ := DataW.trod_int hi h0
    have e1 : ((c0 :: rest).drop 1).take 5 = rest := by rw [List.drop_one, List.tail_cons]; exact List.take_of_length_le (Nat.le_of_eq hr)
    rw [e1] at h1
    obtain ⟨b, hb⟩ := opw _ _ _ h1
    simp at e0
    subst e0
    exact ⟨⟨a, b⟩, rest, rfl, fit_wf w0, hb⟩
theorem cells_node : Try.prog.cellsOf 46 = 6 := by kernel_rfl
set_option maxRecDepth 100000 in
theorem opN {H : Type} {enc : TypeId × Value → H} {W : World} {fuel : Nat} {cs : List Value} {x : DataW H × List MemPlace} (h : DataW.trod enc Try.prog W 0 (fun _ => true) true fuel 46 cs = some x) : ∃ a, RN W W.heap.size a cs :=
  op_node Try.underlying46 Try.underlying3 cells_node cells_int cells_wish rfl rfl rfl rfl (fun _ _ _ hh => opW hh) h
set_option maxRecDepth 100000 in
theorem open_nodes {H : Type} {enc : TypeId × Value → H} {W : World} {b0 : Nat} {v : Value} {d : DataW H} {p : List MemPlace} (hv : Value.okWide Try.prog W .any b0 22 v) (h : DataW.Trod enc Try.prog W 0 (fun _ => true) true 22 v d p) : ∃ l, V RN 6 W W.heap.size v l :=
  trod_slice_V Try.underlying22 cells_node (by omega) (fun _ _ _ hh => opN hh) hv h
end Go.Proofs.Yteinbnjkiebfaaa
