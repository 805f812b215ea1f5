/-
  The arguments of the laws opened: bytes.
  Conditions: none.
-/
import Derived.Test.YtapehlgafalkjaaO1
namespace Go.Proofs.Ytapehlgafalkjaa
open Go Go.RowKit Go.ChangeShapes Go.WideShapes Go.Deep Go.Proofs.Ytapehlgafalkjaa.M

theorem cells_byte : Try.prog.cellsOf 5 = 1 := by kernel_rfl
section
variable {H : Type} {enc : TypeId × Value → H} {W : World} {b0 : Nat} {v : Value} {d : DataW H} {p : List MemPlace}
theorem op_byte {P : Program} {w : World} {base : Nat} {spare : Nat → Bool} {held : Bool} {e : TypeId} (he : P.underlying e = some (.int .u8)) {fuel : Nat} {cs : List Value} {x : DataW H × List MemPlace} (h : DataW.trod enc P w base spare held fuel e cs = some x) : ∃ a, RB w w.heap.size a cs := by
  obtain ⟨n, hcs, _, hw⟩ := DataW.trod_int he h
  simp [Lit.wf, IntKind.min, IntKind.max, IntKind.signed, IntKind.bits] at hw
  refine ⟨UInt8.ofNat n.toNat, ?_⟩
  show cs = [.int .u8 ((UInt8.ofNat n.toNat).toNat : Int)]
  have e : ((UInt8.ofNat n.toNat).toNat : Int) = n := by
    rw [UInt8.toNat_ofNat']
    omega
  rw [e]; exact hcs
set_option maxRecDepth 100000 in
theorem open_bytes (hv : Value.okWide Try.prog W .any b0 37 v) (h : DataW.Trod enc Try.prog W 0 (fun _ => true) true 37 v d p) : ∃ l, V RB 1 W W.heap.size v l :=
  trod_slice_V Try.underlying37 cells_byte (by omega) (fun _ _ _ hh => op_byte Try.underlying5 hh) hv h
end
end Go.Proofs.Ytapehlgafalkjaa
