/-
  Walks of chapter 1: LEB128.
  Conditions: none beyond the bounds that each states.
-/
import Derived.Test.YtphbochfpidgeaaW2
import Derived.Test.YtphbochfpidgeaaM3
namespace Go.Proofs.Ytphbochfpidgeaa.Wk
open Go.RowKit
set_option linter.unusedVariables false

theorem info_u8 : (Try.prog.info? 5).map (fun i => (i.zero, i.size, i.bytes)) = some (some (.int .u8 0), 1, 1) := by kernel_rfl
/-- What EncodeVarint writes. -/
def evS (n : Int) : ByteArray := if P.inR n 0 562949953421311 then strOfNums (P.uv n.toNat) else ⟨#[]⟩
theorem uv_step {w wr w1 : World} {m N : Nat} {acc : List Int} {v v' : Value} {o : Obj} {x : Int} (hm : 127 < m) (hacc : Hid (acc ++ P.uv m = P.uv N)) (hown : wr.ownsRow w.heap.size 5 1 v acc.length (acc.map (Value.int .u8)))
    (hbw : Below w.heap.size w wr) (hown' : w1.ownsRow w.heap.size 5 1 v' (acc.length + 1) (acc.map (Value.int .u8) ++ [.int .u8 x])) (hg : (wr.alloc o).grownBy w1 v.ownBlock) (hx : x = ((128 + m % 128 : Nat) : Int)) :
    Hid ((acc ++ [((128 + m % 128 : Nat) : Int)]) ++ P.uv (m / 128) = P.uv N) ∧ w1.ownsRow w.heap.size 5 1 v' (acc ++ [((128 + m % 128 : Nat) : Int)]).length ((acc ++ [((128 + m % 128 : Nat) : Int)]).map (Value.int .u8)) ∧ Below w.heap.size w w1 := by
  subst hx
  refine ⟨?_, by simpa using hown', (hbw.alloc hbw.size _).grown hg (by have := hbw.size; simp; omega) (fun k hk => (hown.lt k hk).1)⟩
  have := hacc.out
  rw [P.uv_big (by omega)] at this
  show _ = _
  rw [List.append_assoc]; exact this
theorem uv_last {w wr w1 : World} {m N : Nat} {acc : List Int} {v v' : Value} {o : Obj} {x : Int} (hm : m < 128) (hacc : Hid (acc ++ P.uv m = P.uv N)) (hown : wr.ownsRow w.heap.size 5 1 v acc.length (acc.map (Value.int .u8)))
    (hbw : Below w.heap.size w wr) (hown' : w1.ownsRow w.heap.size 5 1 v' (acc.length + 1) (acc.map (Value.int .u8) ++ [.int .u8 x])) (hg : (wr.alloc o).grownBy w1 v.ownBlock) (hx : x = (m : Int)) :
    w1.ownsRow w.heap.size 5 1 v' (acc.length + 1) ((P.uv N).map (Value.int .u8)) ∧ Below w.heap.size w w1 := by
  subst hx
  refine ⟨?_, (hbw.alloc hbw.size _).grown hg (by have := hbw.size; simp; omega) (fun k hk => (hown.lt k hk).1)⟩
  rw [← hacc.out, P.uv_small hm]
  simpa using hown'
end Go.Proofs.Ytphbochfpidgeaa.Wk
