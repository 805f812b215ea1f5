/-
  Walks of chapter 1: FormatInt of the program: digits collected, then turned round in place.
  Conditions: none beyond the bounds that each states.
-/
import Derived.Test.YtejpfjknlckffaaW7
import Derived.Test.YtejpfjknlckffaaP5
import Derived.Deep.AppendLies
namespace Go.Proofs.Ytejpfjknlckffaa.Wk
open Go.RowKit
set_option linter.unusedVariables false

theorem fmt_step {w wr w1 : World} {acc : List Int} {v v' : Value} {o : Obj} {x y : Int} (hown : wr.ownsRow w.heap.size 5 1 v acc.length (acc.map (Value.int .u8)))
    (hbw : Below w.heap.size w wr) (hown' : w1.ownsRow w.heap.size 5 1 v' (acc.length + 1) (acc.map (Value.int .u8) ++ [.int .u8 x])) (hg : (wr.alloc o).grownBy w1 v.ownBlock) (hx : x = y) :
    w1.ownsRow w.heap.size 5 1 v' (acc ++ [y]).length ((acc ++ [y]).map (Value.int .u8)) ∧ Below w.heap.size w w1 := by
  subst hx
  exact ⟨by simpa using hown', (hbw.alloc hbw.size _).grown hg (by have := hbw.size; simp; omega) (fun k hk => (hown.lt k hk).1)⟩
end Go.Proofs.Ytejpfjknlckffaa.Wk
