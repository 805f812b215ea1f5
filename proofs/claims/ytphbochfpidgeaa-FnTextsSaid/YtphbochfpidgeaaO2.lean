/-
  A wish as an argument, opened.
  Conditions: none.
-/
import Derived.Test.YtphbochfpidgeaaO1
namespace Go.Proofs.Ytphbochfpidgeaa
open Go Go.RowKit Go.ChangeShapes Go.WideShapes Go.Deep Go.Proofs.Ytphbochfpidgeaa.M

/-- A wish by value. -/
def WishV (w : World) (v : Value) (x : Wi) : Prop := ∃ A n c E m d, v = .agg #[.int .i64 x.kind, .int .i64 x.field, .int .i64 x.value, .slice A n c, .slice E m d] ∧ Fit x.kind ∧ Fit x.field ∧ Fit x.value ∧ Sl RI 1 w w.heap.size A n c x.list ∧ Sl RP 2 w w.heap.size E m d x.pairs
end Go.Proofs.Ytphbochfpidgeaa
