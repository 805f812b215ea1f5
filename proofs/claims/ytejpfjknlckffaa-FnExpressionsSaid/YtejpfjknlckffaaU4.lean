/-
  The laws' marks: rows written over with consecutive numbers, and read again.
  Conditions: none beyond the bounds that each states.
-/
import Derived.Test.YtejpfjknlckffaaU0
import Derived.Test.YtejpfjknlckffaaM13
namespace Go.Proofs.Ytejpfjknlckffaa.Wk
open Go.RowKit Go.Proofs.Ytejpfjknlckffaa.M
set_option linter.unusedVariables false

abbrev BlkOf (v : Value) : Nat → Prop := fun b => v.ownBlock = some b
end Go.Proofs.Ytejpfjknlckffaa.Wk
