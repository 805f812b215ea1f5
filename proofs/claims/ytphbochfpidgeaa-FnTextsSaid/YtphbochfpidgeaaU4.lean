/-
  The laws' marks: rows written over with consecutive numbers, and read again.
  Conditions: none beyond the bounds that each states.
-/
import Derived.Test.YtphbochfpidgeaaU0
import Derived.Test.YtphbochfpidgeaaM13
namespace Go.Proofs.Ytphbochfpidgeaa.Wk
open Go.RowKit Go.Proofs.Ytphbochfpidgeaa.M
set_option linter.unusedVariables false

abbrev BlkOf (v : Value) : Nat → Prop := fun b => v.ownBlock = some b
end Go.Proofs.Ytphbochfpidgeaa.Wk
