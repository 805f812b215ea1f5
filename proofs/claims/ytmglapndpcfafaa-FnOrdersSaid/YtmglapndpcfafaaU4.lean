/-
  The laws' marks: rows written over with consecutive numbers, and read again.
  Conditions: none beyond the bounds that each states.
-/
import Derived.Test.YtmglapndpcfafaaU0
import Derived.Test.YtmglapndpcfafaaM13
namespace Go.Proofs.Ytmglapndpcfafaa.Wk
open Go.RowKit Go.Proofs.Ytmglapndpcfafaa.M
set_option linter.unusedVariables false

abbrev BlkOf (v : Value) : Nat → Prop := fun b => v.ownBlock = some b
end Go.Proofs.Ytmglapndpcfafaa.Wk
