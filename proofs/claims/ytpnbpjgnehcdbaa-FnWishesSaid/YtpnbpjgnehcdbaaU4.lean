/-
  The laws' marks: rows written over with consecutive numbers, and read again.
  Conditions: none beyond the bounds that each states.
-/
import Derived.Test.YtpnbpjgnehcdbaaU0
import Derived.Test.YtpnbpjgnehcdbaaM13
namespace Go.Proofs.Ytpnbpjgnehcdbaa.Wk
open Go.RowKit Go.Proofs.Ytpnbpjgnehcdbaa.M
set_option linter.unusedVariables false

abbrev BlkOf (v : Value) : Nat → Prop := fun b => v.ownBlock = some b
end Go.Proofs.Ytpnbpjgnehcdbaa.Wk
