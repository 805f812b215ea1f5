/-
  Walks of chapter 1: FormatInt.
  Conditions: none beyond the bounds that each states.
-/
import Derived.Test.YtejpfjknlckffaaW6
import Derived.BigRegion
namespace Go.Proofs.Ytejpfjknlckffaa.Wk
open Go.RowKit
set_option linter.unusedVariables false

/-- What FormatInt writes. -/
def fmtS (n : Int) : ByteArray := strOfNums (P.fmtL n)
end Go.Proofs.Ytejpfjknlckffaa.Wk
