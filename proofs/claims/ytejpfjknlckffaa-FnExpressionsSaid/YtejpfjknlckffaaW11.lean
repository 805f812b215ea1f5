/-
  Walks of chapter 1: ParseInt of the program.
  Conditions: none beyond the bounds that each states.
-/
import Derived.Test.YtejpfjknlckffaaW10
namespace Go.Proofs.Ytejpfjknlckffaa.Wk
open Go.RowKit
set_option linter.unusedVariables false

end Go.Proofs.Ytejpfjknlckffaa.Wk
