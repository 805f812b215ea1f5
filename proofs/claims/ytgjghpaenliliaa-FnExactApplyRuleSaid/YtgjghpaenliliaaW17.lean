/-
  Walks of chapter 2: AreItems.
  Conditions: none beyond the bounds that each states.
-/
import Derived.Test.YtgjghpaenliliaaW16
import Derived.Test.YtgjghpaenliliaaM7
import Derived.Test.YtgjghpaenliliaaP6
namespace Go.Proofs.Ytgjghpaenliliaa.Wk
open Go.RowKit Go.Proofs.Ytgjghpaenliliaa.M
set_option linter.unusedVariables false
attribute [local go_sem] cell_grow

end Go.Proofs.Ytgjghpaenliliaa.Wk
