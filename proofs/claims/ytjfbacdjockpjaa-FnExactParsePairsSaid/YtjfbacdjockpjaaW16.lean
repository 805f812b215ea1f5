/-
  Walks of chapter 2: lists of items compared.
  Conditions: none beyond the bounds that each states.
-/
import Derived.Test.YtjfbacdjockpjaaW15
namespace Go.Proofs.Ytjfbacdjockpjaa.Wk
open Go.RowKit Go.Proofs.Ytjfbacdjockpjaa.M
set_option linter.unusedVariables false

deriving instance DecidableEq for It
end Go.Proofs.Ytjfbacdjockpjaa.Wk
