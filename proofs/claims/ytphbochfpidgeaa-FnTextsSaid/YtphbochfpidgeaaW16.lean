/-
  Walks of chapter 2: lists of items compared.
  Conditions: none beyond the bounds that each states.
-/
import Derived.Test.YtphbochfpidgeaaW15
namespace Go.Proofs.Ytphbochfpidgeaa.Wk
open Go.RowKit Go.Proofs.Ytphbochfpidgeaa.M
set_option linter.unusedVariables false

deriving instance DecidableEq for It
end Go.Proofs.Ytphbochfpidgeaa.Wk
