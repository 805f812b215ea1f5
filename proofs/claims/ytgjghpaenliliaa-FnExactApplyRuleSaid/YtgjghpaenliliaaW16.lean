/-
  Walks of chapter 2: lists of items compared.
  Conditions: none beyond the bounds that each states.
-/
import Derived.Test.YtgjghpaenliliaaW15
namespace Go.Proofs.Ytgjghpaenliliaa.Wk
open Go.RowKit Go.Proofs.Ytgjghpaenliliaa.M
set_option linter.unusedVariables false

deriving instance DecidableEq for It
end Go.Proofs.Ytgjghpaenliliaa.Wk
