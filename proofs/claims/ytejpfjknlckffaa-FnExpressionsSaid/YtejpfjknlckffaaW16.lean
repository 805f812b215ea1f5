/-
  Walks of chapter 2: lists of items compared.
  Conditions: none beyond the bounds that each states.
-/
import Derived.Test.YtejpfjknlckffaaW15
namespace Go.Proofs.Ytejpfjknlckffaa.Wk
open Go.RowKit Go.Proofs.Ytejpfjknlckffaa.M
set_option linter.unusedVariables false

deriving instance DecidableEq for It
end Go.Proofs.Ytejpfjknlckffaa.Wk
