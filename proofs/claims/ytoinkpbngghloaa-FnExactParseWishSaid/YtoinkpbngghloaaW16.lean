/-
  Walks of chapter 2: lists of items compared.
  Conditions: none beyond the bounds that each states.
-/
import Derived.Test.YtoinkpbngghloaaW15
namespace Go.Proofs.Ytoinkpbngghloaa.Wk
open Go.RowKit Go.Proofs.Ytoinkpbngghloaa.M
set_option linter.unusedVariables false

deriving instance DecidableEq for It
end Go.Proofs.Ytoinkpbngghloaa.Wk
