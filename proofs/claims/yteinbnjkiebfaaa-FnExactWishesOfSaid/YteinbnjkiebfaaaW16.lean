/-
  Walks of chapter 2: lists of items compared.
  Conditions: none beyond the bounds that each states.
-/
import Derived.Test.YteinbnjkiebfaaaW15
namespace Go.Proofs.Yteinbnjkiebfaaa.Wk
open Go.RowKit Go.Proofs.Yteinbnjkiebfaaa.M
set_option linter.unusedVariables false

deriving instance DecidableEq for It
end Go.Proofs.Yteinbnjkiebfaaa.Wk
