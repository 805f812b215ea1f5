/-
  Walks of chapter 2: AreItems.
  Conditions: none beyond the bounds that each states.
-/
import Derived.Test.YteinbnjkiebfaaaW16
import Derived.Test.YteinbnjkiebfaaaM7
import Derived.Test.YteinbnjkiebfaaaP6
namespace Go.Proofs.Yteinbnjkiebfaaa.Wk
open Go.RowKit Go.Proofs.Yteinbnjkiebfaaa.M
set_option linter.unusedVariables false
attribute [local go_sem] cell_grow

end Go.Proofs.Yteinbnjkiebfaaa.Wk
