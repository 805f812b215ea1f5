/-
  Walks of chapter 3: lists of pairs measured, copied, compared.
  Conditions: none beyond the bounds that each states.
-/
import Derived.Test.YtncaamjmidmmdaaW3
import Derived.Test.YtncaamjmidmmdaaM9
import Derived.Test.YtncaamjmidmmdaaO1
import Derived.Test.YtncaamjmidmmdaaP7
import Derived.Test.YtncaamjmidmmdaaU0
namespace Go.Proofs.Ytncaamjmidmmdaa.Wk
open Go.RowKit Go.Proofs.Ytncaamjmidmmdaa.M
set_option linter.unusedVariables false
attribute [local go_sem] cell_grow

end Go.Proofs.Ytncaamjmidmmdaa.Wk
