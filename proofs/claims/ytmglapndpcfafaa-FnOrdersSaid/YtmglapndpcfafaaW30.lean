/-
  Walks of chapter 3: lists of pairs measured, copied, compared.
  Conditions: none beyond the bounds that each states.
-/
import Derived.Test.YtmglapndpcfafaaW3
import Derived.Test.YtmglapndpcfafaaM9
import Derived.Test.YtmglapndpcfafaaO1
import Derived.Test.YtmglapndpcfafaaP7
import Derived.Test.YtmglapndpcfafaaU0
namespace Go.Proofs.Ytmglapndpcfafaa.Wk
open Go.RowKit Go.Proofs.Ytmglapndpcfafaa.M
set_option linter.unusedVariables false
attribute [local go_sem] cell_grow

theorem info_pair : (Try.prog.info? 29).map (fun i => (i.zero, i.size, i.bytes)) = some (some (.agg #[.int .i64 0, .int .i64 0]), 2, 16) := by kernel_rfl
end Go.Proofs.Ytmglapndpcfafaa.Wk
