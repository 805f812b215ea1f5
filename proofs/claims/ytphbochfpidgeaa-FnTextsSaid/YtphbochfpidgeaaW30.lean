/-
  Walks of chapter 3: lists of pairs measured, copied, compared.
  Conditions: none beyond the bounds that each states.
-/
import Derived.Test.YtphbochfpidgeaaW3
import Derived.Test.YtphbochfpidgeaaM9
import Derived.Test.YtphbochfpidgeaaO1
import Derived.Test.YtphbochfpidgeaaP7
import Derived.Test.YtphbochfpidgeaaU0
namespace Go.Proofs.Ytphbochfpidgeaa.Wk
open Go.RowKit Go.Proofs.Ytphbochfpidgeaa.M
set_option linter.unusedVariables false
attribute [local go_sem] cell_grow

theorem info_pair : (Try.prog.info? 74).map (fun i => (i.zero, i.size, i.bytes)) = some (some (.agg #[.int .i64 0, .int .i64 0]), 2, 16) := by kernel_rfl
end Go.Proofs.Ytphbochfpidgeaa.Wk
