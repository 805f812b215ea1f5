/-
  Walks of chapter 3: lists of pairs measured, copied, compared.
  Conditions: none beyond the bounds that each states.
-/
import Derived.Test.YtejpfjknlckffaaW3
import Derived.Test.YtejpfjknlckffaaM9
import Derived.Test.YtejpfjknlckffaaO1
import Derived.Test.YtejpfjknlckffaaP7
import Derived.Test.YtejpfjknlckffaaU0
namespace Go.Proofs.Ytejpfjknlckffaa.Wk
open Go.RowKit Go.Proofs.Ytejpfjknlckffaa.M
set_option linter.unusedVariables false
attribute [local go_sem] cell_grow

theorem info_pair : (Try.prog.info? 69).map (fun i => (i.zero, i.size, i.bytes)) = some (some (.agg #[.int .i64 0, .int .i64 0]), 2, 16) := by kernel_rfl
end Go.Proofs.Ytejpfjknlckffaa.Wk
