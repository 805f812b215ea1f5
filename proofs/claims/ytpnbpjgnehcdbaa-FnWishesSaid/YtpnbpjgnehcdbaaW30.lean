/-
  Walks of chapter 3: lists of pairs measured, copied, compared.
  Conditions: none beyond the bounds that each states.
-/
import Derived.Test.YtpnbpjgnehcdbaaW3
import Derived.Test.YtpnbpjgnehcdbaaM9
import Derived.Test.YtpnbpjgnehcdbaaO1
import Derived.Test.YtpnbpjgnehcdbaaP7
import Derived.Test.YtpnbpjgnehcdbaaU0
namespace Go.Proofs.Ytpnbpjgnehcdbaa.Wk
open Go.RowKit Go.Proofs.Ytpnbpjgnehcdbaa.M
set_option linter.unusedVariables false
attribute [local go_sem] cell_grow

theorem info_pair : (Try.prog.info? 62).map (fun i => (i.zero, i.size, i.bytes)) = some (some (.agg #[.int .i64 0, .int .i64 0]), 2, 16) := by kernel_rfl
end Go.Proofs.Ytpnbpjgnehcdbaa.Wk
