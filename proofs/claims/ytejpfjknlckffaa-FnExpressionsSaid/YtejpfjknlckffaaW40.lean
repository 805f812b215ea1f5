/-
  Walks of chapter 4: a wish measured, copied, compared.
  Conditions: none beyond the bounds that each states.
-/
import Derived.Test.YtejpfjknlckffaaW12
import Derived.Test.YtejpfjknlckffaaW30
import Derived.Test.YtejpfjknlckffaaU1
import Derived.Test.YtejpfjknlckffaaO2
import Derived.Test.YtejpfjknlckffaaM12
namespace Go.Proofs.Ytejpfjknlckffaa.Wk
open Go.RowKit Go.Proofs.Ytejpfjknlckffaa.M
set_option linter.unusedVariables false
attribute [local go_sem] cell_grow

theorem V_sl {α : Type} {R : Rep α} {sz B n c : Nat} {w : World} {A : Option Addr} {l : List α} (h : V R sz w B (.slice A n c) l) : Sl R sz w B A n c l := by
  obtain ⟨A', n', c', e, hs⟩ := h
  injection e with e1 e2 e3
  subst e1 e2 e3
  exact hs
/-- It returns a wish by value that reads as x. -/
abbrev RetW (w : World) (x : Wi) (e : Ending) (w' : World) : Prop :=
  ∃ A n c E m d, e = .returned (.agg #[.int .i64 x.kind, .int .i64 x.field, .int .i64 x.value, .slice A n c, .slice E m d]) ∧ Sl RI 1 w' w'.heap.size A n c x.list ∧ Sl RP 2 w' w'.heap.size E m d x.pairs ∧ Below w.heap.size w w'
/-- It returns a wish by value, whose rows are the call's own. -/
def RetWO (w : World) (x : Wi) (e : Ending) (w' : World) : Prop :=
  ∃ u v, e = .returned (.agg #[.int .i64 x.kind, .int .i64 x.field, .int .i64 x.value, u, v]) ∧ OwnW w' w.heap.size 3 69 x u v ∧ Below w.heap.size w w'
end Go.Proofs.Ytejpfjknlckffaa.Wk
