/-
  No cell of these rows narrows 'for every input' (looked for: loops, veiled, ifaces, maps, wideKeys, modest, calm, conditions, laid).
  DERIVED. THE GIVEN ROWS OF THIS SEAT. 4 by the template 'for every input the law returns true; each argument reads behind the call as it read before'; 0 by the template 'total and deterministic' (their statements: YtgjghpaenliliaaTotals.lean).
  GIVEN WITH THE SEED: the statements are not yours to turn. If you find one false, say at which input.
  Laid BY PROGRAM, IN A SANDBOX (cutbox-rows.mjs): the forced cells as the released guide's own fill.sh prints them over the translation 97ee3609d0d08b25… (all of the seat's roots in one cut). By AI agents, Wed Nov 11 2026. No macro, syntax, notation, axiom, sorry.
-/
import Derived.Test.YtgjghpaenliliaaChecked
import GoSem.Claim
import GoSem.ClaimJoined
import GoSem.ClaimMapViews
import Derived.JoinedTies
import Derived.KernelRfl
namespace Go.Proofs.Ytgjghpaenliliaa
/- THE CELL 'sum', in the pinned program and in every row, IS THE sha256 OF THE DUMP (.gsa) THAT YtgjghpaenliliaaProg.lean LOADS. Nothing in Lean hashes anything: it is a label: what it is worth is what the hold of that sum in a sandbox is worth. -/
noncomputable def Try.pinned : Pinned := { name := "ytgjghpaenliliaa", sum := "97ee3609d0d08b254ed5bb76c8f2875af263284107244daf618d5fe0c3569e59", checked := Try.checked }
namespace Rows
def none {H : Type} : Left H := { results := [], args := [] }

/-- 'laws.FnExactFormatExpression': WHATEVER THE INPUT: true; the input reads as it did. -/
def fnExactFormatExpressionSpec : ChangeSpec := { name := "fnExactFormatExpression", fn := fun _ => fun
  | [d] => { results := [.lit (.bool true)], args := [d] }
  | _ => none }
def fnExactFormatExpressionRow : OpenClaim := { program := "ytgjghpaenliliaa", sum := "97ee3609d0d08b254ed5bb76c8f2875af263284107244daf618d5fe0c3569e59", func := "loop.example/g01987/laws.FnExactFormatExpression", spec := "fnExactFormatExpression", apart := false }
def FnExactFormatExpressionSaid : Prop := fnExactFormatExpressionRow.holds Try.pinned (OpenSpec.ofChange fnExactFormatExpressionSpec)

/-- ITS FALSE NEIGHBOUR: 'it returns false'. Refute it at one input. -/
def fnExactFormatExpressionWrong : ChangeSpec := { name := "fnExactFormatExpression", fn := fun _ => fun
  | [d] => { results := [.lit (.bool false)], args := [d] }
  | _ => none }
def FnExactFormatExpressionWrongFalsely : Prop := fnExactFormatExpressionRow.holds Try.pinned (OpenSpec.ofChange fnExactFormatExpressionWrong)

/-- 'laws.FnExactCompareBy': WHATEVER THE INPUT: true; the input reads as it did. -/
def fnExactCompareBySpec : ChangeSpec := { name := "fnExactCompareBy", fn := fun _ => fun
  | [d1, d2, d3] => { results := [.lit (.bool true)], args := [d1, d2, d3] }
  | _ => none }
def fnExactCompareByRow : OpenClaim := { program := "ytgjghpaenliliaa", sum := "97ee3609d0d08b254ed5bb76c8f2875af263284107244daf618d5fe0c3569e59", func := "loop.example/g01987/laws.FnExactCompareBy", spec := "fnExactCompareBy", apart := false }
def FnExactCompareBySaid : Prop := fnExactCompareByRow.holds Try.pinned (OpenSpec.ofChange fnExactCompareBySpec)

/-- ITS FALSE NEIGHBOUR: 'it returns false'. Refute it at one input. -/
def fnExactCompareByWrong : ChangeSpec := { name := "fnExactCompareBy", fn := fun _ => fun
  | [d1, d2, d3] => { results := [.lit (.bool false)], args := [d1, d2, d3] }
  | _ => none }
def FnExactCompareByWrongFalsely : Prop := fnExactCompareByRow.holds Try.pinned (OpenSpec.ofChange fnExactCompareByWrong)

/-- 'laws.FnExactApplyRule': WHATEVER THE INPUT: true; the input reads as it did. -/
def fnExactApplyRuleSpec : ChangeSpec := { name := "fnExactApplyRule", fn := fun _ => fun
  | [d1, d2, d3] => { results := [.lit (.bool true)], args := [d1, d2, d3] }
  | _ => none }
def fnExactApplyRuleRow : OpenClaim := { program := "ytgjghpaenliliaa", sum := "97ee3609d0d08b254ed5bb76c8f2875af263284107244daf618d5fe0c3569e59", func := "loop.example/g01987/laws.FnExactApplyRule", spec := "fnExactApplyRule", unfollowed := true, recurses := true, apart := false }
def FnExactApplyRuleSaid : Prop := fnExactApplyRuleRow.holds Try.pinned (OpenSpec.ofChange fnExactApplyRuleSpec)

/-- ITS FALSE NEIGHBOUR: 'it returns false'. Refute it at one input. -/
def fnExactApplyRuleWrong : ChangeSpec := { name := "fnExactApplyRule", fn := fun _ => fun
  | [d1, d2, d3] => { results := [.lit (.bool false)], args := [d1, d2, d3] }
  | _ => none }
def FnExactApplyRuleWrongFalsely : Prop := fnExactApplyRuleRow.holds Try.pinned (OpenSpec.ofChange fnExactApplyRuleWrong)

/-- 'laws.FnExactParseExpression': WHATEVER THE INPUT: true; the input reads as it did. -/
def fnExactParseExpressionSpec : ChangeSpec := { name := "fnExactParseExpression", fn := fun _ => fun
  | [d] => { results := [.lit (.bool true)], args := [d] }
  | _ => none }
def fnExactParseExpressionRow : OpenClaim := { program := "ytgjghpaenliliaa", sum := "97ee3609d0d08b254ed5bb76c8f2875af263284107244daf618d5fe0c3569e59", func := "loop.example/g01987/laws.FnExactParseExpression", spec := "fnExactParseExpression", apart := false }
def FnExactParseExpressionSaid : Prop := fnExactParseExpressionRow.holds Try.pinned (OpenSpec.ofChange fnExactParseExpressionSpec)

/-- ITS FALSE NEIGHBOUR: 'it returns false'. Refute it at one input. -/
def fnExactParseExpressionWrong : ChangeSpec := { name := "fnExactParseExpression", fn := fun _ => fun
  | [d] => { results := [.lit (.bool false)], args := [d] }
  | _ => none }
def FnExactParseExpressionWrongFalsely : Prop := fnExactParseExpressionRow.holds Try.pinned (OpenSpec.ofChange fnExactParseExpressionWrong)

/- THE SECOND FORM. 'bulk': how many values and letters a reading holds, each counted each time it is reached (what is shared counts as often as it is met; a slice's spare places count too). A statement '..UptoSaid' is the law's where the arguments, and the package variables that the reading takes, are together of bulk at most 1048576: NARROWER than '..Said'. Prove '..Said' where nothing that the law and all that it calls make is longer than what came in: it says more and counts as full. Else prove '..UptoSaid'. A law counts once. -/
mutual
def uptoBulk {H : Type} : DataW H → Nat
  | .lit (.string bytes) => bytes.length + 1
  | .lit _ => 1
  | .nil => 1
  | .ptr d => uptoBulk d + 1
  | .slice elems spare => uptoBulkAll elems + uptoBulkAll spare + 1
  | .agg parts => uptoBulkAll parts + 1
  | .iface _ d => uptoBulk d + 1
  | .map entries => uptoBulkEntries entries + 1
  | .held _ => 1
def uptoBulkAll {H : Type} : List (DataW H) → Nat
  | [] => 0
  | d :: r => uptoBulk d + uptoBulkAll r
def uptoBulkEntries {H : Type} : List (Lit × DataW H) → Nat
  | [] => 0
  | x :: r => uptoBulkEntry x + uptoBulkEntries r
def uptoBulkEntry {H : Type} : Lit × DataW H → Nat
  | (.string bytes, d) => bytes.length + uptoBulk d + 1
  | (_, d) => uptoBulk d + 1
 end
def uptoSmall : (H : Type) → List (DataW H) → Bool := fun _ ds => decide (uptoBulkAll ds ≤ 1048576)
def OpenSpec.upto (s : _root_.Go.ChangeSpec) : _root_.Go.OpenSpec := { _root_.Go.OpenSpec.ofChange s with cond := some uptoSmall }

/-- 'laws.FnExactFormatExpression', WHERE WHAT IT READS IS OF BULK AT MOST 1048576: true; the input reads as it did. -/
def fnExactFormatExpressionUptoRow : OpenClaim := { program := "ytgjghpaenliliaa", sum := "97ee3609d0d08b254ed5bb76c8f2875af263284107244daf618d5fe0c3569e59", func := "loop.example/g01987/laws.FnExactFormatExpression", spec := "fnExactFormatExpression", apart := false, narrowed := true }
def FnExactFormatExpressionUptoSaid : Prop := fnExactFormatExpressionUptoRow.holds Try.pinned (OpenSpec.upto fnExactFormatExpressionSpec)

/-- 'laws.FnExactCompareBy', WHERE WHAT IT READS IS OF BULK AT MOST 1048576: true; the input reads as it did. -/
def fnExactCompareByUptoRow : OpenClaim := { program := "ytgjghpaenliliaa", sum := "97ee3609d0d08b254ed5bb76c8f2875af263284107244daf618d5fe0c3569e59", func := "loop.example/g01987/laws.FnExactCompareBy", spec := "fnExactCompareBy", apart := false, narrowed := true }
def FnExactCompareByUptoSaid : Prop := fnExactCompareByUptoRow.holds Try.pinned (OpenSpec.upto fnExactCompareBySpec)

/-- 'laws.FnExactApplyRule', WHERE WHAT IT READS IS OF BULK AT MOST 1048576: true; the input reads as it did. -/
def fnExactApplyRuleUptoRow : OpenClaim := { program := "ytgjghpaenliliaa", sum := "97ee3609d0d08b254ed5bb76c8f2875af263284107244daf618d5fe0c3569e59", func := "loop.example/g01987/laws.FnExactApplyRule", spec := "fnExactApplyRule", unfollowed := true, recurses := true, apart := false, narrowed := true }
def FnExactApplyRuleUptoSaid : Prop := fnExactApplyRuleUptoRow.holds Try.pinned (OpenSpec.upto fnExactApplyRuleSpec)

/-- 'laws.FnExactParseExpression', WHERE WHAT IT READS IS OF BULK AT MOST 1048576: true; the input reads as it did. -/
def fnExactParseExpressionUptoRow : OpenClaim := { program := "ytgjghpaenliliaa", sum := "97ee3609d0d08b254ed5bb76c8f2875af263284107244daf618d5fe0c3569e59", func := "loop.example/g01987/laws.FnExactParseExpression", spec := "fnExactParseExpression", apart := false, narrowed := true }
def FnExactParseExpressionUptoSaid : Prop := fnExactParseExpressionUptoRow.holds Try.pinned (OpenSpec.upto fnExactParseExpressionSpec)

end Rows
end Go.Proofs.Ytgjghpaenliliaa
