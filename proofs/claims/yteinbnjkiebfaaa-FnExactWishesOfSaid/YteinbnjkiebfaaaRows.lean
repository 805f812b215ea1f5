/-
  No cell of these rows narrows 'for every input' (looked for: loops, veiled, ifaces, maps, wideKeys, modest, calm, conditions, laid).
  DERIVED. THE GIVEN ROWS OF THIS SEAT. 5 by the template 'for every input the law returns true; each argument reads behind the call as it read before'; 0 by the template 'total and deterministic' (their statements: YteinbnjkiebfaaaTotals.lean).
  GIVEN WITH THE SEED: the statements are not yours to turn. If you find one false, say at which input.
  Laid BY PROGRAM, IN A SANDBOX (cutbox-rows.mjs): the forced cells as the released guide's own fill.sh prints them over the translation 91e1d58b30dfeaab… (all of the seat's roots in one cut). By AI agents, Wed Nov 11 2026. No macro, syntax, notation, axiom, sorry.
-/
import Derived.Test.YteinbnjkiebfaaaChecked
import GoSem.Claim
import GoSem.ClaimJoined
import GoSem.ClaimMapViews
import Derived.JoinedTies
import Derived.KernelRfl
namespace Go.Proofs.Yteinbnjkiebfaaa
/- THE CELL 'sum', in the pinned program and in every row, IS THE sha256 OF THE DUMP (.gsa) THAT YteinbnjkiebfaaaProg.lean LOADS. Nothing in Lean hashes anything: it is a label: what it is worth is what the hold of that sum in a sandbox is worth. -/
noncomputable def Try.pinned : Pinned := { name := "yteinbnjkiebfaaa", sum := "91e1d58b30dfeaab3bb67f1243d87064b922fba7a83f12c06f28015ed67e71fc", checked := Try.checked }
namespace Rows
def none {H : Type} : Left H := { results := [], args := [] }

/-- 'laws.FnExactEqualExpressions': WHATEVER THE INPUT: true; the input reads as it did. -/
def fnExactEqualExpressionsSpec : ChangeSpec := { name := "fnExactEqualExpressions", fn := fun _ => fun
  | [d1, d2] => { results := [.lit (.bool true)], args := [d1, d2] }
  | _ => none }
def fnExactEqualExpressionsRow : OpenClaim := { program := "yteinbnjkiebfaaa", sum := "91e1d58b30dfeaab3bb67f1243d87064b922fba7a83f12c06f28015ed67e71fc", func := "loop.example/g01987/laws.FnExactEqualExpressions", spec := "fnExactEqualExpressions", unfollowed := true, recurses := true, apart := false }
def FnExactEqualExpressionsSaid : Prop := fnExactEqualExpressionsRow.holds Try.pinned (OpenSpec.ofChange fnExactEqualExpressionsSpec)

/-- ITS FALSE NEIGHBOUR: 'it returns false'. Refute it at one input. -/
def fnExactEqualExpressionsWrong : ChangeSpec := { name := "fnExactEqualExpressions", fn := fun _ => fun
  | [d1, d2] => { results := [.lit (.bool false)], args := [d1, d2] }
  | _ => none }
def FnExactEqualExpressionsWrongFalsely : Prop := fnExactEqualExpressionsRow.holds Try.pinned (OpenSpec.ofChange fnExactEqualExpressionsWrong)

/-- 'laws.FnExactIsExpression': WHATEVER THE INPUT: true; the input reads as it did. -/
def fnExactIsExpressionSpec : ChangeSpec := { name := "fnExactIsExpression", fn := fun _ => fun
  | [d] => { results := [.lit (.bool true)], args := [d] }
  | _ => none }
def fnExactIsExpressionRow : OpenClaim := { program := "yteinbnjkiebfaaa", sum := "91e1d58b30dfeaab3bb67f1243d87064b922fba7a83f12c06f28015ed67e71fc", func := "loop.example/g01987/laws.FnExactIsExpression", spec := "fnExactIsExpression", apart := false }
def FnExactIsExpressionSaid : Prop := fnExactIsExpressionRow.holds Try.pinned (OpenSpec.ofChange fnExactIsExpressionSpec)

/-- ITS FALSE NEIGHBOUR: 'it returns false'. Refute it at one input. -/
def fnExactIsExpressionWrong : ChangeSpec := { name := "fnExactIsExpression", fn := fun _ => fun
  | [d] => { results := [.lit (.bool false)], args := [d] }
  | _ => none }
def FnExactIsExpressionWrongFalsely : Prop := fnExactIsExpressionRow.holds Try.pinned (OpenSpec.ofChange fnExactIsExpressionWrong)

/-- 'laws.FnExactJoinExpressions': WHATEVER THE INPUT: true; the input reads as it did. -/
def fnExactJoinExpressionsSpec : ChangeSpec := { name := "fnExactJoinExpressions", fn := fun _ => fun
  | [d1, d2, d3] => { results := [.lit (.bool true)], args := [d1, d2, d3] }
  | _ => none }
def fnExactJoinExpressionsRow : OpenClaim := { program := "yteinbnjkiebfaaa", sum := "91e1d58b30dfeaab3bb67f1243d87064b922fba7a83f12c06f28015ed67e71fc", func := "loop.example/g01987/laws.FnExactJoinExpressions", spec := "fnExactJoinExpressions", apart := false }
def FnExactJoinExpressionsSaid : Prop := fnExactJoinExpressionsRow.holds Try.pinned (OpenSpec.ofChange fnExactJoinExpressionsSpec)

/-- ITS FALSE NEIGHBOUR: 'it returns false'. Refute it at one input. -/
def fnExactJoinExpressionsWrong : ChangeSpec := { name := "fnExactJoinExpressions", fn := fun _ => fun
  | [d1, d2, d3] => { results := [.lit (.bool false)], args := [d1, d2, d3] }
  | _ => none }
def FnExactJoinExpressionsWrongFalsely : Prop := fnExactJoinExpressionsRow.holds Try.pinned (OpenSpec.ofChange fnExactJoinExpressionsWrong)

/-- 'laws.FnExactWishesOf': WHATEVER THE INPUT: true; the input reads as it did. -/
def fnExactWishesOfSpec : ChangeSpec := { name := "fnExactWishesOf", fn := fun _ => fun
  | [d] => { results := [.lit (.bool true)], args := [d] }
  | _ => none }
def fnExactWishesOfRow : OpenClaim := { program := "yteinbnjkiebfaaa", sum := "91e1d58b30dfeaab3bb67f1243d87064b922fba7a83f12c06f28015ed67e71fc", func := "loop.example/g01987/laws.FnExactWishesOf", spec := "fnExactWishesOf", apart := false }
def FnExactWishesOfSaid : Prop := fnExactWishesOfRow.holds Try.pinned (OpenSpec.ofChange fnExactWishesOfSpec)

/-- ITS FALSE NEIGHBOUR: 'it returns false'. Refute it at one input. -/
def fnExactWishesOfWrong : ChangeSpec := { name := "fnExactWishesOf", fn := fun _ => fun
  | [d] => { results := [.lit (.bool false)], args := [d] }
  | _ => none }
def FnExactWishesOfWrongFalsely : Prop := fnExactWishesOfRow.holds Try.pinned (OpenSpec.ofChange fnExactWishesOfWrong)

/-- 'laws.FnExactSubtree': WHATEVER THE INPUT: true; the input reads as it did. -/
def fnExactSubtreeSpec : ChangeSpec := { name := "fnExactSubtree", fn := fun _ => fun
  | [d1, d2] => { results := [.lit (.bool true)], args := [d1, d2] }
  | _ => none }
def fnExactSubtreeRow : OpenClaim := { program := "yteinbnjkiebfaaa", sum := "91e1d58b30dfeaab3bb67f1243d87064b922fba7a83f12c06f28015ed67e71fc", func := "loop.example/g01987/laws.FnExactSubtree", spec := "fnExactSubtree", apart := false }
def FnExactSubtreeSaid : Prop := fnExactSubtreeRow.holds Try.pinned (OpenSpec.ofChange fnExactSubtreeSpec)

/-- ITS FALSE NEIGHBOUR: 'it returns false'. Refute it at one input. -/
def fnExactSubtreeWrong : ChangeSpec := { name := "fnExactSubtree", fn := fun _ => fun
  | [d1, d2] => { results := [.lit (.bool false)], args := [d1, d2] }
  | _ => none }
def FnExactSubtreeWrongFalsely : Prop := fnExactSubtreeRow.holds Try.pinned (OpenSpec.ofChange fnExactSubtreeWrong)

/- THE SECOND FORM. 'bulk': how many values and letters a reading holds, each counted each time it is reached (what is shared counts as often as it is met; a slice's spare places count too). A statement '..UptoSaid' is the law's where the arguments, and the package variables that the reading takes, are together of bulk at most 1048576: NARROWER than '..Said'. Prove '..Said' where nothing that the law and all that it calls make is longer than what came in: it says more and counts as full. Else prove '..UptoSaid'. A law counts once. -/
mutual
def uptoBulk {H : Type} : DataW H → Nat
  | .lit (.string bytes) => bytes.length + 1
  | .lit _ => 1
  | .nil => 1
  | .ptr d => uptoBulk d + 1
  | .slice elems spare => uptoBulkAll elems + uptoBulkAll spare + 1
  | .agg parts => uptoBulkAll parts + 1
  | .iface _ d => uptoBulk d + 1
  | .map entries => uptoBulkEntries entries + 1
  | .held _ => 1
def uptoBulkAll {H : Type} : List (DataW H) → Nat
  | [] => 0
  | d :: r => uptoBulk d + uptoBulkAll r
def uptoBulkEntries {H : Type} : List (Lit × DataW H) → Nat
  | [] => 0
  | x :: r => uptoBulkEntry x + uptoBulkEntries r
def uptoBulkEntry {H : Type} : Lit × DataW H → Nat
  | (.string bytes, d) => bytes.length + uptoBulk d + 1
  | (_, d) => uptoBulk d + 1
 end
def uptoSmall : (H : Type) → List (DataW H) → Bool := fun _ ds => decide (uptoBulkAll ds ≤ 1048576)
def OpenSpec.upto (s : _root_.Go.ChangeSpec) : _root_.Go.OpenSpec := { _root_.Go.OpenSpec.ofChange s with cond := some uptoSmall }

/-- 'laws.FnExactEqualExpressions', WHERE WHAT IT READS IS OF BULK AT MOST 1048576: true; the input reads as it did. -/
def fnExactEqualExpressionsUptoRow : OpenClaim := { program := "yteinbnjkiebfaaa", sum := "91e1d58b30dfeaab3bb67f1243d87064b922fba7a83f12c06f28015ed67e71fc", func := "loop.example/g01987/laws.FnExactEqualExpressions", spec := "fnExactEqualExpressions", unfollowed := true, recurses := true, apart := false, narrowed := true }
def FnExactEqualExpressionsUptoSaid : Prop := fnExactEqualExpressionsUptoRow.holds Try.pinned (OpenSpec.upto fnExactEqualExpressionsSpec)

/-- 'laws.FnExactIsExpression', WHERE WHAT IT READS IS OF BULK AT MOST 1048576: true; the input reads as it did. -/
def fnExactIsExpressionUptoRow : OpenClaim := { program := "yteinbnjkiebfaaa", sum := "91e1d58b30dfeaab3bb67f1243d87064b922fba7a83f12c06f28015ed67e71fc", func := "loop.example/g01987/laws.FnExactIsExpression", spec := "fnExactIsExpression", apart := false, narrowed := true }
def FnExactIsExpressionUptoSaid : Prop := fnExactIsExpressionUptoRow.holds Try.pinned (OpenSpec.upto fnExactIsExpressionSpec)

/-- 'laws.FnExactJoinExpressions', WHERE WHAT IT READS IS OF BULK AT MOST 1048576: true; the input reads as it did. -/
def fnExactJoinExpressionsUptoRow : OpenClaim := { program := "yteinbnjkiebfaaa", sum := "91e1d58b30dfeaab3bb67f1243d87064b922fba7a83f12c06f28015ed67e71fc", func := "loop.example/g01987/laws.FnExactJoinExpressions", spec := "fnExactJoinExpressions", apart := false, narrowed := true }
def FnExactJoinExpressionsUptoSaid : Prop := fnExactJoinExpressionsUptoRow.holds Try.pinned (OpenSpec.upto fnExactJoinExpressionsSpec)

/-- 'laws.FnExactWishesOf', WHERE WHAT IT READS IS OF BULK AT MOST 1048576: true; the input reads as it did. -/
def fnExactWishesOfUptoRow : OpenClaim := { program := "yteinbnjkiebfaaa", sum := "91e1d58b30dfeaab3bb67f1243d87064b922fba7a83f12c06f28015ed67e71fc", func := "loop.example/g01987/laws.FnExactWishesOf", spec := "fnExactWishesOf", apart := false, narrowed := true }
def FnExactWishesOfUptoSaid : Prop := fnExactWishesOfUptoRow.holds Try.pinned (OpenSpec.upto fnExactWishesOfSpec)

/-- 'laws.FnExactSubtree', WHERE WHAT IT READS IS OF BULK AT MOST 1048576: true; the input reads as it did. -/
def fnExactSubtreeUptoRow : OpenClaim := { program := "yteinbnjkiebfaaa", sum := "91e1d58b30dfeaab3bb67f1243d87064b922fba7a83f12c06f28015ed67e71fc", func := "loop.example/g01987/laws.FnExactSubtree", spec := "fnExactSubtree", apart := false, narrowed := true }
def FnExactSubtreeUptoSaid : Prop := fnExactSubtreeUptoRow.holds Try.pinned (OpenSpec.upto fnExactSubtreeSpec)

end Rows
end Go.Proofs.Yteinbnjkiebfaaa
