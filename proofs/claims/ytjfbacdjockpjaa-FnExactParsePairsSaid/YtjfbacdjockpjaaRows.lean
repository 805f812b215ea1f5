/-
  No cell of these rows narrows 'for every input' (looked for: loops, veiled, ifaces, maps, wideKeys, modest, calm, conditions, laid).
  DERIVED. THE GIVEN ROWS OF THIS SEAT. 7 by the template 'for every input the law returns true; each argument reads behind the call as it read before'; 0 by the template 'total and deterministic' (their statements: YtjfbacdjockpjaaTotals.lean).
  GIVEN WITH THE SEED: the statements are not yours to turn. If you find one false, say at which input.
  Laid BY PROGRAM, IN A SANDBOX (cutbox-rows.mjs): the forced cells as the released guide's own fill.sh prints them over the translation b68658a7e4a15d32… (all of the seat's roots in one cut). By AI agents, Wed Nov 11 2026. No macro, syntax, notation, axiom, sorry.
-/
import Derived.Test.YtjfbacdjockpjaaChecked
import GoSem.Claim
import GoSem.ClaimJoined
import GoSem.ClaimMapViews
import Derived.JoinedTies
import Derived.KernelRfl
namespace Go.Proofs.Ytjfbacdjockpjaa
/- THE CELL 'sum', in the pinned program and in every row, IS THE sha256 OF THE DUMP (.gsa) THAT YtjfbacdjockpjaaProg.lean LOADS. Nothing in Lean hashes anything: it is a label: what it is worth is what the hold of that sum in a sandbox is worth. -/
noncomputable def Try.pinned : Pinned := { name := "ytjfbacdjockpjaa", sum := "b68658a7e4a15d32f8fd612128082f7a0bdccf9fb953f63b9cb44a65bb370f0a", checked := Try.checked }
namespace Rows
def none {H : Type} : Left H := { results := [], args := [] }

/-- 'laws.FnExactArePairs': WHATEVER THE INPUT: true; the input reads as it did. -/
def fnExactArePairsSpec : ChangeSpec := { name := "fnExactArePairs", fn := fun _ => fun
  | [d] => { results := [.lit (.bool true)], args := [d] }
  | _ => none }
def fnExactArePairsRow : OpenClaim := { program := "ytjfbacdjockpjaa", sum := "b68658a7e4a15d32f8fd612128082f7a0bdccf9fb953f63b9cb44a65bb370f0a", func := "loop.example/g01987/laws.FnExactArePairs", spec := "fnExactArePairs", apart := false }
def FnExactArePairsSaid : Prop := fnExactArePairsRow.holds Try.pinned (OpenSpec.ofChange fnExactArePairsSpec)

/-- ITS FALSE NEIGHBOUR: 'it returns false'. Refute it at one input. -/
def fnExactArePairsWrong : ChangeSpec := { name := "fnExactArePairs", fn := fun _ => fun
  | [d] => { results := [.lit (.bool false)], args := [d] }
  | _ => none }
def FnExactArePairsWrongFalsely : Prop := fnExactArePairsRow.holds Try.pinned (OpenSpec.ofChange fnExactArePairsWrong)

/-- 'laws.FnExactIsAbove': WHATEVER THE INPUT: true; the input reads as it did. -/
def fnExactIsAboveSpec : ChangeSpec := { name := "fnExactIsAbove", fn := fun _ => fun
  | [d1, d2, d3] => { results := [.lit (.bool true)], args := [d1, d2, d3] }
  | _ => none }
def fnExactIsAboveRow : OpenClaim := { program := "ytjfbacdjockpjaa", sum := "b68658a7e4a15d32f8fd612128082f7a0bdccf9fb953f63b9cb44a65bb370f0a", func := "loop.example/g01987/laws.FnExactIsAbove", spec := "fnExactIsAbove", apart := false }
def FnExactIsAboveSaid : Prop := fnExactIsAboveRow.holds Try.pinned (OpenSpec.ofChange fnExactIsAboveSpec)

/-- ITS FALSE NEIGHBOUR: 'it returns false'. Refute it at one input. -/
def fnExactIsAboveWrong : ChangeSpec := { name := "fnExactIsAbove", fn := fun _ => fun
  | [d1, d2, d3] => { results := [.lit (.bool false)], args := [d1, d2, d3] }
  | _ => none }
def FnExactIsAboveWrongFalsely : Prop := fnExactIsAboveRow.holds Try.pinned (OpenSpec.ofChange fnExactIsAboveWrong)

/-- 'laws.FnExactHeightOf': WHATEVER THE INPUT: true; the input reads as it did. -/
def fnExactHeightOfSpec : ChangeSpec := { name := "fnExactHeightOf", fn := fun _ => fun
  | [d1, d2] => { results := [.lit (.bool true)], args := [d1, d2] }
  | _ => none }
def fnExactHeightOfRow : OpenClaim := { program := "ytjfbacdjockpjaa", sum := "b68658a7e4a15d32f8fd612128082f7a0bdccf9fb953f63b9cb44a65bb370f0a", func := "loop.example/g01987/laws.FnExactHeightOf", spec := "fnExactHeightOf", recurses := true, apart := false }
def FnExactHeightOfSaid : Prop := fnExactHeightOfRow.holds Try.pinned (OpenSpec.ofChange fnExactHeightOfSpec)

/-- ITS FALSE NEIGHBOUR: 'it returns false'. Refute it at one input. -/
def fnExactHeightOfWrong : ChangeSpec := { name := "fnExactHeightOf", fn := fun _ => fun
  | [d1, d2] => { results := [.lit (.bool false)], args := [d1, d2] }
  | _ => none }
def FnExactHeightOfWrongFalsely : Prop := fnExactHeightOfRow.holds Try.pinned (OpenSpec.ofChange fnExactHeightOfWrong)

/-- 'laws.FnExactClosureOf': WHATEVER THE INPUT: true; the input reads as it did. -/
def fnExactClosureOfSpec : ChangeSpec := { name := "fnExactClosureOf", fn := fun _ => fun
  | [d] => { results := [.lit (.bool true)], args := [d] }
  | _ => none }
def fnExactClosureOfRow : OpenClaim := { program := "ytjfbacdjockpjaa", sum := "b68658a7e4a15d32f8fd612128082f7a0bdccf9fb953f63b9cb44a65bb370f0a", func := "loop.example/g01987/laws.FnExactClosureOf", spec := "fnExactClosureOf", apart := false }
def FnExactClosureOfSaid : Prop := fnExactClosureOfRow.holds Try.pinned (OpenSpec.ofChange fnExactClosureOfSpec)

/-- ITS FALSE NEIGHBOUR: 'it returns false'. Refute it at one input. -/
def fnExactClosureOfWrong : ChangeSpec := { name := "fnExactClosureOf", fn := fun _ => fun
  | [d] => { results := [.lit (.bool false)], args := [d] }
  | _ => none }
def FnExactClosureOfWrongFalsely : Prop := fnExactClosureOfRow.holds Try.pinned (OpenSpec.ofChange fnExactClosureOfWrong)

/-- 'laws.FnExactLinearize': WHATEVER THE INPUT: true; the input reads as it did. -/
def fnExactLinearizeSpec : ChangeSpec := { name := "fnExactLinearize", fn := fun _ => fun
  | [d] => { results := [.lit (.bool true)], args := [d] }
  | _ => none }
def fnExactLinearizeRow : OpenClaim := { program := "ytjfbacdjockpjaa", sum := "b68658a7e4a15d32f8fd612128082f7a0bdccf9fb953f63b9cb44a65bb370f0a", func := "loop.example/g01987/laws.FnExactLinearize", spec := "fnExactLinearize", apart := false }
def FnExactLinearizeSaid : Prop := fnExactLinearizeRow.holds Try.pinned (OpenSpec.ofChange fnExactLinearizeSpec)

/-- ITS FALSE NEIGHBOUR: 'it returns false'. Refute it at one input. -/
def fnExactLinearizeWrong : ChangeSpec := { name := "fnExactLinearize", fn := fun _ => fun
  | [d] => { results := [.lit (.bool false)], args := [d] }
  | _ => none }
def FnExactLinearizeWrongFalsely : Prop := fnExactLinearizeRow.holds Try.pinned (OpenSpec.ofChange fnExactLinearizeWrong)

/-- 'laws.FnExactFormatPairs': WHATEVER THE INPUT: true; the input reads as it did. -/
def fnExactFormatPairsSpec : ChangeSpec := { name := "fnExactFormatPairs", fn := fun _ => fun
  | [d] => { results := [.lit (.bool true)], args := [d] }
  | _ => none }
def fnExactFormatPairsRow : OpenClaim := { program := "ytjfbacdjockpjaa", sum := "b68658a7e4a15d32f8fd612128082f7a0bdccf9fb953f63b9cb44a65bb370f0a", func := "loop.example/g01987/laws.FnExactFormatPairs", spec := "fnExactFormatPairs", apart := false }
def FnExactFormatPairsSaid : Prop := fnExactFormatPairsRow.holds Try.pinned (OpenSpec.ofChange fnExactFormatPairsSpec)

/-- ITS FALSE NEIGHBOUR: 'it returns false'. Refute it at one input. -/
def fnExactFormatPairsWrong : ChangeSpec := { name := "fnExactFormatPairs", fn := fun _ => fun
  | [d] => { results := [.lit (.bool false)], args := [d] }
  | _ => none }
def FnExactFormatPairsWrongFalsely : Prop := fnExactFormatPairsRow.holds Try.pinned (OpenSpec.ofChange fnExactFormatPairsWrong)

/-- 'laws.FnExactParsePairs': WHATEVER THE INPUT: true; the input reads as it did. -/
def fnExactParsePairsSpec : ChangeSpec := { name := "fnExactParsePairs", fn := fun _ => fun
  | [d] => { results := [.lit (.bool true)], args := [d] }
  | _ => none }
def fnExactParsePairsRow : OpenClaim := { program := "ytjfbacdjockpjaa", sum := "b68658a7e4a15d32f8fd612128082f7a0bdccf9fb953f63b9cb44a65bb370f0a", func := "loop.example/g01987/laws.FnExactParsePairs", spec := "fnExactParsePairs", apart := false }
def FnExactParsePairsSaid : Prop := fnExactParsePairsRow.holds Try.pinned (OpenSpec.ofChange fnExactParsePairsSpec)

/-- ITS FALSE NEIGHBOUR: 'it returns false'. Refute it at one input. -/
def fnExactParsePairsWrong : ChangeSpec := { name := "fnExactParsePairs", fn := fun _ => fun
  | [d] => { results := [.lit (.bool false)], args := [d] }
  | _ => none }
def FnExactParsePairsWrongFalsely : Prop := fnExactParsePairsRow.holds Try.pinned (OpenSpec.ofChange fnExactParsePairsWrong)

/- THE SECOND FORM. 'bulk': how many values and letters a reading holds, each counted each time it is reached (what is shared counts as often as it is met; a slice's spare places count too). A statement '..UptoSaid' is the law's where the arguments, and the package variables that the reading takes, are together of bulk at most 1048576: NARROWER than '..Said'. Prove '..Said' where nothing that the law and all that it calls make is longer than what came in: it says more and counts as full. Else prove '..UptoSaid'. A law counts once. -/
mutual
def uptoBulk {H : Type} : DataW H → Nat
  | .lit (.string bytes) => bytes.length + 1
  | .lit _ => 1
  | .nil => 1
  | .ptr d => uptoBulk d + 1
  | .slice elems spare => uptoBulkAll elems + uptoBulkAll spare + 1
  | .agg parts => uptoBulkAll parts + 1
  | .iface _ d => uptoBulk d + 1
  | .map entries => uptoBulkEntries entries + 1
  | .held _ => 1
def uptoBulkAll {H : Type} : List (DataW H) → Nat
  | [] => 0
  | d :: r => uptoBulk d + uptoBulkAll r
def uptoBulkEntries {H : Type} : List (Lit × DataW H) → Nat
  | [] => 0
  | x :: r => uptoBulkEntry x + uptoBulkEntries r
def uptoBulkEntry {H : Type} : Lit × DataW H → Nat
  | (.string bytes, d) => bytes.length + uptoBulk d + 1
  | (_, d) => uptoBulk d + 1
 end
def uptoSmall : (H : Type) → List (DataW H) → Bool := fun _ ds => decide (uptoBulkAll ds ≤ 1048576)
def OpenSpec.upto (s : _root_.Go.ChangeSpec) : _root_.Go.OpenSpec := { _root_.Go.OpenSpec.ofChange s with cond := some uptoSmall }

/-- 'laws.FnExactArePairs', WHERE WHAT IT READS IS OF BULK AT MOST 1048576: true; the input reads as it did. -/
def fnExactArePairsUptoRow : OpenClaim := { program := "ytjfbacdjockpjaa", sum := "b68658a7e4a15d32f8fd612128082f7a0bdccf9fb953f63b9cb44a65bb370f0a", func := "loop.example/g01987/laws.FnExactArePairs", spec := "fnExactArePairs", apart := false, narrowed := true }
def FnExactArePairsUptoSaid : Prop := fnExactArePairsUptoRow.holds Try.pinned (OpenSpec.upto fnExactArePairsSpec)

/-- 'laws.FnExactIsAbove', WHERE WHAT IT READS IS OF BULK AT MOST 1048576: true; the input reads as it did. -/
def fnExactIsAboveUptoRow : OpenClaim := { program := "ytjfbacdjockpjaa", sum := "b68658a7e4a15d32f8fd612128082f7a0bdccf9fb953f63b9cb44a65bb370f0a", func := "loop.example/g01987/laws.FnExactIsAbove", spec := "fnExactIsAbove", apart := false, narrowed := true }
def FnExactIsAboveUptoSaid : Prop := fnExactIsAboveUptoRow.holds Try.pinned (OpenSpec.upto fnExactIsAboveSpec)

/-- 'laws.FnExactHeightOf', WHERE WHAT IT READS IS OF BULK AT MOST 1048576: true; the input reads as it did. -/
def fnExactHeightOfUptoRow : OpenClaim := { program := "ytjfbacdjockpjaa", sum := "b68658a7e4a15d32f8fd612128082f7a0bdccf9fb953f63b9cb44a65bb370f0a", func := "loop.example/g01987/laws.FnExactHeightOf", spec := "fnExactHeightOf", recurses := true, apart := false, narrowed := true }
def FnExactHeightOfUptoSaid : Prop := fnExactHeightOfUptoRow.holds Try.pinned (OpenSpec.upto fnExactHeightOfSpec)

/-- 'laws.FnExactClosureOf', WHERE WHAT IT READS IS OF BULK AT MOST 1048576: true; the input reads as it did. -/
def fnExactClosureOfUptoRow : OpenClaim := { program := "ytjfbacdjockpjaa", sum := "b68658a7e4a15d32f8fd612128082f7a0bdccf9fb953f63b9cb44a65bb370f0a", func := "loop.example/g01987/laws.FnExactClosureOf", spec := "fnExactClosureOf", apart := false, narrowed := true }
def FnExactClosureOfUptoSaid : Prop := fnExactClosureOfUptoRow.holds Try.pinned (OpenSpec.upto fnExactClosureOfSpec)

/-- 'laws.FnExactLinearize', WHERE WHAT IT READS IS OF BULK AT MOST 1048576: true; the input reads as it did. -/
def fnExactLinearizeUptoRow : OpenClaim := { program := "ytjfbacdjockpjaa", sum := "b68658a7e4a15d32f8fd612128082f7a0bdccf9fb953f63b9cb44a65bb370f0a", func := "loop.example/g01987/laws.FnExactLinearize", spec := "fnExactLinearize", apart := false, narrowed := true }
def FnExactLinearizeUptoSaid : Prop := fnExactLinearizeUptoRow.holds Try.pinned (OpenSpec.upto fnExactLinearizeSpec)

/-- 'laws.FnExactFormatPairs', WHERE WHAT IT READS IS OF BULK AT MOST 1048576: true; the input reads as it did. -/
def fnExactFormatPairsUptoRow : OpenClaim := { program := "ytjfbacdjockpjaa", sum := "b68658a7e4a15d32f8fd612128082f7a0bdccf9fb953f63b9cb44a65bb370f0a", func := "loop.example/g01987/laws.FnExactFormatPairs", spec := "fnExactFormatPairs", apart := false, narrowed := true }
def FnExactFormatPairsUptoSaid : Prop := fnExactFormatPairsUptoRow.holds Try.pinned (OpenSpec.upto fnExactFormatPairsSpec)

/-- 'laws.FnExactParsePairs', WHERE WHAT IT READS IS OF BULK AT MOST 1048576: true; the input reads as it did. -/
def fnExactParsePairsUptoRow : OpenClaim := { program := "ytjfbacdjockpjaa", sum := "b68658a7e4a15d32f8fd612128082f7a0bdccf9fb953f63b9cb44a65bb370f0a", func := "loop.example/g01987/laws.FnExactParsePairs", spec := "fnExactParsePairs", apart := false, narrowed := true }
def FnExactParsePairsUptoSaid : Prop := fnExactParsePairsUptoRow.holds Try.pinned (OpenSpec.upto fnExactParsePairsSpec)

end Rows
end Go.Proofs.Ytjfbacdjockpjaa
