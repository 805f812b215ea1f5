/-
  No cell of these rows narrows 'for every input' (looked for: loops, veiled, ifaces, maps, wideKeys, modest, calm, conditions, laid).
  DERIVED. THE GIVEN ROWS OF THIS SEAT. 7 by the template 'for every input the law returns true; each argument reads behind the call as it read before'; 0 by the template 'total and deterministic' (their statements: YtncaamjmidmmdaaTotals.lean).
  GIVEN WITH THE SEED: the statements are not yours to turn. If you find one false, say at which input.
  Laid BY PROGRAM, IN A SANDBOX (cutbox-rows.mjs): the forced cells as the released guide's own fill.sh prints them over the translation 82e2cb2fb2e752be… (all of the seat's roots in one cut). By AI agents, Wed Nov 11 2026. No macro, syntax, notation, axiom, sorry.
-/
import Derived.Test.YtncaamjmidmmdaaChecked
import GoSem.Claim
import GoSem.ClaimJoined
import GoSem.ClaimMapViews
import Derived.JoinedTies
import Derived.KernelRfl
namespace Go.Proofs.Ytncaamjmidmmdaa
/- THE CELL 'sum', in the pinned program and in every row, IS THE sha256 OF THE DUMP (.gsa) THAT YtncaamjmidmmdaaProg.lean LOADS. Nothing in Lean hashes anything: it is a label: what it is worth is what the hold of that sum in a sandbox is worth. -/
noncomputable def Try.pinned : Pinned := { name := "ytncaamjmidmmdaa", sum := "82e2cb2fb2e752bebb7faf745c8de00603210d45111384885a6e08beec1d04fc", checked := Try.checked }
namespace Rows
def none {H : Type} : Left H := { results := [], args := [] }

/-- 'laws.FnExactIsItem': WHATEVER THE INPUT: true; the input reads as it did. -/
def fnExactIsItemSpec : ChangeSpec := { name := "fnExactIsItem", fn := fun _ => fun
  | [d] => { results := [.lit (.bool true)], args := [d] }
  | _ => none }
def fnExactIsItemRow : OpenClaim := { program := "ytncaamjmidmmdaa", sum := "82e2cb2fb2e752bebb7faf745c8de00603210d45111384885a6e08beec1d04fc", func := "loop.example/g01987/laws.FnExactIsItem", spec := "fnExactIsItem", apart := false }
def FnExactIsItemSaid : Prop := fnExactIsItemRow.holds Try.pinned (OpenSpec.ofChange fnExactIsItemSpec)

/-- ITS FALSE NEIGHBOUR: 'it returns false'. Refute it at one input. -/
def fnExactIsItemWrong : ChangeSpec := { name := "fnExactIsItem", fn := fun _ => fun
  | [d] => { results := [.lit (.bool false)], args := [d] }
  | _ => none }
def FnExactIsItemWrongFalsely : Prop := fnExactIsItemRow.holds Try.pinned (OpenSpec.ofChange fnExactIsItemWrong)

/-- 'laws.FnExactFindItem': WHATEVER THE INPUT: true; the input reads as it did. -/
def fnExactFindItemSpec : ChangeSpec := { name := "fnExactFindItem", fn := fun _ => fun
  | [d1, d2] => { results := [.lit (.bool true)], args := [d1, d2] }
  | _ => none }
def fnExactFindItemRow : OpenClaim := { program := "ytncaamjmidmmdaa", sum := "82e2cb2fb2e752bebb7faf745c8de00603210d45111384885a6e08beec1d04fc", func := "loop.example/g01987/laws.FnExactFindItem", spec := "fnExactFindItem", unfollowed := true, recurses := true, apart := false }
def FnExactFindItemSaid : Prop := fnExactFindItemRow.holds Try.pinned (OpenSpec.ofChange fnExactFindItemSpec)

/-- ITS FALSE NEIGHBOUR: 'it returns false'. Refute it at one input. -/
def fnExactFindItemWrong : ChangeSpec := { name := "fnExactFindItem", fn := fun _ => fun
  | [d1, d2] => { results := [.lit (.bool false)], args := [d1, d2] }
  | _ => none }
def FnExactFindItemWrongFalsely : Prop := fnExactFindItemRow.holds Try.pinned (OpenSpec.ofChange fnExactFindItemWrong)

/-- 'laws.FnExactAreItems': WHATEVER THE INPUT: true; the input reads as it did. -/
def fnExactAreItemsSpec : ChangeSpec := { name := "fnExactAreItems", fn := fun _ => fun
  | [d] => { results := [.lit (.bool true)], args := [d] }
  | _ => none }
def fnExactAreItemsRow : OpenClaim := { program := "ytncaamjmidmmdaa", sum := "82e2cb2fb2e752bebb7faf745c8de00603210d45111384885a6e08beec1d04fc", func := "loop.example/g01987/laws.FnExactAreItems", spec := "fnExactAreItems", apart := false }
def FnExactAreItemsSaid : Prop := fnExactAreItemsRow.holds Try.pinned (OpenSpec.ofChange fnExactAreItemsSpec)

/-- ITS FALSE NEIGHBOUR: 'it returns false'. Refute it at one input. -/
def fnExactAreItemsWrong : ChangeSpec := { name := "fnExactAreItems", fn := fun _ => fun
  | [d] => { results := [.lit (.bool false)], args := [d] }
  | _ => none }
def FnExactAreItemsWrongFalsely : Prop := fnExactAreItemsRow.holds Try.pinned (OpenSpec.ofChange fnExactAreItemsWrong)

/-- 'laws.FnExactIdsOf': WHATEVER THE INPUT: true; the input reads as it did. -/
def fnExactIdsOfSpec : ChangeSpec := { name := "fnExactIdsOf", fn := fun _ => fun
  | [d] => { results := [.lit (.bool true)], args := [d] }
  | _ => none }
def fnExactIdsOfRow : OpenClaim := { program := "ytncaamjmidmmdaa", sum := "82e2cb2fb2e752bebb7faf745c8de00603210d45111384885a6e08beec1d04fc", func := "loop.example/g01987/laws.FnExactIdsOf", spec := "fnExactIdsOf", apart := false }
def FnExactIdsOfSaid : Prop := fnExactIdsOfRow.holds Try.pinned (OpenSpec.ofChange fnExactIdsOfSpec)

/-- ITS FALSE NEIGHBOUR: 'it returns false'. Refute it at one input. -/
def fnExactIdsOfWrong : ChangeSpec := { name := "fnExactIdsOf", fn := fun _ => fun
  | [d] => { results := [.lit (.bool false)], args := [d] }
  | _ => none }
def FnExactIdsOfWrongFalsely : Prop := fnExactIdsOfRow.holds Try.pinned (OpenSpec.ofChange fnExactIdsOfWrong)

/-- 'laws.FnExactEqualItems': WHATEVER THE INPUT: true; the input reads as it did. -/
def fnExactEqualItemsSpec : ChangeSpec := { name := "fnExactEqualItems", fn := fun _ => fun
  | [d1, d2] => { results := [.lit (.bool true)], args := [d1, d2] }
  | _ => none }
def fnExactEqualItemsRow : OpenClaim := { program := "ytncaamjmidmmdaa", sum := "82e2cb2fb2e752bebb7faf745c8de00603210d45111384885a6e08beec1d04fc", func := "loop.example/g01987/laws.FnExactEqualItems", spec := "fnExactEqualItems", unfollowed := true, recurses := true, apart := false }
def FnExactEqualItemsSaid : Prop := fnExactEqualItemsRow.holds Try.pinned (OpenSpec.ofChange fnExactEqualItemsSpec)

/-- ITS FALSE NEIGHBOUR: 'it returns false'. Refute it at one input. -/
def fnExactEqualItemsWrong : ChangeSpec := { name := "fnExactEqualItems", fn := fun _ => fun
  | [d1, d2] => { results := [.lit (.bool false)], args := [d1, d2] }
  | _ => none }
def FnExactEqualItemsWrongFalsely : Prop := fnExactEqualItemsRow.holds Try.pinned (OpenSpec.ofChange fnExactEqualItemsWrong)

/-- 'laws.FnExactFormatItem': WHATEVER THE INPUT: true; the input reads as it did. -/
def fnExactFormatItemSpec : ChangeSpec := { name := "fnExactFormatItem", fn := fun _ => fun
  | [d] => { results := [.lit (.bool true)], args := [d] }
  | _ => none }
def fnExactFormatItemRow : OpenClaim := { program := "ytncaamjmidmmdaa", sum := "82e2cb2fb2e752bebb7faf745c8de00603210d45111384885a6e08beec1d04fc", func := "loop.example/g01987/laws.FnExactFormatItem", spec := "fnExactFormatItem", apart := false }
def FnExactFormatItemSaid : Prop := fnExactFormatItemRow.holds Try.pinned (OpenSpec.ofChange fnExactFormatItemSpec)

/-- ITS FALSE NEIGHBOUR: 'it returns false'. Refute it at one input. -/
def fnExactFormatItemWrong : ChangeSpec := { name := "fnExactFormatItem", fn := fun _ => fun
  | [d] => { results := [.lit (.bool false)], args := [d] }
  | _ => none }
def FnExactFormatItemWrongFalsely : Prop := fnExactFormatItemRow.holds Try.pinned (OpenSpec.ofChange fnExactFormatItemWrong)

/-- 'laws.FnExactParseItem': WHATEVER THE INPUT: true; the input reads as it did. -/
def fnExactParseItemSpec : ChangeSpec := { name := "fnExactParseItem", fn := fun _ => fun
  | [d] => { results := [.lit (.bool true)], args := [d] }
  | _ => none }
def fnExactParseItemRow : OpenClaim := { program := "ytncaamjmidmmdaa", sum := "82e2cb2fb2e752bebb7faf745c8de00603210d45111384885a6e08beec1d04fc", func := "loop.example/g01987/laws.FnExactParseItem", spec := "fnExactParseItem", apart := false }
def FnExactParseItemSaid : Prop := fnExactParseItemRow.holds Try.pinned (OpenSpec.ofChange fnExactParseItemSpec)

/-- ITS FALSE NEIGHBOUR: 'it returns false'. Refute it at one input. -/
def fnExactParseItemWrong : ChangeSpec := { name := "fnExactParseItem", fn := fun _ => fun
  | [d] => { results := [.lit (.bool false)], args := [d] }
  | _ => none }
def FnExactParseItemWrongFalsely : Prop := fnExactParseItemRow.holds Try.pinned (OpenSpec.ofChange fnExactParseItemWrong)

/- THE SECOND FORM. 'bulk': how many values and letters a reading holds, each counted each time it is reached (what is shared counts as often as it is met; a slice's spare places count too). A statement '..UptoSaid' is the law's where the arguments, and the package variables that the reading takes, are together of bulk at most 1048576: NARROWER than '..Said'. Prove '..Said' where nothing that the law and all that it calls make is longer than what came in: it says more and counts as full. Else prove '..UptoSaid'. A law counts once. -/
mutual
def uptoBulk {H : Type} : DataW H → Nat
  | .lit (.string bytes) => bytes.length + 1
  | .lit _ => 1
  | .nil => 1
  | .ptr d => uptoBulk d + 1
  | .slice elems spare => uptoBulkAll elems + uptoBulkAll spare + 1
  | .agg parts => uptoBulkAll parts + 1
  | .iface _ d => uptoBulk d + 1
  | .map entries => uptoBulkEntries entries + 1
  | .held _ => 1
def uptoBulkAll {H : Type} : List (DataW H) → Nat
  | [] => 0
  | d :: r => uptoBulk d + uptoBulkAll r
def uptoBulkEntries {H : Type} : List (Lit × DataW H) → Nat
  | [] => 0
  | x :: r => uptoBulkEntry x + uptoBulkEntries r
def uptoBulkEntry {H : Type} : Lit × DataW H → Nat
  | (.string bytes, d) => bytes.length + uptoBulk d + 1
  | (_, d) => uptoBulk d + 1
 end
def uptoSmall : (H : Type) → List (DataW H) → Bool := fun _ ds => decide (uptoBulkAll ds ≤ 1048576)
def OpenSpec.upto (s : _root_.Go.ChangeSpec) : _root_.Go.OpenSpec := { _root_.Go.OpenSpec.ofChange s with cond := some uptoSmall }

/-- 'laws.FnExactIsItem', WHERE WHAT IT READS IS OF BULK AT MOST 1048576: true; the input reads as it did. -/
def fnExactIsItemUptoRow : OpenClaim := { program := "ytncaamjmidmmdaa", sum := "82e2cb2fb2e752bebb7faf745c8de00603210d45111384885a6e08beec1d04fc", func := "loop.example/g01987/laws.FnExactIsItem", spec := "fnExactIsItem", apart := false, narrowed := true }
def FnExactIsItemUptoSaid : Prop := fnExactIsItemUptoRow.holds Try.pinned (OpenSpec.upto fnExactIsItemSpec)

/-- 'laws.FnExactFindItem', WHERE WHAT IT READS IS OF BULK AT MOST 1048576: true; the input reads as it did. -/
def fnExactFindItemUptoRow : OpenClaim := { program := "ytncaamjmidmmdaa", sum := "82e2cb2fb2e752bebb7faf745c8de00603210d45111384885a6e08beec1d04fc", func := "loop.example/g01987/laws.FnExactFindItem", spec := "fnExactFindItem", unfollowed := true, recurses := true, apart := false, narrowed := true }
def FnExactFindItemUptoSaid : Prop := fnExactFindItemUptoRow.holds Try.pinned (OpenSpec.upto fnExactFindItemSpec)

/-- 'laws.FnExactAreItems', WHERE WHAT IT READS IS OF BULK AT MOST 1048576: true; the input reads as it did. -/
def fnExactAreItemsUptoRow : OpenClaim := { program := "ytncaamjmidmmdaa", sum := "82e2cb2fb2e752bebb7faf745c8de00603210d45111384885a6e08beec1d04fc", func := "loop.example/g01987/laws.FnExactAreItems", spec := "fnExactAreItems", apart := false, narrowed := true }
def FnExactAreItemsUptoSaid : Prop := fnExactAreItemsUptoRow.holds Try.pinned (OpenSpec.upto fnExactAreItemsSpec)

/-- 'laws.FnExactIdsOf', WHERE WHAT IT READS IS OF BULK AT MOST 1048576: true; the input reads as it did. -/
def fnExactIdsOfUptoRow : OpenClaim := { program := "ytncaamjmidmmdaa", sum := "82e2cb2fb2e752bebb7faf745c8de00603210d45111384885a6e08beec1d04fc", func := "loop.example/g01987/laws.FnExactIdsOf", spec := "fnExactIdsOf", apart := false, narrowed := true }
def FnExactIdsOfUptoSaid : Prop := fnExactIdsOfUptoRow.holds Try.pinned (OpenSpec.upto fnExactIdsOfSpec)

/-- 'laws.FnExactEqualItems', WHERE WHAT IT READS IS OF BULK AT MOST 1048576: true; the input reads as it did. -/
def fnExactEqualItemsUptoRow : OpenClaim := { program := "ytncaamjmidmmdaa", sum := "82e2cb2fb2e752bebb7faf745c8de00603210d45111384885a6e08beec1d04fc", func := "loop.example/g01987/laws.FnExactEqualItems", spec := "fnExactEqualItems", unfollowed := true, recurses := true, apart := false, narrowed := true }
def FnExactEqualItemsUptoSaid : Prop := fnExactEqualItemsUptoRow.holds Try.pinned (OpenSpec.upto fnExactEqualItemsSpec)

/-- 'laws.FnExactFormatItem', WHERE WHAT IT READS IS OF BULK AT MOST 1048576: true; the input reads as it did. -/
def fnExactFormatItemUptoRow : OpenClaim := { program := "ytncaamjmidmmdaa", sum := "82e2cb2fb2e752bebb7faf745c8de00603210d45111384885a6e08beec1d04fc", func := "loop.example/g01987/laws.FnExactFormatItem", spec := "fnExactFormatItem", apart := false, narrowed := true }
def FnExactFormatItemUptoSaid : Prop := fnExactFormatItemUptoRow.holds Try.pinned (OpenSpec.upto fnExactFormatItemSpec)

/-- 'laws.FnExactParseItem', WHERE WHAT IT READS IS OF BULK AT MOST 1048576: true; the input reads as it did. -/
def fnExactParseItemUptoRow : OpenClaim := { program := "ytncaamjmidmmdaa", sum := "82e2cb2fb2e752bebb7faf745c8de00603210d45111384885a6e08beec1d04fc", func := "loop.example/g01987/laws.FnExactParseItem", spec := "fnExactParseItem", apart := false, narrowed := true }
def FnExactParseItemUptoSaid : Prop := fnExactParseItemUptoRow.holds Try.pinned (OpenSpec.upto fnExactParseItemSpec)

end Rows
end Go.Proofs.Ytncaamjmidmmdaa
