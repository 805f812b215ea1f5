/-
  No cell of these rows narrows 'for every input' (looked for: loops, veiled, ifaces, maps, wideKeys, modest, calm, conditions, laid).
  DERIVED. THE GIVEN ROWS OF THIS SEAT. 6 by the template 'for every input the law returns true; each argument reads behind the call as it read before'; 0 by the template 'total and deterministic' (their statements: YtoinkpbngghloaaTotals.lean).
  GIVEN WITH THE SEED: the statements are not yours to turn. If you find one false, say at which input.
  Laid BY PROGRAM, IN A SANDBOX (cutbox-rows.mjs): the forced cells as the released guide's own fill.sh prints them over the translation 27eb2aec324f42a2… (all of the seat's roots in one cut). By AI agents, Wed Nov 11 2026. No macro, syntax, notation, axiom, sorry.
-/
import Derived.Test.YtoinkpbngghloaaChecked
import GoSem.Claim
import GoSem.ClaimJoined
import GoSem.ClaimMapViews
import Derived.JoinedTies
import Derived.KernelRfl
namespace Go.Proofs.Ytoinkpbngghloaa
/- THE CELL 'sum', in the pinned program and in every row, IS THE sha256 OF THE DUMP (.gsa) THAT YtoinkpbngghloaaProg.lean LOADS. Nothing in Lean hashes anything: it is a label: what it is worth is what the hold of that sum in a sandbox is worth. -/
noncomputable def Try.pinned : Pinned := { name := "ytoinkpbngghloaa", sum := "27eb2aec324f42a20cff4adb299196173074ba9e7140c55d16fe3b8e4cd6f4da", checked := Try.checked }
namespace Rows
def none {H : Type} : Left H := { results := [], args := [] }

/-- 'laws.FnExactIsWish': WHATEVER THE INPUT: true; the input reads as it did. -/
def fnExactIsWishSpec : ChangeSpec := { name := "fnExactIsWish", fn := fun _ => fun
  | [d] => { results := [.lit (.bool true)], args := [d] }
  | _ => none }
def fnExactIsWishRow : OpenClaim := { program := "ytoinkpbngghloaa", sum := "27eb2aec324f42a20cff4adb299196173074ba9e7140c55d16fe3b8e4cd6f4da", func := "loop.example/g01987/laws.FnExactIsWish", spec := "fnExactIsWish", apart := false }
def FnExactIsWishSaid : Prop := fnExactIsWishRow.holds Try.pinned (OpenSpec.ofChange fnExactIsWishSpec)

/-- ITS FALSE NEIGHBOUR: 'it returns false'. Refute it at one input. -/
def fnExactIsWishWrong : ChangeSpec := { name := "fnExactIsWish", fn := fun _ => fun
  | [d] => { results := [.lit (.bool false)], args := [d] }
  | _ => none }
def FnExactIsWishWrongFalsely : Prop := fnExactIsWishRow.holds Try.pinned (OpenSpec.ofChange fnExactIsWishWrong)

/-- 'laws.FnExactRankOfValue': WHATEVER THE INPUT: true; the input reads as it did. -/
def fnExactRankOfValueSpec : ChangeSpec := { name := "fnExactRankOfValue", fn := fun _ => fun
  | [d1, d2] => { results := [.lit (.bool true)], args := [d1, d2] }
  | _ => none }
def fnExactRankOfValueRow : OpenClaim := { program := "ytoinkpbngghloaa", sum := "27eb2aec324f42a20cff4adb299196173074ba9e7140c55d16fe3b8e4cd6f4da", func := "loop.example/g01987/laws.FnExactRankOfValue", spec := "fnExactRankOfValue", apart := false }
def FnExactRankOfValueSaid : Prop := fnExactRankOfValueRow.holds Try.pinned (OpenSpec.ofChange fnExactRankOfValueSpec)

/-- ITS FALSE NEIGHBOUR: 'it returns false'. Refute it at one input. -/
def fnExactRankOfValueWrong : ChangeSpec := { name := "fnExactRankOfValue", fn := fun _ => fun
  | [d1, d2] => { results := [.lit (.bool false)], args := [d1, d2] }
  | _ => none }
def FnExactRankOfValueWrongFalsely : Prop := fnExactRankOfValueRow.holds Try.pinned (OpenSpec.ofChange fnExactRankOfValueWrong)

/-- 'laws.FnExactCompareValues': WHATEVER THE INPUT: true; the input reads as it did. -/
def fnExactCompareValuesSpec : ChangeSpec := { name := "fnExactCompareValues", fn := fun _ => fun
  | [d1, d2, d3] => { results := [.lit (.bool true)], args := [d1, d2, d3] }
  | _ => none }
def fnExactCompareValuesRow : OpenClaim := { program := "ytoinkpbngghloaa", sum := "27eb2aec324f42a20cff4adb299196173074ba9e7140c55d16fe3b8e4cd6f4da", func := "loop.example/g01987/laws.FnExactCompareValues", spec := "fnExactCompareValues", apart := false }
def FnExactCompareValuesSaid : Prop := fnExactCompareValuesRow.holds Try.pinned (OpenSpec.ofChange fnExactCompareValuesSpec)

/-- ITS FALSE NEIGHBOUR: 'it returns false'. Refute it at one input. -/
def fnExactCompareValuesWrong : ChangeSpec := { name := "fnExactCompareValues", fn := fun _ => fun
  | [d1, d2, d3] => { results := [.lit (.bool false)], args := [d1, d2, d3] }
  | _ => none }
def FnExactCompareValuesWrongFalsely : Prop := fnExactCompareValuesRow.holds Try.pinned (OpenSpec.ofChange fnExactCompareValuesWrong)

/-- 'laws.FnExactFormatWish': WHATEVER THE INPUT: true; the input reads as it did. -/
def fnExactFormatWishSpec : ChangeSpec := { name := "fnExactFormatWish", fn := fun _ => fun
  | [d] => { results := [.lit (.bool true)], args := [d] }
  | _ => none }
def fnExactFormatWishRow : OpenClaim := { program := "ytoinkpbngghloaa", sum := "27eb2aec324f42a20cff4adb299196173074ba9e7140c55d16fe3b8e4cd6f4da", func := "loop.example/g01987/laws.FnExactFormatWish", spec := "fnExactFormatWish", apart := false }
def FnExactFormatWishSaid : Prop := fnExactFormatWishRow.holds Try.pinned (OpenSpec.ofChange fnExactFormatWishSpec)

/-- ITS FALSE NEIGHBOUR: 'it returns false'. Refute it at one input. -/
def fnExactFormatWishWrong : ChangeSpec := { name := "fnExactFormatWish", fn := fun _ => fun
  | [d] => { results := [.lit (.bool false)], args := [d] }
  | _ => none }
def FnExactFormatWishWrongFalsely : Prop := fnExactFormatWishRow.holds Try.pinned (OpenSpec.ofChange fnExactFormatWishWrong)

/-- 'laws.FnExactCompareItems': WHATEVER THE INPUT: true; the input reads as it did. -/
def fnExactCompareItemsSpec : ChangeSpec := { name := "fnExactCompareItems", fn := fun _ => fun
  | [d1, d2, d3] => { results := [.lit (.bool true)], args := [d1, d2, d3] }
  | _ => none }
def fnExactCompareItemsRow : OpenClaim := { program := "ytoinkpbngghloaa", sum := "27eb2aec324f42a20cff4adb299196173074ba9e7140c55d16fe3b8e4cd6f4da", func := "loop.example/g01987/laws.FnExactCompareItems", spec := "fnExactCompareItems", apart := false }
def FnExactCompareItemsSaid : Prop := fnExactCompareItemsRow.holds Try.pinned (OpenSpec.ofChange fnExactCompareItemsSpec)

/-- ITS FALSE NEIGHBOUR: 'it returns false'. Refute it at one input. -/
def fnExactCompareItemsWrong : ChangeSpec := { name := "fnExactCompareItems", fn := fun _ => fun
  | [d1, d2, d3] => { results := [.lit (.bool false)], args := [d1, d2, d3] }
  | _ => none }
def FnExactCompareItemsWrongFalsely : Prop := fnExactCompareItemsRow.holds Try.pinned (OpenSpec.ofChange fnExactCompareItemsWrong)

/-- 'laws.FnExactParseWish': WHATEVER THE INPUT: true; the input reads as it did. -/
def fnExactParseWishSpec : ChangeSpec := { name := "fnExactParseWish", fn := fun _ => fun
  | [d] => { results := [.lit (.bool true)], args := [d] }
  | _ => none }
def fnExactParseWishRow : OpenClaim := { program := "ytoinkpbngghloaa", sum := "27eb2aec324f42a20cff4adb299196173074ba9e7140c55d16fe3b8e4cd6f4da", func := "loop.example/g01987/laws.FnExactParseWish", spec := "fnExactParseWish", apart := false }
def FnExactParseWishSaid : Prop := fnExactParseWishRow.holds Try.pinned (OpenSpec.ofChange fnExactParseWishSpec)

/-- ITS FALSE NEIGHBOUR: 'it returns false'. Refute it at one input. -/
def fnExactParseWishWrong : ChangeSpec := { name := "fnExactParseWish", fn := fun _ => fun
  | [d] => { results := [.lit (.bool false)], args := [d] }
  | _ => none }
def FnExactParseWishWrongFalsely : Prop := fnExactParseWishRow.holds Try.pinned (OpenSpec.ofChange fnExactParseWishWrong)

/- THE SECOND FORM. 'bulk': how many values and letters a reading holds, each counted each time it is reached (what is shared counts as often as it is met; a slice's spare places count too). A statement '..UptoSaid' is the law's where the arguments, and the package variables that the reading takes, are together of bulk at most 1048576: NARROWER than '..Said'. Prove '..Said' where nothing that the law and all that it calls make is longer than what came in: it says more and counts as full. Else prove '..UptoSaid'. A law counts once. -/
mutual
def uptoBulk {H : Type} : DataW H → Nat
  | .lit (.string bytes) => bytes.length + 1
  | .lit _ => 1
  | .nil => 1
  | .ptr d => uptoBulk d + 1
  | .slice elems spare => uptoBulkAll elems + uptoBulkAll spare + 1
  | .agg parts => uptoBulkAll parts + 1
  | .iface _ d => uptoBulk d + 1
  | .map entries => uptoBulkEntries entries + 1
  | .held _ => 1
def uptoBulkAll {H : Type} : List (DataW H) → Nat
  | [] => 0
  | d :: r => uptoBulk d + uptoBulkAll r
def uptoBulkEntries {H : Type} : List (Lit × DataW H) → Nat
  | [] => 0
  | x :: r => uptoBulkEntry x + uptoBulkEntries r
def uptoBulkEntry {H : Type} : Lit × DataW H → Nat
  | (.string bytes, d) => bytes.length + uptoBulk d + 1
  | (_, d) => uptoBulk d + 1
 end
def uptoSmall : (H : Type) → List (DataW H) → Bool := fun _ ds => decide (uptoBulkAll ds ≤ 1048576)
def OpenSpec.upto (s : _root_.Go.ChangeSpec) : _root_.Go.OpenSpec := { _root_.Go.OpenSpec.ofChange s with cond := some uptoSmall }

/-- 'laws.FnExactIsWish', WHERE WHAT IT READS IS OF BULK AT MOST 1048576: true; the input reads as it did. -/
def fnExactIsWishUptoRow : OpenClaim := { program := "ytoinkpbngghloaa", sum := "27eb2aec324f42a20cff4adb299196173074ba9e7140c55d16fe3b8e4cd6f4da", func := "loop.example/g01987/laws.FnExactIsWish", spec := "fnExactIsWish", apart := false, narrowed := true }
def FnExactIsWishUptoSaid : Prop := fnExactIsWishUptoRow.holds Try.pinned (OpenSpec.upto fnExactIsWishSpec)

/-- 'laws.FnExactRankOfValue', WHERE WHAT IT READS IS OF BULK AT MOST 1048576: true; the input reads as it did. -/
def fnExactRankOfValueUptoRow : OpenClaim := { program := "ytoinkpbngghloaa", sum := "27eb2aec324f42a20cff4adb299196173074ba9e7140c55d16fe3b8e4cd6f4da", func := "loop.example/g01987/laws.FnExactRankOfValue", spec := "fnExactRankOfValue", apart := false, narrowed := true }
def FnExactRankOfValueUptoSaid : Prop := fnExactRankOfValueUptoRow.holds Try.pinned (OpenSpec.upto fnExactRankOfValueSpec)

/-- 'laws.FnExactCompareValues', WHERE WHAT IT READS IS OF BULK AT MOST 1048576: true; the input reads as it did. -/
def fnExactCompareValuesUptoRow : OpenClaim := { program := "ytoinkpbngghloaa", sum := "27eb2aec324f42a20cff4adb299196173074ba9e7140c55d16fe3b8e4cd6f4da", func := "loop.example/g01987/laws.FnExactCompareValues", spec := "fnExactCompareValues", apart := false, narrowed := true }
def FnExactCompareValuesUptoSaid : Prop := fnExactCompareValuesUptoRow.holds Try.pinned (OpenSpec.upto fnExactCompareValuesSpec)

/-- 'laws.FnExactFormatWish', WHERE WHAT IT READS IS OF BULK AT MOST 1048576: true; the input reads as it did. -/
def fnExactFormatWishUptoRow : OpenClaim := { program := "ytoinkpbngghloaa", sum := "27eb2aec324f42a20cff4adb299196173074ba9e7140c55d16fe3b8e4cd6f4da", func := "loop.example/g01987/laws.FnExactFormatWish", spec := "fnExactFormatWish", apart := false, narrowed := true }
def FnExactFormatWishUptoSaid : Prop := fnExactFormatWishUptoRow.holds Try.pinned (OpenSpec.upto fnExactFormatWishSpec)

/-- 'laws.FnExactCompareItems', WHERE WHAT IT READS IS OF BULK AT MOST 1048576: true; the input reads as it did. -/
def fnExactCompareItemsUptoRow : OpenClaim := { program := "ytoinkpbngghloaa", sum := "27eb2aec324f42a20cff4adb299196173074ba9e7140c55d16fe3b8e4cd6f4da", func := "loop.example/g01987/laws.FnExactCompareItems", spec := "fnExactCompareItems", apart := false, narrowed := true }
def FnExactCompareItemsUptoSaid : Prop := fnExactCompareItemsUptoRow.holds Try.pinned (OpenSpec.upto fnExactCompareItemsSpec)

/-- 'laws.FnExactParseWish', WHERE WHAT IT READS IS OF BULK AT MOST 1048576: true; the input reads as it did. -/
def fnExactParseWishUptoRow : OpenClaim := { program := "ytoinkpbngghloaa", sum := "27eb2aec324f42a20cff4adb299196173074ba9e7140c55d16fe3b8e4cd6f4da", func := "loop.example/g01987/laws.FnExactParseWish", spec := "fnExactParseWish", apart := false, narrowed := true }
def FnExactParseWishUptoSaid : Prop := fnExactParseWishUptoRow.holds Try.pinned (OpenSpec.upto fnExactParseWishSpec)

end Rows
end Go.Proofs.Ytoinkpbngghloaa
