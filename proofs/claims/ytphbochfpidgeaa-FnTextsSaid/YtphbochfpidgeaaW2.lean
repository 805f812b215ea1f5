/-
  Walks of chapter 1: names of codes, fixed width.
  Conditions: none beyond the bounds that each states.
-/
import Derived.Test.YtphbochfpidgeaaW1
import Derived.Test.YtphbochfpidgeaaB1
namespace Go.Proofs.Ytphbochfpidgeaa.Wk
open Go.RowKit
set_option linter.unusedVariables false

theorem ret_int {k : IntKind} {a b : Int} (h : a = b) : Ending.returned (.int k a) = .returned (.int k b) := by rw [h]
theorem vint {k : IntKind} {a b : Int} (h : a = b) : Value.int k a = .int k b := by rw [h]
theorem getD_of {s : ByteArray} {k : Nat} (h : k < s.size) : s.data.toList.getD k 0 = s[k] := by
  have : k < s.data.toList.length := by simpa using h
  simp [List.getD]
  rw [Array.getElem?_eq_getElem (by simpa using h)]
  rfl

/-- The name of a code. -/
def cname (c : Int) : ByteArray :=
  if c = -1 then ⟨#[119, 111, 114, 115, 101]⟩ else if c = 0 then ⟨#[101, 113, 117, 97, 108]⟩ else if c = 1 then ⟨#[98, 101, 116, 116, 101, 114]⟩
  else if c = 2 then ⟨#[117, 110, 114, 101, 108, 97, 116, 101, 100]⟩ else ⟨#[]⟩


/-- What DecodeFixed answers. -/
def dfB (s : ByteArray) (width : Int) : Bool := P.inR width 1 7 && decide (width ≤ s.size)
def dfN (s : ByteArray) (width : Int) : Int := if dfB s width then P.be s.data.toList width.toNat else 0
end Go.Proofs.Ytphbochfpidgeaa.Wk
