/-
  Walks of chapter 1: names of codes, fixed width.
  Conditions: none beyond the bounds that each states.
-/
import Derived.Test.YtpnbpjgnehcdbaaW1
import Derived.Test.YtpnbpjgnehcdbaaB1
namespace Go.Proofs.Ytpnbpjgnehcdbaa.Wk
open Go.RowKit
set_option linter.unusedVariables false

theorem ret_int {k : IntKind} {a b : Int} (h : a = b) : Ending.returned (.int k a) = .returned (.int k b) := by rw [h]
theorem vint {k : IntKind} {a b : Int} (h : a = b) : Value.int k a = .int k b := by rw [h]
theorem getD_of {s : ByteArray} {k : Nat} (h : k < s.size) : s.data.toList.getD k 0 = s[k] := by
  have : k < s.data.toList.length := by simpa using h
  simp [List.getD]
  rw [Array.getElem?_eq_getElem (by simpa using h)]
  rfl

/-- The name of a code. -/
def cname (c : Int) : ByteArray :=
  if c = -1 then ⟨#[119, 111, 114, 115, 101]⟩ else if c = 0 then ⟨#[101, 113, 117, 97, 108]⟩ else if c = 1 then ⟨#[98, 101, 116, 116, 101, 114]⟩
  else if c = 2 then ⟨#[117, 110, 114, 101, 108, 97, 116, 101, 100]⟩ else ⟨#[]⟩

theorem implCodeName (c : Int) (w : World) : Calls Try.prog 11 #[.int .i64 c] w fun e w' => e = .returned (.string (cname c)) ∧ Below w.heap.size w w' := by
  by_cases h0 : c = -1
  · subst h0
    have hin : P.inR (-1) (-1) 2 = true := P.inR_mk (by omega)
    go_enter Try.func11, Try.ntmps11
    go_wp2_with (go_at_call 20; refine (within _ _ _ _).mono ?_; rintro e w' ⟨rfl, rfl⟩)
    go_ret
    exact ⟨rfl, (Below.refl _ _).alloc (Nat.le_refl _) _⟩
  by_cases h1 : c = 0
  · subst h1
    have hin : P.inR 0 (-1) 2 = true := P.inR_mk (by omega)
    go_enter Try.func11, Try.ntmps11
    go_wp2_with (go_at_call 20; refine (within _ _ _ _).mono ?_; rintro e w' ⟨rfl, rfl⟩)
    go_ret
    exact ⟨rfl, (Below.refl _ _).alloc (Nat.le_refl _) _⟩
  by_cases h2 : c = 1
  · subst h2
    have hin : P.inR 1 (-1) 2 = true := P.inR_mk (by omega)
    go_enter Try.func11, Try.ntmps11
    go_wp2_with (go_at_call 20; refine (within _ _ _ _).mono ?_; rintro e w' ⟨rfl, rfl⟩)
    go_ret
    exact ⟨rfl, (Below.refl _ _).alloc (Nat.le_refl _) _⟩
  by_cases h3 : c = 2
  · subst h3
    have hin : P.inR 2 (-1) 2 = true := P.inR_mk (by omega)
    go_enter Try.func11, Try.ntmps11
    go_wp2_with (go_at_call 20; refine (within _ _ _ _).mono ?_; rintro e w' ⟨rfl, rfl⟩)
    go_ret
    exact ⟨rfl, (Below.refl _ _).alloc (Nat.le_refl _) _⟩
  have hn : cname c = ⟨#[]⟩ := by unfold cname; rw [if_neg h0, if_neg h1, if_neg h2, if_neg h3]
  have hin : P.inR c (-1) 2 = false := P.inR_no (by omega)
  have H := Lib.hid hn
  clear hn h0 h1 h2 h3
  go_enter Try.func11, Try.ntmps11
  go_wp2_with (go_at_call 20; refine (within _ _ _ _).mono ?_; rintro e w' ⟨rfl, rfl⟩)
  go_ret
  exact ⟨by rw [H.out]; rfl, Below.refl _ _⟩

/-- What DecodeFixed answers. -/
def dfB (s : ByteArray) (width : Int) : Bool := P.inR width 1 7 && decide (width ≤ s.size)
def dfN (s : ByteArray) (width : Int) : Int := if dfB s width then P.be s.data.toList width.toNat else 0
end Go.Proofs.Ytpnbpjgnehcdbaa.Wk
