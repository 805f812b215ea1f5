/-
  Walks of chapter 1: hexadecimal digits.
  Conditions: none beyond the bounds that each states.
-/
import Derived.Test.YtphbochfpidgeaaW3
import Derived.Test.YtphbochfpidgeaaP2
import Derived.Deep.RegionHeld3
import Derived.Deep.AppendLies
import Derived.OwnWalk
namespace Go.Proofs.Ytphbochfpidgeaa.Wk
open Go.RowKit
set_option linter.unusedVariables false

def digits : ByteArray := ⟨#[48, 49, 50, 51, 52, 53, 54, 55, 56, 57, 97, 98, 99, 100, 101, 102]⟩
theorem digits_at : ∀ n : Fin 16, ∃ b : UInt8, digits[n.val]? = some b ∧ (b.toNat : Int) = P.hexd n.val := by decide
theorem run_dig {Pr : Program} (T : TypeId) (hT : Pr.underlying T = some .string) (k : IntKind) (x : Int) (n : Nat) (hx : x = n) (hn : n < 16) (w : World) :
    (Instr.index T (.string ⟨#[48, 49, 50, 51, 52, 53, 54, 55, 56, 57, 97, 98, 99, 100, 101, 102]⟩) (.int k x)).run Pr w = .ok (.int .u8 (P.hexd n)) w := by
  subst hx
  obtain ⟨b, h1, h2⟩ := digits_at ⟨n, hn⟩
  change digits[n]? = some b at h1
  change (Instr.index T (.string digits) (.int k n)).run Pr w = _
  rw [← h2]
  simp [Instr.index, asIntOf, run_underlying hT, h1]
theorem take_snoc {s : ByteArray} {k : Nat} (h : k < s.size) : s.data.toList.take (k + 1) = s.data.toList.take k ++ [s[k]] := by
  rw [List.take_succ_eq_append_getElem (by simpa using h)]; rfl
theorem enc_step {w wr w1 : World} {s : ByteArray} {k : Nat} {v v' : Value} {o : Obj} (h : k < s.size) (hown : wr.ownsRow w.heap.size 5 1 v (2 * k) ((P.enc (s.data.toList.take k)).map (Value.int .u8)))
    (hbw : Below w.heap.size w wr) (hown' : w1.ownsRow w.heap.size 5 1 v' (2 * k + 2) ((P.enc (s.data.toList.take k)).map (Value.int .u8) ++ [.int .u8 (P.hexd (s[k].toNat / 16)), .int .u8 (P.hexd (s[k].toNat % 16))]))
    (hg : (wr.alloc o).drew.grownBy w1 v.ownBlock) :
    w1.ownsRow w.heap.size 5 1 v' (2 * (k + 1)) ((P.enc (s.data.toList.take (k + 1))).map (Value.int .u8)) ∧ Below w.heap.size w w1 := by
  refine ⟨?_, ((hbw.alloc hbw.size _).drew).grown hg (by have := hbw.size; simp; omega) (fun k hk => (hown.lt k hk).1)⟩
  rw [take_snoc h, P.enc_snoc]
  simpa [Nat.mul_add] using hown'
end Go.Proofs.Ytphbochfpidgeaa.Wk
