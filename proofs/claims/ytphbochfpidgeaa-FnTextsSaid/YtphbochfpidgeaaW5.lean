/-
  Walks of chapter 1: reading hexadecimal digits.
  Conditions: none beyond the bounds that each states.
-/
import Derived.Test.YtphbochfpidgeaaW4
import Derived.Deep.QuietTactic
import Derived.BigQuiet
namespace Go.Proofs.Ytphbochfpidgeaa.Wk
open Go.RowKit
set_option linter.unusedVariables false

theorem getD_at {s : ByteArray} {k : Nat} (h : k < s.size) : (s.data.toList.getD k 0).toNat = s[k].toNat := by rw [getD_of h]
theorem run_at {Pr : Program} (T : TypeId) (hT : Pr.underlying T = some .string) (kd : IntKind) (s : ByteArray) (x : Int) (k : Nat) (hx : x = k) (h : k < s.size) (w : World) :
    (Instr.index T (.string s) (.int kd x)).run Pr w = .ok (.int .u8 (s[k].toNat : Int)) w := by
  subst hx
  have h1 := ByteArray.getElem?_lt' s k h
  simp [Instr.index, asIntOf, run_underlying hT, h1]
/-- What DecodeHex answers. -/
def dhV (s : ByteArray) : Value := .tuple #[.string (strOfNums ((P.dec s.data.toList).getD [])), .bool (P.dec s.data.toList).isSome]
theorem dhV_none {s : ByteArray} (h : P.dec s.data.toList = none) : dhV s = .tuple #[.string ⟨#[]⟩, .bool false] := by unfold dhV; rw [h]; rfl
theorem dhV_some {s : ByteArray} {l : List Int} (h : P.dec s.data.toList = some l) : dhV s = .tuple #[.string (strOfNums l), .bool true] := by unfold dhV; rw [h]; rfl
theorem dh_bad {s : ByteArray} {k : Nat} {acc : List Int} (hk : k + 2 ≤ s.size) (ha : P.dec s.data.toList = (P.dec (s.data.toList.drop k)).map (acc ++ ·))
    (h : P.hx (s.data.toList.getD k 0).toNat < 0 ∨ P.hx (s.data.toList.getD (k + 1) 0).toNat < 0) : P.dec s.data.toList = none := by
  rw [ha, P.dec_step (by simpa using hk), if_pos h]; rfl
theorem dh_good {s : ByteArray} {k : Nat} {acc : List Int} (hk : k + 2 ≤ s.size) (ha : P.dec s.data.toList = (P.dec (s.data.toList.drop k)).map (acc ++ ·))
    (h1 : 0 ≤ P.hx (s.data.toList.getD k 0).toNat) (h2 : 0 ≤ P.hx (s.data.toList.getD (k + 1) 0).toNat) :
    P.dec s.data.toList = (P.dec (s.data.toList.drop (k + 2))).map ((acc ++ [16 * P.hx (s.data.toList.getD k 0).toNat + P.hx (s.data.toList.getD (k + 1) 0).toNat]) ++ ·) := by
  rw [ha, P.dec_step (by simpa using hk), if_neg (by omega), Option.map_map]
  congr 1
  funext r
  simp
theorem dh_end {s : ByteArray} {k : Nat} {acc : List Int} (hk : s.size ≤ k) (ha : P.dec s.data.toList = (P.dec (s.data.toList.drop k)).map (acc ++ ·)) : P.dec s.data.toList = some acc := by
  rw [ha, List.drop_of_length_le (by simpa using hk)]; simp [P.dec]
theorem dh_step {w wr w1 : World} {acc : List Int} {v v' : Value} {o : Obj} {x y : Int} (hown : wr.ownsRow w.heap.size 5 1 v acc.length (acc.map (Value.int .u8)))
    (hbw : Below w.heap.size w wr) (hown' : w1.ownsRow w.heap.size 5 1 v' (acc.length + 1) (acc.map (Value.int .u8) ++ [.int .u8 x])) (hg : (wr.alloc o).grownBy w1 v.ownBlock) (hx : x = y) :
    w1.ownsRow w.heap.size 5 1 v' (acc ++ [y]).length ((acc ++ [y]).map (Value.int .u8)) ∧ Below w.heap.size w w1 := by
  subst hx
  exact ⟨by simpa using hown', (hbw.alloc hbw.size _).grown hg (by have := hbw.size; simp; omega) (fun k hk => (hown.lt k hk).1)⟩
end Go.Proofs.Ytphbochfpidgeaa.Wk
