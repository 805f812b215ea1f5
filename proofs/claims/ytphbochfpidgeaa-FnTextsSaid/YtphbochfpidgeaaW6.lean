/-
  Walks of chapter 1: EncodeFixed.
  Conditions: none beyond the bounds that each states.
-/
import Derived.Test.YtphbochfpidgeaaW3
import Derived.Test.YtphbochfpidgeaaM4
namespace Go.Proofs.Ytphbochfpidgeaa.Wk
open Go.RowKit
set_option linter.unusedVariables false

theorem conv_one {Pr : Program} (T E S : TypeId) (hT : Pr.underlying T = some (.slice E)) (hE : Pr.underlying E = some (.int .u8)) (hS : Pr.underlying S = some .string) (w : World) (x : Int) :
    (convert T S (.slice (some ⟨w.heap.size, 0, none⟩) 1 1)).run Pr (w.alloc (.cells #[.int .u8 x] E)) = .ok (.string (strOfNums [x])) (w.alloc (.cells #[.int .u8 x] E)) := by
  refine run_convert_bytes_arg _ T E hT hE w.heap.size 0 1 1 [x] rfl (fun i hi => ?_) S hS
  have : i = 0 := by omega
  subst this
  simp
theorem strOfNums_cons (x : Int) (l : List Int) : strOfNums [x] ++ strOfNums l = strOfNums (x :: l) := by
  rw [strOfNums, strOfNums, ByteArray.mk_append_mk]; rfl
theorem add_one {Pr : Program} (x : Int) (l : List Int) (h : l.length ≤ 1048576) (w : World) : (Op.stringOp .add (strOfNums [x]) (strOfNums l)).run Pr w = .ok (.string (strOfNums (x :: l))) w := by
  rw [run_string_add_sum (P := Pr) (w := w) _ _ (by rw [strOfNums_size, strOfNums_size]; simp; omega), strOfNums_cons]
/-- What EncodeFixed writes. -/
def efS (n width : Int) : ByteArray := if P.inR width 1 7 && decide (0 ≤ n) && decide (n.toNat / 256 ^ width.toNat = 0) then strOfNums (P.lo8 width.toNat n.toNat) else ⟨#[]⟩
end Go.Proofs.Ytphbochfpidgeaa.Wk
