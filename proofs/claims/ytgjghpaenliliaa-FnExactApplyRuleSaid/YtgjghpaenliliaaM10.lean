/-
  A table of ten by ten in a block; a whole row stored. No program stands here.
  Conditions: none.
-/
import Derived.Test.YtgjghpaenliliaaM9
import Derived.Test.YtgjghpaenliliaaP10
import Derived.Deep.WholeRow
namespace Go.Proofs.Ytgjghpaenliliaa.M
open Go Go.RowKit

/-- The cells of a table. -/
def matC (M : Nat → Nat → Bool) : List Value := (List.range 100).map fun t => .bool (M (t / 10) (t % 10))
theorem matC_len (M : Nat → Nat → Bool) : (matC M).length = 100 := by simp [matC]
theorem matC_at (M : Nat → Nat → Bool) {i j : Nat} (hi : i < 10) (hj : j < 10) : (matC M)[i * 10 + j]? = some (.bool (M i j)) := by
  unfold matC
  rw [List.getElem?_map, List.getElem?_range (by omega)]
  simp only [Option.map_some, Option.some.injEq]
  rw [show (i * 10 + j) / 10 = i by omega, show (i * 10 + j) % 10 = j by omega]
theorem matC_ext {M N : Nat → Nat → Bool} (h : ∀ x y, x < 10 → y < 10 → M x y = N x y) : matC M = matC N := by
  unfold matC
  apply List.map_congr_left
  intro t ht
  have : t < 100 := by simpa using ht
  rw [h _ _ (by omega) (by omega)]
theorem matC_set (M : Nat → Nat → Bool) {i j : Nat} (hi : i < 10) (hj : j < 10) (v : Bool) : (matC M).set (i * 10 + j) (.bool v) = matC (P.upd M i j v) := by
  apply List.ext_getElem?
  intro t
  rw [List.getElem?_set]
  by_cases e : i * 10 + j = t
  · subst e
    rw [if_pos rfl, if_pos (by rw [matC_len]; omega), matC_at _ hi hj]
    simp [P.upd]
  · rw [if_neg e]
    unfold matC
    rw [List.getElem?_map, List.getElem?_map]
    rcases Nat.lt_or_ge t 100 with ht | ht
    · rw [List.getElem?_range ht]
      simp only [Option.map_some, Option.some.injEq, Value.bool.injEq]
      unfold P.upd
      rw [if_neg (by omega)]
    · rw [List.getElem?_eq_none (by simpa using ht)]
      rfl
theorem matC_one (M : Nat → Nat → Bool) : (matC M).toArray.all (·.oneCell') = true := by
  refine Array.all_eq_true_iff_forall_mem.2 fun v hv => ?_
  simp [matC] at hv
  obtain ⟨t, _, rfl⟩ := hv
  rfl
/-- A whole row is stored into a block that is known whole: the block holds it, and nothing else has turned. -/
theorem store_row {P : Program} {ops : Array Oper} {rest : List Oper} {o : Oper} {a : Act} {w : World} {Q : Exit → Act → World → Prop} (hgd : o.guard = none) (ty : TypeId) (x y : Operand) (ho : o.op = .store ty x y)
    (g : Nat) (cs old : List Value) (t : TypeId) (hx : a.eval x = .pointer (some ⟨g, 0, none⟩)) (hy : a.eval y = .agg cs.toArray) (hg : Row w g t old) (hi : (P.info? ty).map (·.size) = some cs.length) (hl : old.length = cs.length) (h1 : cs.toArray.all (·.oneCell') = true)
    (h : ∀ w', Row w' g t cs → w.grownBy w' (some g) → wpList P ops Q rest (a.put o.dst undef) w') : wpList P ops Q (o :: rest) a w := by
  refine wpList_plain hgd fun K hK => ?_
  have hrun := run_storeVar_row (P := P) w g t ty old.toArray cs.toArray hg.is (by simpa using hi) (by simpa using hl) h1
  unfold Oper.wp execOp
  simp only [ho, hx, hy, Instr.storeAt, Instr.sureAddr, Sem.run_bind, Sem.run_pure, Result.andThen_ok, hrun]
  refine hK _ _ (h _ ⟨setRow_heap w g old.toArray cs.toArray t (0, 0) hg.is⟩ ⟨rfl, rfl, rfl, by simp, fun q hq hne => ?_⟩)
  simp only [World.setRow, Array.getElem?_modify]
  rw [if_neg (by rintro rfl; exact hne rfl)]
end Go.Proofs.Ytgjghpaenliliaa.M
