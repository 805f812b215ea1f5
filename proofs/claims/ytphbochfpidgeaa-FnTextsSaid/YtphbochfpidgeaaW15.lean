/-
  Walks of chapter 2: lists of items measured, copied, compared.
  Conditions: none beyond the bounds that each states.
-/
import Derived.Test.YtphbochfpidgeaaW14
import Derived.Test.YtphbochfpidgeaaM6
namespace Go.Proofs.Ytphbochfpidgeaa.Wk
open Go.RowKit Go.Proofs.Ytphbochfpidgeaa.M
set_option linter.unusedVariables false

/-- How many values a list of items holds, the items themselves counted too. -/
def totI : List It → Nat
  | [] => 0
  | x :: t => 1 + x.vals.length + totI t
def valsOf (l : List It) (k : Nat) : Nat := ((l.take k).map fun x => x.vals.length).sum
theorem valsOf_succ {l : List It} {k : Nat} {x : It} (hx : l[k]? = some x) : valsOf l (k + 1) = valsOf l k + x.vals.length := by
  have hl := (List.getElem?_eq_some_iff.1 hx).1
  unfold valsOf
  rw [List.take_succ_eq_append_getElem hl]
  rw [List.getElem?_eq_getElem hl] at hx
  injection hx with hx
  rw [hx]; simp
theorem totI_eq (l : List It) : totI l = l.length + valsOf l l.length := by
  have : ∀ l : List It, totI l = l.length + (l.map fun x => x.vals.length).sum := by
    intro l
    induction l with
    | nil => rfl
    | cons a t ih => simp only [totI, List.length_cons, List.map_cons, List.sum_cons]; omega
  rw [this]; unfold valsOf; rw [List.take_length]
theorem valsOf_le (l : List It) : ∀ k, valsOf l k ≤ valsOf l l.length := by
  intro k
  unfold valsOf
  rw [List.take_length]
  induction l generalizing k with
  | nil => simp
  | cons a t ih =>
    cases k with
    | zero => simp
    | succ k => simp only [List.take_succ_cons, List.map_cons, List.sum_cons]; have := ih k; omega
/-- Item k of a list in memory. -/
theorem itemAt {w : World} {B n c k : Nat} {A : Option Addr} {l : List It} (h : Sl RIt 2 w B A n c l) (hk : k < n) :
    ∃ b o x A1 n1 c1, A = some ⟨b, o, none⟩ ∧ b < B ∧ l[k]? = some x ∧ Fit x.id ∧ Sl RI 1 w B A1 n1 c1 x.vals ∧ w.cell? ⟨b, o + k * 2, none⟩ = some (.int .i64 x.id) ∧ w.cell? ⟨b, o + k * 2 + 1, none⟩ = some (.slice A1 n1 c1) := by
  obtain ⟨b, o, x, cs, e, hlt, hx, _, ⟨v, rfl, hf, A1, n1, c1, rfl, hs⟩, hc⟩ := h.get hk
  exact ⟨b, o, x, A1, n1, c1, e, hlt, hx, hf, hs, by simpa using hc 0 (.int .i64 x.id) rfl, by have := hc 1 (.slice A1 n1 c1) rfl; rwa [← Nat.add_assoc] at this⟩
theorem info_item : (Try.prog.info? 26).map (fun i => (i.zero, i.size, i.bytes)) = some (some (.agg #[.int .i64 0, .slice none 0 0]), 2, 32) := by kernel_rfl
/-- It returns a list of items that the call laid. -/
def RetIts (w : World) (l : List It) (e : Ending) (w' : World) : Prop := ∃ v, e = .returned v ∧ OwnIts w' w.heap.size 26 3 v l ∧ Below w.heap.size w w'
end Go.Proofs.Ytphbochfpidgeaa.Wk
