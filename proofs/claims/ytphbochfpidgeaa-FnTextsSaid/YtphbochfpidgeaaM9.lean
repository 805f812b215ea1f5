/-
  Lists of pairs as the call lays them: cells in twos. No program stands here.
  Conditions: none.
-/
import Derived.Test.YtphbochfpidgeaaM8
namespace Go.Proofs.Ytphbochfpidgeaa.M
open Go Go.RowKit

def p2 (p : Int × Int) : Int × Value := (p.1, .int .i64 p.2)
def prc (l : List (Int × Int)) : List Value := itc (l.map p2)
theorem prc_len (l : List (Int × Int)) : (prc l).length = l.length * 2 := by unfold prc; rw [itc_len, List.length_map]
theorem prc_set (l : List (Int × Int)) (k : Nat) (p : Int × Int) : ((prc l).set (k * 2) (.int .i64 p.1)).set (k * 2 + 1) (.int .i64 p.2) = prc (l.set k p) := by
  unfold prc
  have := itc_set (l.map p2) k (p2 p)
  simp only [p2] at this
  rw [List.map_set]
  exact this
theorem prc_at (l : List (Int × Int)) (k : Nat) (p : Int × Int) (h : l[k]? = some p) : (prc l)[k * 2]? = some (.int .i64 p.1) ∧ (prc l)[k * 2 + 1]? = some (.int .i64 p.2) := by
  unfold prc
  exact itc_at (l.map p2) k (p2 p) (by rw [List.getElem?_map, h]; rfl)
theorem prc_snoc (l : List (Int × Int)) (p : Int × Int) : prc (l ++ [p]) = prc l ++ [.int .i64 p.1, .int .i64 p.2] := by
  unfold prc itc
  rw [List.map_append, List.flatMap_append]
  rfl
theorem prc_flat (l : List (Int × Int)) : (l.map fun p => [Value.int .i64 p.1, .int .i64 p.2]).flatten = prc l := by
  induction l with
  | nil => rfl
  | cons a t ih =>
    rw [List.map_cons, List.flatten_cons, ih]
    rfl
theorem prc_take_snoc {l : List (Int × Int)} {k : Nat} {p : Int × Int} (h : l[k]? = some p) : prc (l.take k) ++ [.int .i64 p.1, .int .i64 p.2] = prc (l.take (k + 1)) := by
  obtain ⟨hl, e⟩ := List.getElem?_eq_some_iff.1 h
  rw [List.take_succ_eq_append_getElem hl, e, prc_snoc]
theorem own_pairs {w : World} {base E : Nat} {v : Value} {l : List (Int × Int)} (h : w.ownsRow base E 2 v l.length (prc l)) (hf : ∀ p ∈ l, Fit p.1 ∧ Fit p.2) : V RP 2 w w.heap.size v l := by
  refine own_V (css := l.map fun p => [Value.int .i64 p.1, .int .i64 p.2]) (by rw [prc_flat]; exact h) (by simp) (fun i x cs hx hc => ?_)
  rw [List.getElem?_map, hx] at hc
  simp at hc
  subst hc
  exact ⟨rfl, rfl, hf x (List.mem_of_getElem? hx)⟩
/-- Pair k of a list in memory. -/
theorem pairAt {w : World} {B n c k : Nat} {A : Option Addr} {l : List (Int × Int)} (h : Sl RP 2 w B A n c l) (hk : k < n) :
    ∃ b o p, A = some ⟨b, o, none⟩ ∧ b < B ∧ l[k]? = some p ∧ Fit p.1 ∧ Fit p.2 ∧ w.cell? ⟨b, o + k * 2, none⟩ = some (.int .i64 p.1) ∧ w.cell? ⟨b, o + k * 2 + 1, none⟩ = some (.int .i64 p.2) := by
  obtain ⟨b, o, x, cs, e, hlt, hx, _, ⟨rfl, hf, hg⟩, hc⟩ := h.get hk
  exact ⟨b, o, x, e, hlt, hx, hf, hg, by simpa using hc 0 (.int .i64 x.1) rfl, by have := hc 1 (.int .i64 x.2) rfl; rwa [← Nat.add_assoc] at this⟩
theorem fitPairs {w : World} {B n c : Nat} {A : Option Addr} {l : List (Int × Int)} (h : Sl RP 2 w B A n c l) : ∀ p ∈ l, Fit p.1 ∧ Fit p.2 := by
  intro x hx
  obtain ⟨i, hi⟩ := List.getElem?_of_mem hx
  have hin : i < n := by have := (List.getElem?_eq_some_iff.1 hi).1; have := h.len; omega
  obtain ⟨b, o, y, _, _, hy, h1, h2, _, _⟩ := pairAt h hin
  rw [hi] at hy
  injection hy with hy
  subst hy
  exact ⟨h1, h2⟩
end Go.Proofs.Ytphbochfpidgeaa.M
