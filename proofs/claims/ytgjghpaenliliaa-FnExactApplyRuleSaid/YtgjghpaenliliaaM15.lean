/-
  A list of nodes of the call's own that grows by a node. No program stands here.
  Conditions: none.
-/
import Derived.Test.YtgjghpaenliliaaM12
import Derived.Test.YtgjghpaenliliaaM13
namespace Go.Proofs.Ytgjghpaenliliaa.M
open Go Go.RowKit

/-- The rows of a list of nodes that the call is laying. -/
structure PartN (w : World) (lo EN E EP : Nat) (v : Value) (ps : List NdC) : Prop where
  rows : OwnNs w lo E EP ps
  out : w.ownsRow lo EN 6 v ps.length (ndc ps)
  far : ∀ u ∈ ndv ps, Far u v
section
variable {w w' w8 wA w1 : World} {lo lo2 EN E EP gg cap : Nat} {v u1 u2 : Value} {ps : List NdC} {x : Nd}
theorem PartN.below (h : PartN w lo EN E EP v ps) (hb : Below w.heap.size w w') : PartN w' lo EN E EP v ps := ⟨h.rows.below hb, own_below h.out hb, h.far⟩
theorem PartN.nil (w : World) (EN E EP : Nat) : PartN (w.alloc (.cells #[] EN)) w.heap.size EN E EP (.slice (some ⟨w.heap.size, 0, none⟩) 0 0) [] :=
  ⟨OwnNs.nil _ _ _ _, own_emptyS w EN 6, fun u hu => absurd hu (by simp [ndv])⟩
theorem PartN.append (h : PartN w lo EN E EP v ps) (hb : Below w.heap.size w w8) (hn : OwnW w8 lo2 E EP x.wish u1 u2) (hlo2 : w.heap.size ≤ lo2) (hlo : lo ≤ w.heap.size) (hA : Below w8.heap.size w8 wA) (hg : wA.grownBy w1 v.ownBlock)
    (hown1 : w1.ownsRow lo EN 6 (.slice (some ⟨gg, 0, none⟩) (ps.length + 1) cap) (ps.length + 1) (ndc ps ++ nd6 (x, u1, u2))) (hat : v.ownBlock = some gg ∨ gg = wA.heap.size) :
    PartN w1 lo EN E EP (.slice (some ⟨gg, 0, none⟩) (ps.length + 1) cap) (ps ++ [(x, u1, u2)]) := by
  have S := h.rows.snoc (p := (x, u1, u2)) hb hn hlo2 (by omega)
  have key : ∀ u ∈ ndv (ps ++ [(x, u1, u2)]), ∀ q, u.ownBlock = some q → v.ownBlock ≠ some q := by
    intro u hu q hq hv
    rw [ndv_snoc] at hu
    have hvl := (h.out.lt q hv).2
    rcases List.mem_append.1 hu with hu | hu
    · rcases h.far u hu with h1 | h1
      · rw [hq] at h1; cases h1
      · exact h1 (hq.trans hv.symm)
    · simp at hu
      rcases hu with rfl | rfl
      · have := (hn.1.lt q hq).1; omega
      · have := (hn.2.1.lt q hq).1; omega
  have SA := S.below hA
  refine ⟨⟨fun p hp => ?_, S.apart⟩, ?_, fun u hu => ?_⟩
  · obtain ⟨a1, a2, a3⟩ := SA.each p hp
    have m1 : p.2.1 ∈ ndv (ps ++ [(x, u1, u2)]) := List.mem_flatMap.2 ⟨p, hp, by simp⟩
    have m2 : p.2.2 ∈ ndv (ps ++ [(x, u1, u2)]) := List.mem_flatMap.2 ⟨p, hp, by simp⟩
    exact ⟨own_grown a1 hg (fun q hq e => key _ m1 q hq e.symm), own_grown a2 hg (fun q hq e => key _ m2 q hq e.symm), a3⟩
  · rw [ndc_snoc, List.length_append]
    exact hown1
  · cases hq : u.ownBlock with
    | none => exact .inl hq
    | some q =>
      refine .inr fun hh => ?_
      rw [hq] at hh
      have hgq : gg = q := by
        simp [Value.ownBlock] at hh
        exact hh.symm
      rcases hat with h1 | h1
      · exact key u hu q hq (by rw [h1, hgq])
      · have h2 := (S.lt hu hq).2
        have h3 := hA.size
        omega
end
end Go.Proofs.Ytgjghpaenliliaa.M
