/-
  Walks of chapter 1's draws: numbers below a bound, from a list, any number, a text.
  Conditions: none beyond the bounds that each states.
-/
import Derived.Test.YtphbochfpidgeaaW80
namespace Go.Proofs.Ytphbochfpidgeaa.Wk
open Go.RowKit Go.Proofs.Ytphbochfpidgeaa.M
set_option linter.unusedVariables false
attribute [local go_sem] cell_grow

set_option maxHeartbeats 1600000 in
set_option maxRecDepth 100000 in
theorem l1Below {p : Nat} {n : Int} (w : World) (h : Cur w p) (hn : 0 < n) (hf : n ≤ 4611686018427387904) : Calls Try.prog 67 #[.pointer (some ⟨p, 0, none⟩), .int .i64 n] w (DrI w p 0 n) := by
  have q0 : ¬ n ≤ 0 := by omega
  have q00 : ¬ n = 0 := by omega
  have q1 : (n == 0) = false := by simp; omega
  by_cases h2 : n ≤ 256
  · go_enter Try.func67, Try.ntmps67
    go_wp2_with fail
    refine (l1Byte _ h).mono ?_
    rintro e w2 ⟨x, rfl, x0, x1, hC, hD⟩
    go_wp2
    go_ret
    exact ⟨_, rfl, Int.emod_nonneg _ q00, Int.emod_lt_of_pos _ hn, hC, hD⟩
  · go_enter Try.func67, Try.ntmps67
    go_wp2_with fail
    refine (l1Byte _ h).mono ?_
    rintro e w2 ⟨x, rfl, x0, x1, hC, hD⟩
    go_wp2_with fail
    refine (l1Byte _ hC).mono ?_
    rintro e w3 ⟨y, rfl, y0, y1, hC3, hD3⟩
    go_wp2_with fail
    refine (l1Byte _ hC3).mono ?_
    rintro e w4 ⟨z, rfl, z0, z1, hC4, hD4⟩
    go_wp2_with fail
    refine (l1Byte _ hC4).mono ?_
    rintro e w5 ⟨u, rfl, u0, u1, hC5, hD5⟩
    go_wp2
    go_ret
    exact ⟨_, rfl, Int.emod_nonneg _ q00, Int.emod_lt_of_pos _ hn, hC5, ((hD.trans hD3).trans hD4).trans hD5⟩
theorem l1PickInt {p g n c : Nat} {E : TypeId} {xs : List Int} (w : World) (h : Cur w p) (hr : Row w g E (xs.map (Value.int .i64))) (hn : xs.length = n) (hn0 : 0 < n) (hc : n ≤ c) (hb : n ≤ 1000) (hg : g ≠ p) :
    Calls Try.prog 73 #[.pointer (some ⟨p, 0, none⟩), .slice (some ⟨g, 0, none⟩) n c] w fun e w' => ∃ x, e = .returned (.int .i64 x) ∧ x ∈ xs ∧ Cur w' p ∧ Dr p w w' := by
  have q0 : (0 : Int) < (n : Int) := by omega
  go_enter Try.func73, Try.ntmps73
  go_wp2_with fail
  refine (l1Below (n := (n : Int)) _ h q0 (by omega)).mono ?_
  rintro e w2 ⟨x, rfl, x0, x1, hC, hD⟩
  obtain ⟨k, rfl⟩ := Int.eq_ofNat_of_zero_le x0
  have hk : k < xs.length := by omega
  have hR := hr.dr hD hg
  have c0 : w2.cell? ⟨g, k, none⟩ = some (.int .i64 xs[k]) := by rw [hR.cell, List.getElem?_map, List.getElem?_eq_getElem hk]; rfl
  have hlt := hR.lt
  have q1 : (k : Int) < (n : Int) := x1
  have q2 : (n : Int) ≤ (c : Int) := by omega
  obtain ⟨y, hy⟩ : ∃ y, xs[k] = y := ⟨_, rfl⟩
  have hm : y ∈ xs := by rw [← hy]; exact List.getElem_mem hk
  rw [hy] at c0
  clear hR hr hy
  go_wp2
  go_ret
  exact ⟨y, rfl, hm, hC, hD⟩
end Go.Proofs.Ytphbochfpidgeaa.Wk
