/-
  The laws' marks of one item: its row written over with consecutive numbers, and read again.
  Conditions: none beyond the bounds that each states.
-/
import Derived.Test.YtncaamjmidmmdaaU5
import Derived.Test.YtncaamjmidmmdaaM21
namespace Go.Proofs.Ytncaamjmidmmdaa.Wk
open Go.RowKit Go.Proofs.Ytncaamjmidmmdaa.M
set_option linter.unusedVariables false

theorem mark_item {lo hi n c m : Nat} {A : Option Addr} {xs : List Int} {id k : Int} (w : World) (h : OwnQ w lo hi (.slice A n c) xs) (hm : xs.length = m) (h0 : 0 ≤ k) (h1 : k + m ≤ 4611686018427387904) (hh : hi ≤ w.heap.size) :
    Calls Try.prog 34 #[.agg #[.int .i64 id, .slice A n c], .int .i64 k] w fun e w' => e = .returned (.int .i64 (k + m)) ∧ OwnQ w' lo hi (.slice A n c) (allI m k) ∧ Mk lo hi w w' := by
  subst hm
  have B1 := (Below.refl w.heap.size w).alloc (Nat.le_refl _) (.cells #[.int .i64 id, .slice A n c] 27)
  have H := Lib.hid (h.below B1)
  go_enter Try.func34, Try.ntmps34
  go_wp2_with fail
  refine (mark_ints (k := k) _ H.out h0 h1).mono ?_
  rintro e w2 ⟨rfl, o2, c2⟩
  go_wp2
  go_ret
  exact ⟨rfl, o2, (Mk.of_below B1 (Nat.le_refl _)).trans (Mk.of_chg c2 fun b hb => hb)⟩
theorem held_item {lo hi n c m : Nat} {A : Option Addr} {id k : Int} (w : World) (h : OwnQ w lo hi (.slice A n c) (allI m k)) (h0 : 0 ≤ k) (h1 : k + m ≤ 4611686018427387904) :
    Calls Try.prog 35 #[.agg #[.int .i64 id, .slice A n c], .int .i64 k] w fun e w' => e = .returned (.int .i64 (k + m)) ∧ Below w.heap.size w w' := by
  have B1 := (Below.refl w.heap.size w).alloc (Nat.le_refl _) (.cells #[.int .i64 id, .slice A n c] 27)
  have H := Lib.hid (h.below B1)
  have hk : ¬ (k + (m : Int) < 0) := by omega
  go_enter Try.func35, Try.ntmps35
  go_wp2_with fail
  refine (held_ints (k := k) (m := m) _ H.out h0 h1).mono ?_
  rintro e w2 ⟨rfl, rfl⟩
  go_wp2
  go_ret
  exact ⟨rfl, B1⟩
end Go.Proofs.Ytncaamjmidmmdaa.Wk
