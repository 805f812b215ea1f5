/-
  Walks of chapter 2: lists of items compared.
  Conditions: none beyond the bounds that each states.
-/
import Derived.Test.YtncaamjmidmmdaaW15
namespace Go.Proofs.Ytncaamjmidmmdaa.Wk
open Go.RowKit Go.Proofs.Ytncaamjmidmmdaa.M
set_option linter.unusedVariables false

deriving instance DecidableEq for It
set_option maxHeartbeats 1600000 in
set_option maxRecDepth 100000 in
/-- Two lists that are the same: the comparison says so. -/
theorem eqItemS_same {A A' : Option Addr} {n n' c c' : Nat} {l : List It} (w : World) (h : Sl RIt 2 w w.heap.size A n c l) (h' : Sl RIt 2 w w.heap.size A' n' c' l) :
    Calls Try.prog 19 #[.slice A n c, .slice A' n' c'] w fun e w' => e = .returned (.bool true) ∧ Below w.heap.size w w' := by
  obtain rfl : n = n' := h.len.symm.trans h'.len
  have m1 := Nat.le_trans h.le h.max
  unfold maxLen at m1
  have ht : ((n : Int) != (n : Int)) = false := by simp
  go_enter Try.func19, Try.ntmps19
  go_wp2
  go_loopw [5] (fun vi wr => ∃ k : Nat, k ≤ n ∧ vi = .int .i64 k ∧ Below w.heap.size w wr) (fun vi _ => n - (intOf vi).toNat)
  case atStart => exact ⟨0, Nat.zero_le _, rfl, Below.refl _ _⟩
  case round =>
    obtain ⟨k, hk, rfl, hbw⟩ := hrel
    by_cases hlt : k < n
    · obtain ⟨b, o, x, A1, n1, c1, rfl, hb, hx, hf, hs, g0, g1⟩ := itemAt h hlt
      obtain ⟨b', o', x', A2, n2, c2, rfl, hb', hx', hf', hs', g0', g1'⟩ := itemAt h' hlt
      obtain rfl : x = x' := by rw [hx] at hx'; injection hx'
      have e0 : wr.cell? ⟨b, o + k * 2, none⟩ = some (.int .i64 x.id) := (hbw.cell (p := ⟨b, o + k * 2, none⟩) hb).trans g0
      have e1 : wr.cell? ⟨b, o + k * 2 + 1, none⟩ = some (.slice A1 n1 c1) := (hbw.cell (p := ⟨b, o + k * 2 + 1, none⟩) hb).trans g1
      have e0' : wr.cell? ⟨b', o' + k * 2, none⟩ = some (.int .i64 x.id) := (hbw.cell (p := ⟨b', o' + k * 2, none⟩) hb').trans g0'
      have e1' : wr.cell? ⟨b', o' + k * 2 + 1, none⟩ = some (.slice A2 n2 c2) := (hbw.cell (p := ⟨b', o' + k * 2 + 1, none⟩) hb').trans g1'
      have HS1 : Hid (Sl RI 1 wr.drew w.heap.size A1 n1 c1 x.vals) := hs.below RI.keeps hbw.drew
      have HS2 : Hid (Sl RI 1 wr.drew w.heap.size A2 n2 c2 x.vals) := hs'.below RI.keeps hbw.drew
      have hsz := hbw.size
      have HB := Lib.hid hbw
      have q1 : (k : Int) < (n : Int) := by omega
      have hd : decide (x.id = x.id ∧ x.vals = x.vals) = true := by simp
      clear g0 g1 g0' g1' hs hs' hx h h' hbw
      go_wp2_with fail
      go_region_held3 (fun w' => w'.cell? ⟨b, o + k * 2, none⟩ = some (.int .i64 x.id) ∧ w'.cell? ⟨b, o + k * 2 + 1, none⟩ = some (.slice A1 n1 c1) ∧ w'.cell? ⟨b', o' + k * 2, none⟩ = some (.int .i64 x.id) ∧ w'.cell? ⟨b', o' + k * 2 + 1, none⟩ = some (.slice A2 n2 c2))
        (first | exact ⟨e0, e1, e0', e1'⟩ | exact ⟨(hb8.cell (p := ⟨b, o + k * 2, none⟩) (by simp; omega)).trans e0, (hb8.cell (p := ⟨b, o + k * 2 + 1, none⟩) (by simp; omega)).trans e1, (hb8.cell (p := ⟨b', o' + k * 2, none⟩) (by simp; omega)).trans e0', (hb8.cell (p := ⟨b', o' + k * 2 + 1, none⟩) (by simp; omega)).trans e1'⟩)
        (first | (go_simp; go_at_call 14; with_reducible (refine (eqItem _ HS1.out HS2.out (by simp; omega) (by simp; omega)).mono ?_); rintro e w8 ⟨rfl, hb8⟩))
      all_goals
        have B2 := HB.out.drew.trans (hb8.mono (by simp; omega))
        clear hb8 e0 e1 e0' e1' q1
        go_wp2
        go_roundw
        case rel => exact ⟨k + 1, by omega, by go_num, B2⟩
        case measure => simp [intOf]; omega
    · clear h h'
      go_wp2
      go_ret
      exact ⟨rfl, hbw⟩
end Go.Proofs.Ytncaamjmidmmdaa.Wk
