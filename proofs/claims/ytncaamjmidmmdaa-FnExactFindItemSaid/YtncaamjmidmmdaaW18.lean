/-
  Walks of chapter 2: FindItem.
  Conditions: none beyond the bounds that each states.
-/
import Derived.Test.YtncaamjmidmmdaaW17
import Derived.Test.YtncaamjmidmmdaaP7
namespace Go.Proofs.Ytncaamjmidmmdaa.Wk
open Go.RowKit Go.Proofs.Ytncaamjmidmmdaa.M
set_option linter.unusedVariables false
attribute [local go_sem] cell_grow

set_option maxHeartbeats 800000 in
theorem specFindItem {A : Option Addr} {n c : Nat} {l : List It} {id : Int} (w : World) (h : Sl RIt 2 w w.heap.size A n c l) (hf : Fit id) : Calls Try.prog 16 #[.slice A n c, .int .i64 id] w fun e w' => e = .returned (.int .i64 (P.findI l id)) ∧ Below w.heap.size w w' := by
  have m1 := Nat.le_trans h.le h.max
  unfold maxLen at m1
  have HL := Lib.hid h.len
  clear hf
  go_enter Try.func16, Try.ntmps16
  go_wp2
  go_loop [5] (fun vk => ∃ k : Nat, k ≤ n ∧ vk = .int .i64 k ∧ Hid (∀ i y, i < k → l[i]? = some y → y.id ≠ id)) (fun vk => n - (intOf vk).toNat)
  case atStart => exact ⟨0, Nat.zero_le _, rfl, fun i x hi => absurd hi (by omega)⟩
  case round =>
    obtain ⟨k, hk, rfl, hup⟩ := hrel
    by_cases hlt : k < n
    · obtain ⟨b, o, x, A1, n1, c1, rfl, hb, hx, hf, hs, g0, g1⟩ := itemAt h hlt
      have HX := Lib.hid hx
      clear hx hs h
      by_cases hid : x.id = id
      · have q : (x.id == id) = true := by simpa using hid
        have HN := Lib.hid (P.findI_at HX.out hid hup.out)
        clear hid
        go_wp2
        go_ret
        exact ⟨ret_int HN.out.symm, Below.refl _ _⟩
      · have q : (x.id == id) = false := by simpa using hid
        have HU := Lib.hid (P.before_step hup.out HX.out hid)
        clear hid
        go_wp2
        go_round
        case rel => exact ⟨k + 1, by omega, by go_num, HU⟩
        case measure => simp [intOf]; omega
    · have HN : Hid (P.findI l id = -1) := P.findI_no (fun i y hi hy => hup.out i y (by have := HL.out; omega) hy)
      clear h
      go_wp2
      go_ret
      exact ⟨ret_int HN.out.symm, Below.refl _ _⟩
theorem isId (x : It) (id : Int) (A : Option Addr) (n c : Nat) (p : Nat) (w : World) (hp : w.cell? ⟨p, 0, none⟩ = some (.int .i64 id)) (hlt : p < w.heap.size) :
    Calls Try.prog 42 #[.agg #[.int .i64 x.id, .slice A n c], .pointer (some ⟨p, 0, none⟩)] w fun e w' => e = .returned (.bool (x.id == id)) ∧ Below w.heap.size w w' := by
  have hp2 : p < w.heap.size + 1 := by omega
  go_enter Try.func42, Try.ntmps42
  go_wp2
  go_ret
  exact ⟨rfl, (Below.refl _ _).alloc (Nat.le_refl _) _⟩
set_option maxHeartbeats 800000 in
theorem indexFunc {A : Option Addr} {n c : Nat} {l : List It} {id : Int} (p : Nat) (w : World) (h : Sl RIt 2 w w.heap.size A n c l) (hp : w.cell? ⟨p, 0, none⟩ = some (.int .i64 id)) (hpl : p < w.heap.size) :
    Calls Try.prog 41 #[.slice A n c, .func (Fn.func 42) #[] #[.pointer (some ⟨p, 0, none⟩)]] w fun e w' => e = .returned (.int .i64 (P.findI l id)) ∧ Below w.heap.size w w' := by
  have m1 := Nat.le_trans h.le h.max
  unfold maxLen at m1
  have HL := Lib.hid h.len
  go_enter Try.func41, Try.ntmps41
  go_wp2
  go_loopw [5, 8] (fun vi vk wr => ∃ k : Nat, k ≤ n ∧ vk = .int .i64 k ∧ Hid (∀ i y, i < k → l[i]? = some y → y.id ≠ id) ∧ Below w.heap.size w wr) (fun _ vk _ => n - (intOf vk).toNat)
  case atStart => exact ⟨0, Nat.zero_le _, rfl, fun i x hi => absurd hi (by omega), Below.refl _ _⟩
  case round =>
    obtain ⟨k, hk, rfl, hup, hbw⟩ := hrel
    by_cases hlt : k < n
    · obtain ⟨b, o, x, A1, n1, c1, rfl, hb, hx, hf, hs, g0, g1⟩ := itemAt h hlt
      have e0 := ((cell_of hbw) b (o + k * 2) hb).trans g0
      have e1 := ((cell_of hbw) b (o + k * 2 + 1) hb).trans g1
      have ep := Lib.hid (((cell_of hbw) p 0 hpl).trans hp)
      have hsz := hbw.size
      have HX := Lib.hid hx
      clear hx hs h hp g0 g1
      by_cases hid : x.id = id
      · have q : (x.id == id) = true := by simpa using hid
        have HN := Lib.hid (P.findI_at HX.out hid hup.out)
        clear hid
        go_wp2_with (go_at_call 42; refine (isId x id A1 n1 c1 p _ ep.out (by omega)).mono ?_; rintro e w2 ⟨rfl, hb2⟩)
        go_ret
        exact ⟨ret_int HN.out.symm, hbw.trans (hb2.mono hsz)⟩
      · have q : (x.id == id) = false := by simpa using hid
        have HU := Lib.hid (P.before_step hup.out HX.out hid)
        clear hid
        go_wp2_with (go_at_call 42; refine (isId x id A1 n1 c1 p _ ep.out (by omega)).mono ?_; rintro e w2 ⟨rfl, hb2⟩)
        go_roundw
        case rel => exact ⟨k + 1, by omega, by go_num, HU, hbw.trans (hb2.mono hsz)⟩
        case measure => simp [intOf]; omega
    · have HN : Hid (P.findI l id = -1) := P.findI_no (fun i y hi hy => hup.out i y (by have := HL.out; omega) hy)
      clear h hp
      go_wp2
      go_ret
      exact ⟨ret_int HN.out.symm, hbw⟩
theorem implFindItem {A : Option Addr} {n c : Nat} {l : List It} {id : Int} (w : World) (h : Sl RIt 2 w w.heap.size A n c l) (hf : Fit id) : Calls Try.prog 18 #[.slice A n c, .int .i64 id] w fun e w' => e = .returned (.int .i64 (P.findI l id)) ∧ Below w.heap.size w w' := by
  have hS := h.on RIt.keeps ((Below.refl _ _).alloc (Nat.le_refl _) (.cells #[.int .i64 id] 3))
  have B1 := (Below.refl w.heap.size w).alloc (Nat.le_refl _) (.cells #[.int .i64 id] 3)
  clear h hf
  go_enter Try.func18, Try.ntmps18
  go_wp2_with fail
  refine (indexFunc (id := id) _ _ hS (by simp) (by simp)).mono ?_
  rintro e w1 ⟨rfl, b1⟩
  have B2 := B1.trans (b1.mono B1.size)
  clear b1 hS B1
  go_wp2
  go_ret
  exact ⟨rfl, B2⟩
end Go.Proofs.Ytncaamjmidmmdaa.Wk
