/-
  Walks of chapter 2: one item.
  Conditions: none beyond the bounds that each states.
-/
import Derived.Test.YtphbochfpidgeaaW12
import Derived.Test.YtphbochfpidgeaaO1
namespace Go.Proofs.Ytphbochfpidgeaa.Wk
open Go.RowKit Go.Proofs.Ytphbochfpidgeaa.M
set_option linter.unusedVariables false

theorem okV_take {xs : List Int} {k : Nat} {x : Int} (h : P.okV (xs.take k) = true) (hx : xs[k]? = some x) (h1 : P.inR x 0 9 = true) : P.okV (xs.take (k + 1)) = true := by
  have hl := (List.getElem?_eq_some_iff.1 hx).1
  rw [List.take_succ_eq_append_getElem hl]
  rw [List.getElem?_eq_getElem hl] at hx
  injection hx with hx
  subst hx
  unfold P.okV at *
  simp only [List.all_append, h, Bool.true_and, List.all_cons, List.all_nil, Bool.and_true]
  exact h1
theorem okV_bad {xs : List Int} {k : Nat} {x : Int} (hx : xs[k]? = some x) (h1 : P.inR x 0 9 = false) : P.okV xs = false := by
  unfold P.okV
  rw [List.all_eq_false]
  exact ⟨x, List.mem_of_getElem? hx, by simp [h1]⟩
theorem areValues {B : Nat} {A : Option Addr} {n c : Nat} {xs : List Int} (w : World) (h : Sl RI 1 w B A n c xs) : Calls Try.prog 74 #[.slice A n c] w fun e w' => e = .returned (.bool (P.okV xs)) ∧ w = w' := by
  have L1 := Lib.hid h.len
  have m1 := h.max
  have m2 := h.le
  unfold maxLen at m1
  go_enter Try.func74, Try.ntmps74
  go_wp2
  go_loop [4, 7] (fun vx vi => ∃ k : Nat, k ≤ n ∧ vi = .int .i64 k ∧ Hid (P.okV (xs.take k) = true)) (fun _ vi => n - (intOf vi).toNat)
  case atStart => exact ⟨0, Nat.zero_le _, rfl, rfl⟩
  case round =>
    obtain ⟨k, hk, rfl, hok⟩ := hrel
    by_cases hlt : k < n
    · obtain ⟨b, o, x, rfl, hb, hx, hf, hc⟩ := h.int hlt
      have HX := Lib.hid hx
      clear hx h
      cases hr : P.inR x 0 9 with
      | true =>
        have HE := Lib.hid (okV_take hok.out HX.out hr)
        go_wp2_with (go_at_call 56; refine (within _ _ _ _).mono ?_; rintro e w' ⟨rfl, rfl⟩)
        go_round
        case rel => exact ⟨k + 1, by omega, by go_num, HE⟩
        case measure => simp [intOf]; omega
      | false =>
        have HE := Lib.hid (okV_bad HX.out hr)
        go_wp2_with (go_at_call 56; refine (within _ _ _ _).mono ?_; rintro e w' ⟨rfl, rfl⟩)
        go_ret
        exact ⟨ret_bool HE.out.symm, rfl⟩
    · have HE : Hid (P.okV xs = true) := by
        have := hok.out
        rwa [List.take_of_length_le (by have := L1.out; omega)] at this
      clear h
      go_wp2
      go_ret
      exact ⟨ret_bool HE.out.symm, rfl⟩
theorem okI_eq (id : Int) (xs : List Int) (n : Nat) (hn : xs.length = n) : P.okI ⟨id, xs⟩ = (P.inR id 0 99 && decide (n = 3) && P.okV xs) := by subst hn; rfl
theorem implIsItem {B : Nat} {A : Option Addr} {n c : Nat} {id : Int} {xs : List Int} (w : World) (h : Sl RI 1 w B A n c xs) (hB : B ≤ w.heap.size) :
    Calls Try.prog 40 #[.agg #[.int .i64 id, .slice A n c]] w fun e w' => e = .returned (.bool (P.okI ⟨id, xs⟩)) ∧ Below w.heap.size w w' := by
  have h2 : ∀ o, Sl RI 1 (w.alloc o) B A n c xs := fun o => h.below RI.keeps ((Below.refl _ _).alloc hB o)
  rw [okI_eq id xs n h.len]
  have m1 := h.max
  have m2 := h.le
  unfold maxLen at m1
  cases h1 : P.inR id 0 99 with
  | false =>
    clear h h2
    go_enter Try.func40, Try.ntmps40
    go_wp2_with (go_at_call 56; refine (within _ _ _ _).mono ?_; rintro e w' ⟨rfl, rfl⟩)
    go_ret
    exact ⟨rfl, (Below.refl _ _).alloc (Nat.le_refl _) _⟩
  | true =>
    by_cases h3 : n = 3
    · have ht : ((n : Int) == 3) = true := by simp; omega
      have HD : Hid ((true && decide (n = 3) && P.okV xs) = P.okV xs) := by show _ = _; simp [h3]
      clear h3 h
      go_enter Try.func40, Try.ntmps40
      go_wp2_with (first | (go_at_call 56; refine (within _ _ _ _).mono ?_; rintro e w' ⟨rfl, rfl⟩) | (go_at_call 74; refine (areValues _ (h2 _)).mono ?_; rintro e w' ⟨rfl, rfl⟩))
      go_ret
      exact ⟨ret_bool HD.out.symm, (Below.refl _ _).alloc (Nat.le_refl _) _⟩
    · have ht : ((n : Int) == 3) = false := by simp; omega
      have HD : Hid ((true && decide (n = 3) && P.okV xs) = false) := by show _ = _; simp [h3]
      clear h3 h h2
      go_enter Try.func40, Try.ntmps40
      go_wp2_with (go_at_call 56; refine (within _ _ _ _).mono ?_; rintro e w' ⟨rfl, rfl⟩)
      go_ret
      exact ⟨ret_bool HD.out.symm, (Below.refl _ _).alloc (Nat.le_refl _) _⟩
set_option maxHeartbeats 400000 in
theorem specIsItem {B : Nat} {A : Option Addr} {n c : Nat} {id : Int} {xs : List Int} (w : World) (h0 : Sl RI 1 w B A n c xs) (hB : B ≤ w.heap.size) :
    Calls Try.prog 12 #[.agg #[.int .i64 id, .slice A n c]] w fun e w' => e = .returned (.bool (P.okI ⟨id, xs⟩)) ∧ Below w.heap.size w w' := by
  have h : Sl RI 1 (w.alloc (.cells #[.int .i64 id, .slice A n c] 26)) B A n c xs := h0.below RI.keeps ((Below.refl _ _).alloc hB _)
  have HI := Lib.hid (okI_eq id xs n h0.len)
  have L1 := Lib.hid h.len
  have m1 := h.max
  have m2 := h.le
  unfold maxLen at m1
  clear h0
  go_enter Try.func12, Try.ntmps12
  go_wp2
  go_loop [3] (fun vi => ∃ k : Nat, k ≤ n ∧ vi = .int .i64 k ∧ Hid (P.okV (xs.take k) = true)) (fun vi => n - (intOf vi).toNat)
  case atStart => exact ⟨0, Nat.zero_le _, rfl, rfl⟩
  case round =>
    obtain ⟨k, hk, rfl, hok⟩ := hrel
    by_cases hlt : k < n
    · obtain ⟨b, o, x, rfl, hb, hx, hf, hc⟩ := h.int hlt
      have HX := Lib.hid hx
      clear hx h
      cases hr : P.inR x 0 9 with
      | true =>
        have HE := Lib.hid (okV_take hok.out HX.out hr)
        go_wp2_with (go_at_call 51; refine (l1In _ _ _ _).mono ?_; rintro e w' ⟨rfl, rfl⟩)
        go_round
        case rel => exact ⟨k + 1, by omega, by go_num, HE⟩
        case measure => simp [intOf]; omega
      | false =>
        have HE : Hid (P.okI ⟨id, xs⟩ = false) := by
          show _ = _
          rw [HI.out, okV_bad HX.out hr]; simp
        go_wp2_with (go_at_call 51; refine (l1In _ _ _ _).mono ?_; rintro e w' ⟨rfl, rfl⟩)
        go_ret
        exact ⟨ret_bool HE.out.symm, (Below.refl _ _).alloc (Nat.le_refl _) _⟩
    · have HE : Hid (P.okI ⟨id, xs⟩ = (P.inR id 0 99 && decide (n = 3))) := by
        have := hok.out
        rw [List.take_of_length_le (by have := L1.out; omega)] at this
        show _ = _
        rw [HI.out, this]; simp
      clear h
      cases h1 : P.inR id 0 99 with
      | false =>
        go_wp2_with (go_at_call 51; refine (l1In _ _ _ _).mono ?_; rintro e w' ⟨rfl, rfl⟩)
        go_ret
        exact ⟨ret_bool (by rw [HE.out, h1]; rfl), (Below.refl _ _).alloc (Nat.le_refl _) _⟩
      | true =>
        by_cases h3 : n = 3
        · have ht : ((n : Int) == 3) = true := by simp; omega
          have HD := Lib.hid h3
          clear h3
          go_wp2_with (go_at_call 51; refine (l1In _ _ _ _).mono ?_; rintro e w' ⟨rfl, rfl⟩)
          go_ret
          exact ⟨ret_bool (by rw [HE.out, h1, HD.out]; rfl), (Below.refl _ _).alloc (Nat.le_refl _) _⟩
        · have ht : ((n : Int) == 3) = false := by simp; omega
          have HD := Lib.hid h3
          clear h3
          go_wp2_with (go_at_call 51; refine (l1In _ _ _ _).mono ?_; rintro e w' ⟨rfl, rfl⟩)
          go_ret
          exact ⟨ret_bool (by rw [HE.out, h1]; simp [HD.out]), (Below.refl _ _).alloc (Nat.le_refl _) _⟩
/-- It returns an item whose numbers lie in a row of the call's own. -/
def OwnIt (w : World) (id : Int) (xs : List Int) (e : Ending) (w' : World) : Prop := ∃ v, e = .returned (.agg #[.int .i64 id, v]) ∧ w'.ownsRow w.heap.size 3 1 v xs.length (xs.map (Value.int .i64)) ∧ Below w.heap.size w w'
theorem OwnIt.read {w : World} {id : Int} {xs : List Int} {e : Ending} {w' : World} (h : OwnIt w id xs e w') (hf : ∀ x ∈ xs, Fit x) :
    ∃ A n c, e = .returned (.agg #[.int .i64 id, .slice A n c]) ∧ Sl RI 1 w' w'.heap.size A n c xs ∧ Below w.heap.size w w' := by
  obtain ⟨v, rfl, ho, hb⟩ := h
  obtain ⟨A, n, c, rfl, hs⟩ := own_ints ho hf
  exact ⟨A, n, c, rfl, hs, hb⟩
end Go.Proofs.Ytphbochfpidgeaa.Wk
