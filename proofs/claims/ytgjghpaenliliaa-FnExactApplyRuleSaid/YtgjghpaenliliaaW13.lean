/-
  Walks of chapter 2: one item.
  Conditions: none beyond the bounds that each states.
-/
import Derived.Test.YtgjghpaenliliaaW12
import Derived.Test.YtgjghpaenliliaaO1
namespace Go.Proofs.Ytgjghpaenliliaa.Wk
open Go.RowKit Go.Proofs.Ytgjghpaenliliaa.M
set_option linter.unusedVariables false

theorem okV_take {xs : List Int} {k : Nat} {x : Int} (h : P.okV (xs.take k) = true) (hx : xs[k]? = some x) (h1 : P.inR x 0 9 = true) : P.okV (xs.take (k + 1)) = true := by
  have hl := (List.getElem?_eq_some_iff.1 hx).1
  rw [List.take_succ_eq_append_getElem hl]
  rw [List.getElem?_eq_getElem hl] at hx
  injection hx with hx
  subst hx
  unfold P.okV at *
  simp only [List.all_append, h, Bool.true_and, List.all_cons, List.all_nil, Bool.and_true]
  exact h1
theorem okV_bad {xs : List Int} {k : Nat} {x : Int} (hx : xs[k]? = some x) (h1 : P.inR x 0 9 = false) : P.okV xs = false := by
  unfold P.okV
  rw [List.all_eq_false]
  exact ⟨x, List.mem_of_getElem? hx, by simp [h1]⟩
theorem areValues {B : Nat} {A : Option Addr} {n c : Nat} {xs : List Int} (w : World) (h : Sl RI 1 w B A n c xs) : Calls Try.prog 71 #[.slice A n c] w fun e w' => e = .returned (.bool (P.okV xs)) ∧ w = w' := by
  have L1 := Lib.hid h.len
  have m1 := h.max
  have m2 := h.le
  unfold maxLen at m1
  go_enter Try.func71, Try.ntmps71
  go_wp2
  go_loop [4, 7] (fun vx vi => ∃ k : Nat, k ≤ n ∧ vi = .int .i64 k ∧ Hid (P.okV (xs.take k) = true)) (fun _ vi => n - (intOf vi).toNat)
  case atStart => exact ⟨0, Nat.zero_le _, rfl, rfl⟩
  case round =>
    obtain ⟨k, hk, rfl, hok⟩ := hrel
    by_cases hlt : k < n
    · obtain ⟨b, o, x, rfl, hb, hx, hf, hc⟩ := h.int hlt
      have HX := Lib.hid hx
      clear hx h
      cases hr : P.inR x 0 9 with
      | true =>
        have HE := Lib.hid (okV_take hok.out HX.out hr)
        go_wp2_with (go_at_call 42; refine (within _ _ _ _).mono ?_; rintro e w' ⟨rfl, rfl⟩)
        go_round
        case rel => exact ⟨k + 1, by omega, by go_num, HE⟩
        case measure => simp [intOf]; omega
      | false =>
        have HE := Lib.hid (okV_bad HX.out hr)
        go_wp2_with (go_at_call 42; refine (within _ _ _ _).mono ?_; rintro e w' ⟨rfl, rfl⟩)
        go_ret
        exact ⟨ret_bool HE.out.symm, rfl⟩
    · have HE : Hid (P.okV xs = true) := by
        have := hok.out
        rwa [List.take_of_length_le (by have := L1.out; omega)] at this
      clear h
      go_wp2
      go_ret
      exact ⟨ret_bool HE.out.symm, rfl⟩
theorem okI_eq (id : Int) (xs : List Int) (n : Nat) (hn : xs.length = n) : P.okI ⟨id, xs⟩ = (P.inR id 0 99 && decide (n = 3) && P.okV xs) := by subst hn; rfl
theorem implIsItem {B : Nat} {A : Option Addr} {n c : Nat} {id : Int} {xs : List Int} (w : World) (h : Sl RI 1 w B A n c xs) (hB : B ≤ w.heap.size) :
    Calls Try.prog 36 #[.agg #[.int .i64 id, .slice A n c]] w fun e w' => e = .returned (.bool (P.okI ⟨id, xs⟩)) ∧ Below w.heap.size w w' := by
  have h2 : ∀ o, Sl RI 1 (w.alloc o) B A n c xs := fun o => h.below RI.keeps ((Below.refl _ _).alloc hB o)
  rw [okI_eq id xs n h.len]
  have m1 := h.max
  have m2 := h.le
  unfold maxLen at m1
  cases h1 : P.inR id 0 99 with
  | false =>
    clear h h2
    go_enter Try.func36, Try.ntmps36
    go_wp2_with (go_at_call 42; refine (within _ _ _ _).mono ?_; rintro e w' ⟨rfl, rfl⟩)
    go_ret
    exact ⟨rfl, (Below.refl _ _).alloc (Nat.le_refl _) _⟩
  | true =>
    by_cases h3 : n = 3
    · have ht : ((n : Int) == 3) = true := by simp; omega
      have HD : Hid ((true && decide (n = 3) && P.okV xs) = P.okV xs) := by show _ = _; simp [h3]
      clear h3 h
      go_enter Try.func36, Try.ntmps36
      go_wp2_with (first | (go_at_call 42; refine (within _ _ _ _).mono ?_; rintro e w' ⟨rfl, rfl⟩) | (go_at_call 71; refine (areValues _ (h2 _)).mono ?_; rintro e w' ⟨rfl, rfl⟩))
      go_ret
      exact ⟨ret_bool HD.out.symm, (Below.refl _ _).alloc (Nat.le_refl _) _⟩
    · have ht : ((n : Int) == 3) = false := by simp; omega
      have HD : Hid ((true && decide (n = 3) && P.okV xs) = false) := by show _ = _; simp [h3]
      clear h3 h h2
      go_enter Try.func36, Try.ntmps36
      go_wp2_with (go_at_call 42; refine (within _ _ _ _).mono ?_; rintro e w' ⟨rfl, rfl⟩)
      go_ret
      exact ⟨ret_bool HD.out.symm, (Below.refl _ _).alloc (Nat.le_refl _) _⟩
set_option maxHeartbeats 400000 in
theorem specIsItem {B : Nat} {A : Option Addr} {n c : Nat} {id : Int} {xs : List Int} (w : World) (h0 : Sl RI 1 w B A n c xs) (hB : B ≤ w.heap.size) :
    Calls Try.prog 33 #[.agg #[.int .i64 id, .slice A n c]] w fun e w' => e = .returned (.bool (P.okI ⟨id, xs⟩)) ∧ Below w.heap.size w w' := by
  have h : Sl RI 1 (w.alloc (.cells #[.int .i64 id, .slice A n c] 34)) B A n c xs := h0.below RI.keeps ((Below.refl _ _).alloc hB _)
  have HI := Lib.hid (okI_eq id xs n h0.len)
  have L1 := Lib.hid h.len
  have m1 := h.max
  have m2 := h.le
  unfold maxLen at m1
  clear h0
  go_enter Try.func33, Try.ntmps33
  go_wp2
  go_loop [3] (fun vi => ∃ k : Nat, k ≤ n ∧ vi = .int .i64 k ∧ Hid (P.okV (xs.take k) = true)) (fun vi => n - (intOf vi).toNat)
  case atStart => exact ⟨0, Nat.zero_le _, rfl, rfl⟩
  case round =>
    obtain ⟨k, hk, rfl, hok⟩ := hrel
    by_cases hlt : k < n
    · obtain ⟨b, o, x, rfl, hb, hx, hf, hc⟩ := h.int hlt
      have HX := Lib.hid hx
      clear hx h
      cases hr : P.inR x 0 9 with
      | true =>
        have HE := Lib.hid (okV_take hok.out HX.out hr)
        go_wp2_with (go_at_call 39; refine (l1In _ _ _ _).mono ?_; rintro e w' ⟨rfl, rfl⟩)
        go_round
        case rel => exact ⟨k + 1, by omega, by go_num, HE⟩
        case measure => simp [intOf]; omega
      | false =>
        have HE : Hid (P.okI ⟨id, xs⟩ = false) := by
          show _ = _
          rw [HI.out, okV_bad HX.out hr]; simp
        go_wp2_with (go_at_call 39; refine (l1In _ _ _ _).mono ?_; rintro e w' ⟨rfl, rfl⟩)
        go_ret
        exact ⟨ret_bool HE.out.symm, (Below.refl _ _).alloc (Nat.le_refl _) _⟩
    · have HE : Hid (P.okI ⟨id, xs⟩ = (P.inR id 0 99 && decide (n = 3))) := by
        have := hok.out
        rw [List.take_of_length_le (by have := L1.out; omega)] at this
        show _ = _
        rw [HI.out, this]; simp
      clear h
      cases h1 : P.inR id 0 99 with
      | false =>
        go_wp2_with (go_at_call 39; refine (l1In _ _ _ _).mono ?_; rintro e w' ⟨rfl, rfl⟩)
        go_ret
        exact ⟨ret_bool (by rw [HE.out, h1]; rfl), (Below.refl _ _).alloc (Nat.le_refl _) _⟩
      | true =>
        by_cases h3 : n = 3
        · have ht : ((n : Int) == 3) = true := by simp; omega
          have HD := Lib.hid h3
          clear h3
          go_wp2_with (go_at_call 39; refine (l1In _ _ _ _).mono ?_; rintro e w' ⟨rfl, rfl⟩)
          go_ret
          exact ⟨ret_bool (by rw [HE.out, h1, HD.out]; rfl), (Below.refl _ _).alloc (Nat.le_refl _) _⟩
        · have ht : ((n : Int) == 3) = false := by simp; omega
          have HD := Lib.hid h3
          clear h3
          go_wp2_with (go_at_call 39; refine (l1In _ _ _ _).mono ?_; rintro e w' ⟨rfl, rfl⟩)
          go_ret
          exact ⟨ret_bool (by rw [HE.out, h1]; simp [HD.out]), (Below.refl _ _).alloc (Nat.le_refl _) _⟩
theorem szItem {A : Option Addr} {n c : Nat} {id left : Int} (h0 : 0 ≤ left) (h1 : left ≤ 1048576) (hn : n ≤ maxLen) (w : World) :
    Calls Try.prog 12 #[.agg #[.int .i64 id, .slice A n c], .int .i64 left] w fun e w' => e = .returned (.int .i64 (less left n)) ∧ Below w.heap.size w w' := by
  by_cases h : left < n
  · have hv : less left n = -1 := by unfold less; rw [if_pos h]
    go_enter Try.func12, Try.ntmps12
    go_wp2_with fail
    refine (szIntS A n c left h0 h1 hn _).mono ?_
    rintro e w1 ⟨rfl, rfl⟩
    rw [hv]
    have HV := Lib.hid hv
    clear hv
    go_wp2
    go_ret
    exact ⟨ret_int HV.out.symm, (Below.refl _ _).alloc (Nat.le_refl _) _⟩
  · have hv : less left n = left - n := by unfold less; rw [if_neg h]
    go_enter Try.func12, Try.ntmps12
    go_wp2_with fail
    refine (szIntS A n c left h0 h1 hn _).mono ?_
    rintro e w1 ⟨rfl, rfl⟩
    rw [hv]
    have HV := Lib.hid hv
    clear hv
    go_wp2
    go_ret
    exact ⟨ret_int HV.out.symm, (Below.refl _ _).alloc (Nat.le_refl _) _⟩
/-- It returns an item whose numbers lie in a row of the call's own. -/
def OwnIt (w : World) (id : Int) (xs : List Int) (e : Ending) (w' : World) : Prop := ∃ v, e = .returned (.agg #[.int .i64 id, v]) ∧ w'.ownsRow w.heap.size 3 1 v xs.length (xs.map (Value.int .i64)) ∧ Below w.heap.size w w'
theorem OwnIt.read {w : World} {id : Int} {xs : List Int} {e : Ending} {w' : World} (h : OwnIt w id xs e w') (hf : ∀ x ∈ xs, Fit x) :
    ∃ A n c, e = .returned (.agg #[.int .i64 id, .slice A n c]) ∧ Sl RI 1 w' w'.heap.size A n c xs ∧ Below w.heap.size w w' := by
  obtain ⟨v, rfl, ho, hb⟩ := h
  obtain ⟨A, n, c, rfl, hs⟩ := own_ints ho hf
  exact ⟨A, n, c, rfl, hs, hb⟩
set_option maxHeartbeats 400000 in
theorem toItem {A : Option Addr} {n c : Nat} {id : Int} {xs : List Int} (w : World) (h : Sl RI 1 w w.heap.size A n c xs) (hn : n ≤ 1048576) : Calls Try.prog 14 #[.agg #[.int .i64 id, .slice A n c]] w (OwnIt w id xs) := by
  go_enter Try.func14, Try.ntmps14
  go_wp2_with fail
  have hb3 : ∀ o1 o2 o3, Below w.heap.size w (((w.alloc o1).alloc o2).alloc o3) := fun o1 o2 o3 => (((Below.refl _ _).alloc (Nat.le_refl _) _).alloc (by simp) _).alloc (by simp; omega) _
  refine (toIntS _ (h.at_world RI.keeps (hb3 _ _ _) (hb3 _ _ _).size) hn).mono ?_
  rintro e w1 ⟨v, rfl, hown, hb1⟩
  have R2 := (Row.new ((w.alloc (.cells #[.int .i64 id, .slice A n c] 31)).alloc (.cells #[.int .i64 0, .slice none 0 0] 34)) 34 [.int .i64 id, .slice none 0 0]).below hb1 (by simp)
  have R1 := ((Row.new (w.alloc (.cells #[.int .i64 id, .slice A n c] 31)) 34 [.int .i64 0, .slice none 0 0]).alloc (.cells #[.int .i64 id, .slice none 0 0] 34)).below hb1 (by simp)
  have hb := ((hb3 _ _ _).trans (hb1.mono (hb3 _ _ _).size))
  have hown2 := own_mono hown (hb3 _ _ _).size
  simp only [World.size_alloc] at R1 R2 hown
  obtain ⟨A', c', rfl, hc1, hc2⟩ := own_form hown
  have c10 := R1.cell 0
  have c11 := R1.cell 1
  have c20 := R2.cell 0
  have c21 := R2.cell 1
  have f10 := R1.free 0
  have f11 := R1.free 1
  have f20 := R2.free 0
  have f21 := R2.free 1
  simp at c10 c11 c20 c21
  have hlt1 := R1.lt
  have hlt2 := R2.lt
  have HB := Lib.hid hb
  have HO := Lib.hid hown
  clear R1 R2 hb1 hb3 hown hown2 h hb
  go_wp2
  refine bodyPost_ret (v := .agg #[.int .i64 id, .slice A' xs.length c']) (by simp [results, Try.results14, go_sem, c10, c11]) rfl ?_
  refine ⟨_, rfl, ?_, ?_⟩
  · exact own_mono (ownsRow_setCell_below (ownsRow_setCell_below (ownsRow_setCell_below HO.out (by simp) _) (by simp) _) (by simp) _) (by omega)
  · exact ((HB.out.setCell (p := ⟨w.heap.size + 1 + 1, 1, none⟩) (by simp; omega) _).setCell (p := ⟨w.heap.size + 1, 0, none⟩) (by simp) _).setCell (p := ⟨w.heap.size + 1, 1, none⟩) (by simp) _
end Go.Proofs.Ytgjghpaenliliaa.Wk
