/-
  Walks of chapter 4: IsWish.
  Conditions: none beyond the bounds that each states.
-/
import Derived.Test.YtgjghpaenliliaaW31
import Derived.Test.YtgjghpaenliliaaW32
import Derived.Test.YtgjghpaenliliaaP12
namespace Go.Proofs.Ytgjghpaenliliaa.Wk
open Go.RowKit Go.Proofs.Ytgjghpaenliliaa.M
set_option linter.unusedVariables false
attribute [local go_sem] cell_grow

set_option maxHeartbeats 1600000 in
theorem l4List {A : Option Addr} {n c : Nat} {xs : List Int} (w : World) (h : Sl RI 1 w w.heap.size A n c xs) : Calls Try.prog 86 #[.slice A n c] w fun e w' => e = .returned (.bool (P.okL xs && decide (xs ≠ []))) ∧ Below w.heap.size w w' := by
  have m1 := Nat.le_trans h.le h.max
  unfold maxLen at m1
  have HL := Lib.hid h.len
  go_enter Try.func86, Try.ntmps86
  go_wp2
  go_loopw [3] (fun vk wr => ∃ k : Nat, k ≤ n ∧ vk = .int .i64 k ∧ Hid (P.upL xs k) ∧ Below w.heap.size w wr) (fun vk _ => n - (intOf vk).toNat)
  case atStart => exact ⟨0, Nat.zero_le _, rfl, fun i x hi => absurd hi (by omega), Below.refl _ _⟩
  case round =>
    obtain ⟨k, hk, rfl, hup, hbw⟩ := hrel
    have hC := cell_of hbw
    have hsz := hbw.size
    by_cases hlt : k < n
    · obtain ⟨b, o, x, rfl, hb, hx, hf, g0⟩ := h.int hlt
      have hb1 : b < wr.heap.size := by omega
      have q1 : (k : Int) < (n : Int) := by omega
      have HX := Lib.hid hx
      clear hx
      cases hr : P.inR x 0 9 with
      | false =>
        have HE : Hid ((P.okL xs && decide (xs ≠ [])) = false) := by show _ = _; rw [P.okL_bad1 HX.out hr]; rfl
        clear h
        go_wp2_with fail
        refine wp_region_qb (by kernel_rfl) (by kernel_rfl) ?_; (repeat (go_big_quiet_step ((go_at_call 39; exact quietSb hr (l1In _ _ _ _))))); refine wpQuiet_nil ?_; intro w8 hb8
        go_wp2
        go_ret
        exact ⟨ret_bool HE.out.symm, hbw.trans (hb8.mono hsz)⟩
      | true =>
        by_cases h0 : k = 0
        · have q0 : decide (0 < k) = false := by simp; omega
          have HU := Lib.hid (P.upL_step hup.out HX.out hr (fun y hy => absurd hy (by omega)))
          clear h h0
          go_wp2_with fail
          refine wp_region_qb (by kernel_rfl) (by kernel_rfl) ?_; (repeat (go_big_quiet_step ((go_at_call 39; exact quietSb hr (l1In _ _ _ _))))); refine wpQuiet_nil ?_; intro w8 hb8
          go_wp2
          go_roundw
          case rel => exact ⟨k + 1, by omega, by go_num, HU, hbw.trans (hb8.mono hsz)⟩
          case measure => simp [intOf]; omega
        · have hk1 : 1 ≤ k := by omega
          have q0 : decide (0 < k) = true := by simp; omega
          have e0 : IntKind.i64.wrap ((k : Int) - 1) = (k : Int) - 1 := IntWalk.i64_in _ (by omega)
          have e1 : ((k : Int) - 1).toNat = k - 1 := by omega
          obtain ⟨b', o', y, hA, hb', hy, hf', g0'⟩ := h.int (show k - 1 < n by omega)
          injection hA with hA
          injection hA with hA1 hA2
          subst hA1 hA2
          have HY := Lib.hid hy
          clear hy hb' h
          by_cases hid : x ≤ y
          · have q2 : decide (x ≤ y) = true := by simpa using hid
            have HE : Hid ((P.okL xs && decide (xs ≠ [])) = false) := by show _ = _; rw [P.okL_bad2 (k := k - 1) HY.out (by rw [show k - 1 + 1 = k by omega]; exact HX.out) hid]; rfl
            go_wp2_with fail
            refine wp_region_qb (by kernel_rfl) (by kernel_rfl) ?_; (repeat (go_big_quiet_step ((go_at_call 39; exact quietSb hr (l1In _ _ _ _))))); refine wpQuiet_nil ?_; intro w8 hb8
            go_wp2
            go_ret
            exact ⟨ret_bool HE.out.symm, hbw.trans (hb8.mono hsz)⟩
          · have q2 : decide (x ≤ y) = false := by simpa using hid
            have HU := Lib.hid (P.upL_step hup.out HX.out hr (fun z _ hz => by rw [HY.out] at hz; injection hz with hz; omega))
            go_wp2_with fail
            refine wp_region_qb (by kernel_rfl) (by kernel_rfl) ?_; (repeat (go_big_quiet_step ((go_at_call 39; exact quietSb hr (l1In _ _ _ _))))); refine wpQuiet_nil ?_; intro w8 hb8
            go_wp2
            go_roundw
            case rel => exact ⟨k + 1, by omega, by go_num, HU, hbw.trans (hb8.mono hsz)⟩
            case measure => simp [intOf]; omega
    · have HE : Hid ((P.okL xs && decide (xs ≠ [])) = decide (0 < n)) := by
        show _ = _
        rw [P.upL_all (by rw [HL.out, ← show k = n by omega]; exact hup.out), Bool.true_and]
        apply decide_eq_decide.2
        rw [← HL.out]
        exact List.length_pos_iff.symm
      clear h hC
      go_wp2
      go_ret
      exact ⟨ret_bool HE.out.symm, hbw⟩
theorem nil_iff {α : Type} {l : List α} {n : Nat} (h : l.length = n) : l = [] ↔ n = 0 := by
  constructor
  · rintro rfl; exact h.symm
  · intro e; exact List.eq_nil_of_length_eq_zero (by omega)
set_option maxHeartbeats 3200000 in
set_option maxRecDepth 100000 in
theorem specIsWish {A E : Option Addr} {n c m d : Nat} {x : Wi} (w : World) (h : Sl RI 1 w w.heap.size A n c x.list) (g : Sl RP 2 w w.heap.size E m d x.pairs) :
    Calls Try.prog 56 #[.agg #[.int .i64 x.kind, .int .i64 x.field, .int .i64 x.value, .slice A n c, .slice E m d]] w fun e w' => e = .returned (.bool (P.okW x)) ∧ Below w.heap.size w w' := by
  obtain ⟨kind, field, value, list, pairs⟩ := x
  simp only at h g ⊢
  have BW := (Below.refl w.heap.size w).alloc (Nat.le_refl _) (.cells #[.int .i64 kind, .int .i64 field, .int .i64 value, .slice A n c, .slice E m d] 53)
  have hsz := BW.size
  have H := Lib.hid (h.on RI.keeps BW)
  have G := Lib.hid (g.on RP.keeps BW)
  have NL := nil_iff h.len
  have NM := nil_iff g.len
  have m1 := Nat.le_trans h.le h.max
  have m2 := Nat.le_trans g.le g.max
  unfold maxLen at m1 m2

  cases hfd : P.inR field 0 2 with
  | false =>
    have HE : Hid (P.okW ⟨kind, field, value, list, pairs⟩ = false) := P.okW_f1 hfd
    clear h g NL NM
    go_enter Try.func56, Try.ntmps56
    go_wp2_with (first | (go_at_call 39; refine (l1In _ _ _ _).mono ?_; rintro e w' ⟨rfl, rfl⟩))
    go_ret
    exact ⟨ret_bool HE.out.symm, BW⟩
  | true =>
    by_cases k0 : kind = 0
    · subst k0
      by_cases hv : value = 0
      · have tv : (value == 0) = true := by simpa using hv
        by_cases hn0 : n = 0
        · have tn : ((n : Int) == 0) = true := by simp [hn0]
          have hl : list = [] := NL.2 hn0
          by_cases hm0 : m = 0
          · have tm : ((m : Int) == 0) = true := by simp [hm0]
            have hp : pairs = [] := NM.2 hm0
            have HE : Hid (P.okW ⟨0, field, value, list, pairs⟩ = true) := by
              show _ = _
              unfold P.okW
              simp [hv, hl, hp, hfd]
            clear h g NL NM hv hn0 hl hm0 hp
            go_enter Try.func56, Try.ntmps56
            go_wp2_with (first | (go_at_call 39; refine (l1In _ _ _ _).mono ?_; rintro e w' ⟨rfl, rfl⟩))
            go_ret
            exact ⟨ret_bool HE.out.symm, BW⟩
          · have tm : ((m : Int) == 0) = false := by simp; omega
            have hp : pairs ≠ [] := fun e => hm0 (NM.1 e)
            have HE : Hid (P.okW ⟨0, field, value, list, pairs⟩ = false) := by
              show _ = _
              unfold P.okW
              simp [hv, hl, hp, hfd]
            clear h g NL NM hv hn0 hl hm0 hp
            go_enter Try.func56, Try.ntmps56
            go_wp2_with (first | (go_at_call 39; refine (l1In _ _ _ _).mono ?_; rintro e w' ⟨rfl, rfl⟩))
            go_ret
            exact ⟨ret_bool HE.out.symm, BW⟩
        · have tn : ((n : Int) == 0) = false := by simp; omega
          have hl : list ≠ [] := fun e => hn0 (NL.1 e)
          have HE : Hid (P.okW ⟨0, field, value, list, pairs⟩ = false) := by
            show _ = _
            unfold P.okW
            simp [hv, hl, hfd]
          clear h g NL NM hv hn0 hl
          go_enter Try.func56, Try.ntmps56
          go_wp2_with (first | (go_at_call 39; refine (l1In _ _ _ _).mono ?_; rintro e w' ⟨rfl, rfl⟩))
          go_ret
          exact ⟨ret_bool HE.out.symm, BW⟩
      · have tv : (value == 0) = false := by simpa using hv
        have HE : Hid (P.okW ⟨0, field, value, list, pairs⟩ = false) := by
          show _ = _
          unfold P.okW
          simp [hv, hfd]
        clear h g NL NM hv
        go_enter Try.func56, Try.ntmps56
        go_wp2_with (first | (go_at_call 39; refine (l1In _ _ _ _).mono ?_; rintro e w' ⟨rfl, rfl⟩))
        go_ret
        exact ⟨ret_bool HE.out.symm, BW⟩
    by_cases k1 : kind = 1
    · subst k1
      by_cases hv : value = 0
      · have tv : (value == 0) = true := by simpa using hv
        by_cases hn0 : n = 0
        · have tn : ((n : Int) == 0) = true := by simp [hn0]
          have hl : list = [] := NL.2 hn0
          by_cases hm0 : m = 0
          · have tm : ((m : Int) == 0) = true := by simp [hm0]
            have hp : pairs = [] := NM.2 hm0
            have HE : Hid (P.okW ⟨1, field, value, list, pairs⟩ = true) := by
              show _ = _
              unfold P.okW
              simp [hv, hl, hp, hfd]
            clear h g NL NM hv hn0 hl hm0 hp
            go_enter Try.func56, Try.ntmps56
            go_wp2_with (first | (go_at_call 39; refine (l1In _ _ _ _).mono ?_; rintro e w' ⟨rfl, rfl⟩))
            go_ret
            exact ⟨ret_bool HE.out.symm, BW⟩
          · have tm : ((m : Int) == 0) = false := by simp; omega
            have hp : pairs ≠ [] := fun e => hm0 (NM.1 e)
            have HE : Hid (P.okW ⟨1, field, value, list, pairs⟩ = false) := by
              show _ = _
              unfold P.okW
              simp [hv, hl, hp, hfd]
            clear h g NL NM hv hn0 hl hm0 hp
            go_enter Try.func56, Try.ntmps56
            go_wp2_with (first | (go_at_call 39; refine (l1In _ _ _ _).mono ?_; rintro e w' ⟨rfl, rfl⟩))
            go_ret
            exact ⟨ret_bool HE.out.symm, BW⟩
        · have tn : ((n : Int) == 0) = false := by simp; omega
          have hl : list ≠ [] := fun e => hn0 (NL.1 e)
          have HE : Hid (P.okW ⟨1, field, value, list, pairs⟩ = false) := by
            show _ = _
            unfold P.okW
            simp [hv, hl, hfd]
          clear h g NL NM hv hn0 hl
          go_enter Try.func56, Try.ntmps56
          go_wp2_with (first | (go_at_call 39; refine (l1In _ _ _ _).mono ?_; rintro e w' ⟨rfl, rfl⟩))
          go_ret
          exact ⟨ret_bool HE.out.symm, BW⟩
      · have tv : (value == 0) = false := by simpa using hv
        have HE : Hid (P.okW ⟨1, field, value, list, pairs⟩ = false) := by
          show _ = _
          unfold P.okW
          simp [hv, hfd]
        clear h g NL NM hv
        go_enter Try.func56, Try.ntmps56
        go_wp2_with (first | (go_at_call 39; refine (l1In _ _ _ _).mono ?_; rintro e w' ⟨rfl, rfl⟩))
        go_ret
        exact ⟨ret_bool HE.out.symm, BW⟩
    by_cases k2 : kind = 2
    · subst k2
      cases hr : P.inR value 0 9 with
      | true =>
        by_cases hn0 : n = 0
        · have tn : ((n : Int) == 0) = true := by simp [hn0]
          have hl : list = [] := NL.2 hn0
          by_cases hm0 : m = 0
          · have tm : ((m : Int) == 0) = true := by simp [hm0]
            have hp : pairs = [] := NM.2 hm0
            have HE : Hid (P.okW ⟨2, field, value, list, pairs⟩ = true) := by
              show _ = _
              unfold P.okW
              simp [hr, hl, hp, hfd]
            clear h g NL NM hn0 hl hm0 hp
            go_enter Try.func56, Try.ntmps56
            go_wp2_with (first | (go_at_call 39; refine (l1In _ _ _ _).mono ?_; rintro e w' ⟨rfl, rfl⟩))
            go_ret
            exact ⟨ret_bool HE.out.symm, BW⟩
          · have tm : ((m : Int) == 0) = false := by simp; omega
            have hp : pairs ≠ [] := fun e => hm0 (NM.1 e)
            have HE : Hid (P.okW ⟨2, field, value, list, pairs⟩ = false) := by
              show _ = _
              unfold P.okW
              simp [hr, hl, hp, hfd]
            clear h g NL NM hn0 hl hm0 hp
            go_enter Try.func56, Try.ntmps56
            go_wp2_with (first | (go_at_call 39; refine (l1In _ _ _ _).mono ?_; rintro e w' ⟨rfl, rfl⟩))
            go_ret
            exact ⟨ret_bool HE.out.symm, BW⟩
        · have tn : ((n : Int) == 0) = false := by simp; omega
          have hl : list ≠ [] := fun e => hn0 (NL.1 e)
          have HE : Hid (P.okW ⟨2, field, value, list, pairs⟩ = false) := by
            show _ = _
            unfold P.okW
            simp [hr, hl, hfd]
          clear h g NL NM hn0 hl
          go_enter Try.func56, Try.ntmps56
          go_wp2_with (first | (go_at_call 39; refine (l1In _ _ _ _).mono ?_; rintro e w' ⟨rfl, rfl⟩))
          go_ret
          exact ⟨ret_bool HE.out.symm, BW⟩
      | false =>
        have HE : Hid (P.okW ⟨2, field, value, list, pairs⟩ = false) := by
          show _ = _
          unfold P.okW
          simp [hr, hfd]
        clear h g NL NM 
        go_enter Try.func56, Try.ntmps56
        go_wp2_with (first | (go_at_call 39; refine (l1In _ _ _ _).mono ?_; rintro e w' ⟨rfl, rfl⟩))
        go_ret
        exact ⟨ret_bool HE.out.symm, BW⟩
    by_cases k3 : kind = 3
    · subst k3
      by_cases hv : value = 0
      · have tv : (value == 0) = true := by simpa using hv
        cases hL : (P.okL list && decide (list ≠ [])) with
        | true =>
          have hL1 := hL
          unfold P.okL at hL1
          simp only [Bool.and_eq_true, decide_eq_true_eq] at hL1
          obtain ⟨⟨hL2, hL3⟩, hL4⟩ := hL1
          by_cases hm0 : m = 0
          · have tm : ((m : Int) == 0) = true := by simp [hm0]
            have hp : pairs = [] := NM.2 hm0
            have HE : Hid (P.okW ⟨3, field, value, list, pairs⟩ = true) := by
              show _ = _
              unfold P.okW
              simp [hv, hL2, hL3, hL4, hp, hfd]
            clear h g NL NM hv hL2 hL3 hL4 hm0 hp
            go_enter Try.func56, Try.ntmps56
            go_wp2_with (first | (go_at_call 39; refine (l1In _ _ _ _).mono ?_; rintro e w' ⟨rfl, rfl⟩) | (go_at_call 86; refine (l4List _ H.out).mono ?_; rintro e w2 ⟨rfl, b2⟩; rw [hL]; have hC := cell_of b2; have z1 : w.heap.size < w2.heap.size := (Nat.lt_of_lt_of_le (by simp) b2.size)))
            go_ret
            exact ⟨ret_bool HE.out.symm, BW.trans (b2.mono hsz)⟩
          · have tm : ((m : Int) == 0) = false := by simp; omega
            have hp : pairs ≠ [] := fun e => hm0 (NM.1 e)
            have HE : Hid (P.okW ⟨3, field, value, list, pairs⟩ = false) := by
              show _ = _
              unfold P.okW
              simp [hv, hL2, hL3, hL4, hp, hfd]
            clear h g NL NM hv hL2 hL3 hL4 hm0 hp
            go_enter Try.func56, Try.ntmps56
            go_wp2_with (first | (go_at_call 39; refine (l1In _ _ _ _).mono ?_; rintro e w' ⟨rfl, rfl⟩) | (go_at_call 86; refine (l4List _ H.out).mono ?_; rintro e w2 ⟨rfl, b2⟩; rw [hL]; have hC := cell_of b2; have z1 : w.heap.size < w2.heap.size := (Nat.lt_of_lt_of_le (by simp) b2.size)))
            go_ret
            exact ⟨ret_bool HE.out.symm, BW.trans (b2.mono hsz)⟩
        | false =>
          have hL1 : (decide (list ≠ []) && P.okV list && P.risL list) = false := by
            rw [← hL]; unfold P.okL; cases P.okV list <;> cases P.risL list <;> simp
          have HE : Hid (P.okW ⟨3, field, value, list, pairs⟩ = false) := by
            show _ = _
            unfold P.okW
            simp [hv, hfd]
            intro _ h1 h2; simpa [h1, h2] using hL1
          clear h g NL NM hv hL1
          go_enter Try.func56, Try.ntmps56
          go_wp2_with (first | (go_at_call 39; refine (l1In _ _ _ _).mono ?_; rintro e w' ⟨rfl, rfl⟩) | (go_at_call 86; refine (l4List _ H.out).mono ?_; rintro e w2 ⟨rfl, b2⟩; rw [hL]; have hC := cell_of b2; have z1 : w.heap.size < w2.heap.size := (Nat.lt_of_lt_of_le (by simp) b2.size)))
          go_ret
          exact ⟨ret_bool HE.out.symm, BW.trans (b2.mono hsz)⟩
      · have tv : (value == 0) = false := by simpa using hv
        have HE : Hid (P.okW ⟨3, field, value, list, pairs⟩ = false) := by
          show _ = _
          unfold P.okW
          simp [hv, hfd]
        clear h g NL NM hv
        go_enter Try.func56, Try.ntmps56
        go_wp2_with (first | (go_at_call 39; refine (l1In _ _ _ _).mono ?_; rintro e w' ⟨rfl, rfl⟩))
        go_ret
        exact ⟨ret_bool HE.out.symm, BW⟩
    by_cases k4 : kind = 4
    · subst k4
      by_cases hv : value = 0
      · have tv : (value == 0) = true := by simpa using hv
        by_cases hn0 : n = 0
        · have tn : ((n : Int) == 0) = true := by simp [hn0]
          have hl : list = [] := NL.2 hn0
          cases hP : P.okP pairs with
          | true =>
            have HE : Hid (P.okW ⟨4, field, value, list, pairs⟩ = true) := by
              show _ = _
              unfold P.okW
              simp [hv, hl, hP, hfd]
            clear h g NL NM hv hn0 hl
            go_enter Try.func56, Try.ntmps56
            go_wp2_with (first | (go_at_call 39; refine (l1In _ _ _ _).mono ?_; rintro e w' ⟨rfl, rfl⟩) | (go_at_call 87; refine (specArePairs _ G.out).mono ?_; rintro e w2 ⟨rfl, b2⟩; rw [hP]))
            go_ret
            exact ⟨ret_bool HE.out.symm, BW.trans (b2.mono hsz)⟩
          | false =>
            have HE : Hid (P.okW ⟨4, field, value, list, pairs⟩ = false) := by
              show _ = _
              unfold P.okW
              simp [hv, hl, hP, hfd]
            clear h g NL NM hv hn0 hl
            go_enter Try.func56, Try.ntmps56
            go_wp2_with (first | (go_at_call 39; refine (l1In _ _ _ _).mono ?_; rintro e w' ⟨rfl, rfl⟩) | (go_at_call 87; refine (specArePairs _ G.out).mono ?_; rintro e w2 ⟨rfl, b2⟩; rw [hP]))
            go_ret
            exact ⟨ret_bool HE.out.symm, BW.trans (b2.mono hsz)⟩
        · have tn : ((n : Int) == 0) = false := by simp; omega
          have hl : list ≠ [] := fun e => hn0 (NL.1 e)
          have HE : Hid (P.okW ⟨4, field, value, list, pairs⟩ = false) := by
            show _ = _
            unfold P.okW
            simp [hv, hl, hfd]
          clear h g NL NM hv hn0 hl
          go_enter Try.func56, Try.ntmps56
          go_wp2_with (first | (go_at_call 39; refine (l1In _ _ _ _).mono ?_; rintro e w' ⟨rfl, rfl⟩))
          go_ret
          exact ⟨ret_bool HE.out.symm, BW⟩
      · have tv : (value == 0) = false := by simpa using hv
        have HE : Hid (P.okW ⟨4, field, value, list, pairs⟩ = false) := by
          show _ = _
          unfold P.okW
          simp [hv, hfd]
        clear h g NL NM hv
        go_enter Try.func56, Try.ntmps56
        go_wp2_with (first | (go_at_call 39; refine (l1In _ _ _ _).mono ?_; rintro e w' ⟨rfl, rfl⟩))
        go_ret
        exact ⟨ret_bool HE.out.symm, BW⟩
    have t0 : (kind == 0) = false := by simpa using k0
    have t1 : (kind == 1) = false := by simpa using k1
    have t2 : (kind == 2) = false := by simpa using k2
    have t3 : (kind == 3) = false := by simpa using k3
    have t4 : (kind == 4) = false := by simpa using k4
    have HE : Hid (P.okW ⟨kind, field, value, list, pairs⟩ = false) := by
      show _ = _
      unfold P.okW
      simp [hfd, k0, k1, k2, k3, k4]
    clear h g NL NM k0 k1 k2 k3 k4
    go_enter Try.func56, Try.ntmps56
    go_wp2_with (first | (go_at_call 39; refine (l1In _ _ _ _).mono ?_; rintro e w' ⟨rfl, rfl⟩))
    go_ret
    exact ⟨ret_bool HE.out.symm, BW⟩
set_option maxHeartbeats 3200000 in
set_option maxRecDepth 100000 in
theorem implIsWish {A E : Option Addr} {n c m d : Nat} {x : Wi} (w : World) (h : Sl RI 1 w w.heap.size A n c x.list) (g : Sl RP 2 w w.heap.size E m d x.pairs) :
    Calls Try.prog 63 #[.agg #[.int .i64 x.kind, .int .i64 x.field, .int .i64 x.value, .slice A n c, .slice E m d]] w fun e w' => e = .returned (.bool (P.okW x)) ∧ Below w.heap.size w w' := by
  obtain ⟨kind, field, value, list, pairs⟩ := x
  simp only at h g ⊢
  have BW := (Below.refl w.heap.size w).alloc (Nat.le_refl _) (.cells #[.int .i64 kind, .int .i64 field, .int .i64 value, .slice A n c, .slice E m d] 53)
  have hsz := BW.size
  have H := Lib.hid (h.on RI.keeps BW)
  have G := Lib.hid (g.on RP.keeps BW)
  have NL := nil_iff h.len
  have NM := nil_iff g.len
  have m1 := Nat.le_trans h.le h.max
  have m2 := Nat.le_trans g.le g.max
  unfold maxLen at m1 m2

  have HL := Lib.hid h.len
  cases f1 : P.inR field 0 2 with
  | false =>
    have HE : Hid (P.okW ⟨kind, field, value, list, pairs⟩ = false) := P.okW_f1 f1
    clear h g NL NM
    go_enter Try.func63, Try.ntmps63
    go_wp2_with (go_at_call 42; refine (within _ _ _ _).mono ?_; rintro e w' ⟨rfl, rfl⟩)
    go_ret
    exact ⟨ret_bool HE.out.symm, BW⟩
  | true =>
  cases f2 : P.inR kind 0 4 with
  | false =>
    have HE : Hid (P.okW ⟨kind, field, value, list, pairs⟩ = false) := P.okW_f2 f2
    clear h g NL NM
    go_enter Try.func63, Try.ntmps63
    go_wp2_with (go_at_call 42; refine (within _ _ _ _).mono ?_; rintro e w' ⟨rfl, rfl⟩)
    go_ret
    exact ⟨ret_bool HE.out.symm, BW⟩
  | true =>
  cases f3 : P.inR value 0 9 with
  | false =>
    have HE : Hid (P.okW ⟨kind, field, value, list, pairs⟩ = false) := P.okW_f3 f3
    clear h g NL NM
    go_enter Try.func63, Try.ntmps63
    go_wp2_with (go_at_call 42; refine (within _ _ _ _).mono ?_; rintro e w' ⟨rfl, rfl⟩)
    go_ret
    exact ⟨ret_bool HE.out.symm, BW⟩
  | true =>
  have F1 := Lib.hid f1
  have F2 := Lib.hid f2
  have F3 := Lib.hid f3
  have HNL := Lib.hid NL
  have HNM := Lib.hid NM
  clear g NL NM
  go_enter Try.func63, Try.ntmps63
  go_wp2_with (go_at_call 42; refine (within _ _ _ _).mono ?_; rintro e w' ⟨rfl, rfl⟩)
  clear f1 f2 f3
  go_loop [3, 4, 24] (fun va vb vk => ∃ k : Nat, k ≤ n ∧ vk = .int .i64 k ∧ Hid (P.upL list k)) (fun _ _ vk => n - (intOf vk).toNat)
  case atStart => exact ⟨0, Nat.zero_le _, rfl, fun i x hi => absurd hi (by omega)⟩
  case round =>
    obtain ⟨k, hk, rfl, hup⟩ := hrel
    by_cases hlt : k < n
    · obtain ⟨b, o, x, rfl, hb, hx, hf, g0⟩ := h.int hlt
      have q1 : (k : Int) < (n : Int) := by omega
      have HX := Lib.hid hx
      clear hx
      cases hr : P.inR x 0 9 with
      | false =>
        have HE : Hid (P.okW ⟨kind, field, value, list, pairs⟩ = false) := P.okW_f4 (P.okL_bad1 HX.out hr)
        clear h
        go_wp2_with (go_at_call 42; refine (within _ _ _ _).mono ?_; rintro e w' ⟨rfl, rfl⟩)
        go_ret
        exact ⟨ret_bool HE.out.symm, BW⟩
      | true =>
        by_cases h0 : k = 0
        · have q0 : decide (0 < k) = false := by simp; omega
          have HU := Lib.hid (P.upL_step hup.out HX.out hr (fun y hy => absurd hy (by omega)))
          clear h h0
          go_wp2_with (go_at_call 42; refine (within _ _ _ _).mono ?_; rintro e w' ⟨rfl, rfl⟩)
          go_round
          case rel => exact ⟨k + 1, by omega, by go_num, HU⟩
          case measure => simp [intOf]; omega
        · have hk1 : 1 ≤ k := by omega
          have q0 : decide (0 < k) = true := by simp; omega
          have e0 : IntKind.i64.wrap ((k : Int) - 1) = (k : Int) - 1 := IntWalk.i64_in _ (by omega)
          have e1 : ((k : Int) - 1).toNat = k - 1 := by omega
          obtain ⟨b', o', y, hA, hb', hy, hf', g0'⟩ := h.int (show k - 1 < n by omega)
          injection hA with hA
          injection hA with hA1 hA2
          subst hA1 hA2
          have HY := Lib.hid hy
          clear hy hb' h
          by_cases hid : x ≤ y
          · have q2 : decide (x ≤ y) = true := by simpa using hid
            have HE : Hid (P.okW ⟨kind, field, value, list, pairs⟩ = false) := P.okW_f4 (P.okL_bad2 (k := k - 1) HY.out (by rw [show k - 1 + 1 = k by omega]; exact HX.out) hid)
            go_wp2_with (go_at_call 42; refine (within _ _ _ _).mono ?_; rintro e w' ⟨rfl, rfl⟩)
            go_ret
            exact ⟨ret_bool HE.out.symm, BW⟩
          · have q2 : decide (x ≤ y) = false := by simpa using hid
            have HU := Lib.hid (P.upL_step hup.out HX.out hr (fun z _ hz => by rw [HY.out] at hz; injection hz with hz; omega))
            go_wp2_with (go_at_call 42; refine (within _ _ _ _).mono ?_; rintro e w' ⟨rfl, rfl⟩)
            go_round
            case rel => exact ⟨k + 1, by omega, by go_num, HU⟩
            case measure => simp [intOf]; omega
    · have HK : Hid (P.okL list = true) := P.upL_all (by rw [HL.out, ← show k = n by omega]; exact hup.out)
      clear h hup
      by_cases k2 : kind = 2
      · have t2 : (kind != 2) = false := by simp [k2]
        have t3 : (kind == 3) = false := by simp [k2]
        have t4 : (kind == 4) = false := by simp [k2]
        by_cases hn0 : n = 0
        · have tn : decide (0 < n) = false := by simp; omega
          by_cases hm0 : m = 0
          · have tm : ((m : Int) == 0) = true := by simp [hm0]
            have HE : Hid (P.okW ⟨kind, field, value, list, pairs⟩ = true) := by show _ = _; rw [P.okW_t F1.out F2.out F3.out HK.out (.inl k2) (by simp only; constructor <;> intro e; omega; exact absurd (HNL.out.2 hn0) e) (by simp only; omega)]; exact decide_eq_true (HNM.out.2 hm0)
            clear hm0 k2 hn0
            go_wp2
            go_ret
            exact ⟨ret_bool HE.out.symm, BW⟩
          · have tm : ((m : Int) == 0) = false := by simp; omega
            have HE : Hid (P.okW ⟨kind, field, value, list, pairs⟩ = false) := by show _ = _; rw [P.okW_t F1.out F2.out F3.out HK.out (.inl k2) (by simp only; constructor <;> intro e; omega; exact absurd (HNL.out.2 hn0) e) (by simp only; omega)]; exact decide_eq_false (fun e => hm0 (HNM.out.1 e))
            clear hm0 k2 hn0
            go_wp2
            go_ret
            exact ⟨ret_bool HE.out.symm, BW⟩
        · have tn : decide (0 < n) = true := by simp; omega
          have HE : Hid (P.okW ⟨kind, field, value, list, pairs⟩ = false) := P.okW_f7 (by simp only; omega) (fun e => hn0 (HNL.out.1 e))
          clear hn0 k2
          go_wp2
          go_ret
          exact ⟨ret_bool HE.out.symm, BW⟩
      · have t2 : (kind != 2) = true := by simpa using k2
        by_cases hv : value = 0
        · have tv : (value != 0) = false := by simp [hv]
          by_cases k3 : kind = 3
          · have t3 : (kind == 3) = true := by simp [k3]
            have t4 : (kind == 4) = false := by simp [k3]
            by_cases hn0 : n = 0
            · have tn : decide (0 < n) = false := by simp; omega
              have HE : Hid (P.okW ⟨kind, field, value, list, pairs⟩ = false) := P.okW_f6 k3 (HNL.out.2 hn0)
              clear hn0 k2 k3 hv
              go_wp2
              go_ret
              exact ⟨ret_bool HE.out.symm, BW⟩
            · have tn : decide (0 < n) = true := by simp; omega
              by_cases hm0 : m = 0
              · have tm : ((m : Int) == 0) = true := by simp [hm0]
                have HE : Hid (P.okW ⟨kind, field, value, list, pairs⟩ = true) := by show _ = _; rw [P.okW_t F1.out F2.out F3.out HK.out (.inr hv) (by simp only; constructor <;> intro e; exact fun e => hn0 (HNL.out.1 e); exact k3) (by simp only; omega)]; exact decide_eq_true (HNM.out.2 hm0)
                clear hm0 k2 k3 hv hn0
                go_wp2
                go_ret
                exact ⟨ret_bool HE.out.symm, BW⟩
              · have tm : ((m : Int) == 0) = false := by simp; omega
                have HE : Hid (P.okW ⟨kind, field, value, list, pairs⟩ = false) := by show _ = _; rw [P.okW_t F1.out F2.out F3.out HK.out (.inr hv) (by simp only; constructor <;> intro e; exact fun e => hn0 (HNL.out.1 e); exact k3) (by simp only; omega)]; exact decide_eq_false (fun e => hm0 (HNM.out.1 e))
                clear hm0 k2 k3 hv hn0
                go_wp2
                go_ret
                exact ⟨ret_bool HE.out.symm, BW⟩
          · have t3 : (kind == 3) = false := by simpa using k3
            by_cases hn0 : n = 0
            · have tn : decide (0 < n) = false := by simp; omega
              by_cases k4 : kind = 4
              · have t4 : (kind == 4) = true := by simp [k4]
                have HE : Hid (P.okW ⟨kind, field, value, list, pairs⟩ = P.okP pairs) := P.okW_t4 F1.out HK.out hv (HNL.out.2 hn0) k4
                clear hn0 k2 k3 k4 hv
                go_wp2_with (go_at_call 89; refine (implArePairs _ G.out).mono ?_; rintro e w2 ⟨rfl, b2⟩)
                go_ret
                exact ⟨ret_bool HE.out.symm, BW.trans (b2.mono hsz)⟩
              · have t4 : (kind == 4) = false := by simpa using k4
                by_cases hm0 : m = 0
                · have tm : ((m : Int) == 0) = true := by simp [hm0]
                  have HE : Hid (P.okW ⟨kind, field, value, list, pairs⟩ = true) := by show _ = _; rw [P.okW_t F1.out F2.out F3.out HK.out (.inr hv) (by simp only; constructor <;> intro e; exact absurd e k3; exact absurd (HNL.out.2 hn0) e) k4]; exact decide_eq_true (HNM.out.2 hm0)
                  clear hm0 k2 k3 k4 hv hn0
                  go_wp2
                  go_ret
                  exact ⟨ret_bool HE.out.symm, BW⟩
                · have tm : ((m : Int) == 0) = false := by simp; omega
                  have HE : Hid (P.okW ⟨kind, field, value, list, pairs⟩ = false) := by show _ = _; rw [P.okW_t F1.out F2.out F3.out HK.out (.inr hv) (by simp only; constructor <;> intro e; exact absurd e k3; exact absurd (HNL.out.2 hn0) e) k4]; exact decide_eq_false (fun e => hm0 (HNM.out.1 e))
                  clear hm0 k2 k3 k4 hv hn0
                  go_wp2
                  go_ret
                  exact ⟨ret_bool HE.out.symm, BW⟩
            · have tn : decide (0 < n) = true := by simp; omega
              have HE : Hid (P.okW ⟨kind, field, value, list, pairs⟩ = false) := P.okW_f7 k3 (fun e => hn0 (HNL.out.1 e))
              clear hn0 k2 k3 hv
              go_wp2
              go_ret
              exact ⟨ret_bool HE.out.symm, BW⟩
        · have tv : (value != 0) = true := by simpa using hv
          have HE : Hid (P.okW ⟨kind, field, value, list, pairs⟩ = false) := P.okW_f5 k2 hv
          clear hv k2
          go_wp2
          go_ret
          exact ⟨ret_bool HE.out.symm, BW⟩
end Go.Proofs.Ytgjghpaenliliaa.Wk
