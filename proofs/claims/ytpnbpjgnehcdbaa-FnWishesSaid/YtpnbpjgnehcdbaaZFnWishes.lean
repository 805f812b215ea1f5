/-
  The given statement on laws.FnWishes: for every input that the row speaks of, the call returns true and the arguments read as before.
  Conditions: none beyond the row's own.
-/
import Derived.Test.YtpnbpjgnehcdbaaW31
import Derived.Test.YtpnbpjgnehcdbaaW32
import Derived.Test.YtpnbpjgnehcdbaaP12
import Derived.Test.YtpnbpjgnehcdbaaP10
import Derived.Test.YtpnbpjgnehcdbaaW12
import Derived.Test.YtpnbpjgnehcdbaaO1
import Derived.Deep.RegionHeld3
import Derived.Test.YtpnbpjgnehcdbaaW83
import Derived.Test.YtpnbpjgnehcdbaaW88
import Derived.Test.YtpnbpjgnehcdbaaW2
import Derived.Test.YtpnbpjgnehcdbaaRows
import Derived.ProofKit
import Derived.OpenShut
import Derived.ShutString
import Derived.ChangeOld
import Derived.Below
namespace Go.Proofs.Ytpnbpjgnehcdbaa.Wk
open Go.RowKit Go.Proofs.Ytpnbpjgnehcdbaa.M
set_option linter.unusedVariables false
attribute [local go_sem] cell_grow

set_option maxHeartbeats 1600000 in
theorem l4List {A : Option Addr} {n c : Nat} {xs : List Int} (w : World) (h : Sl RI 1 w w.heap.size A n c xs) : Calls Try.prog 26 #[.slice A n c] w fun e w' => e = .returned (.bool (P.okL xs && decide (xs ≠ []))) ∧ Below w.heap.size w w' := by
  have m1 := Nat.le_trans h.le h.max
  unfold maxLen at m1
  have HL := Lib.hid h.len
  go_enter Try.func26, Try.ntmps26
  go_wp2
  go_loopw [3] (fun vk wr => ∃ k : Nat, k ≤ n ∧ vk = .int .i64 k ∧ Hid (P.upL xs k) ∧ Below w.heap.size w wr) (fun vk _ => n - (intOf vk).toNat)
  case atStart => exact ⟨0, Nat.zero_le _, rfl, fun i x hi => absurd hi (by omega), Below.refl _ _⟩
  case round =>
    obtain ⟨k, hk, rfl, hup, hbw⟩ := hrel
    have hC := cell_of hbw
    have hsz := hbw.size
    by_cases hlt : k < n
    · obtain ⟨b, o, x, rfl, hb, hx, hf, g0⟩ := h.int hlt
      have hb1 : b < wr.heap.size := by omega
      have q1 : (k : Int) < (n : Int) := by omega
      have HX := Lib.hid hx
      clear hx
      cases hr : P.inR x 0 9 with
      | false =>
        have HE : Hid ((P.okL xs && decide (xs ≠ [])) = false) := by show _ = _; rw [P.okL_bad1 HX.out hr]; rfl
        clear h
        go_wp2_with fail
        refine wp_region_qb (by kernel_rfl) (by kernel_rfl) ?_; (repeat (go_big_quiet_step ((go_at_call 23; exact quietSb hr (l1In _ _ _ _))))); refine wpQuiet_nil ?_; intro w8 hb8
        go_wp2
        go_ret
        exact ⟨ret_bool HE.out.symm, hbw.trans (hb8.mono hsz)⟩
      | true =>
        by_cases h0 : k = 0
        · have q0 : decide (0 < k) = false := by simp; omega
          have HU := Lib.hid (P.upL_step hup.out HX.out hr (fun y hy => absurd hy (by omega)))
          clear h h0
          go_wp2_with fail
          refine wp_region_qb (by kernel_rfl) (by kernel_rfl) ?_; (repeat (go_big_quiet_step ((go_at_call 23; exact quietSb hr (l1In _ _ _ _))))); refine wpQuiet_nil ?_; intro w8 hb8
          go_wp2
          go_roundw
          case rel => exact ⟨k + 1, by omega, by go_num, HU, hbw.trans (hb8.mono hsz)⟩
          case measure => simp [intOf]; omega
        · have hk1 : 1 ≤ k := by omega
          have q0 : decide (0 < k) = true := by simp; omega
          have e0 : IntKind.i64.wrap ((k : Int) - 1) = (k : Int) - 1 := IntWalk.i64_in _ (by omega)
          have e1 : ((k : Int) - 1).toNat = k - 1 := by omega
          obtain ⟨b', o', y, hA, hb', hy, hf', g0'⟩ := h.int (show k - 1 < n by omega)
          injection hA with hA
          injection hA with hA1 hA2
          subst hA1 hA2
          have HY := Lib.hid hy
          clear hy hb' h
          by_cases hid : x ≤ y
          · have q2 : decide (x ≤ y) = true := by simpa using hid
            have HE : Hid ((P.okL xs && decide (xs ≠ [])) = false) := by show _ = _; rw [P.okL_bad2 (k := k - 1) HY.out (by rw [show k - 1 + 1 = k by omega]; exact HX.out) hid]; rfl
            go_wp2_with fail
            refine wp_region_qb (by kernel_rfl) (by kernel_rfl) ?_; (repeat (go_big_quiet_step ((go_at_call 23; exact quietSb hr (l1In _ _ _ _))))); refine wpQuiet_nil ?_; intro w8 hb8
            go_wp2
            go_ret
            exact ⟨ret_bool HE.out.symm, hbw.trans (hb8.mono hsz)⟩
          · have q2 : decide (x ≤ y) = false := by simpa using hid
            have HU := Lib.hid (P.upL_step hup.out HX.out hr (fun z _ hz => by rw [HY.out] at hz; injection hz with hz; omega))
            go_wp2_with fail
            refine wp_region_qb (by kernel_rfl) (by kernel_rfl) ?_; (repeat (go_big_quiet_step ((go_at_call 23; exact quietSb hr (l1In _ _ _ _))))); refine wpQuiet_nil ?_; intro w8 hb8
            go_wp2
            go_roundw
            case rel => exact ⟨k + 1, by omega, by go_num, HU, hbw.trans (hb8.mono hsz)⟩
            case measure => simp [intOf]; omega
    · have HE : Hid ((P.okL xs && decide (xs ≠ [])) = decide (0 < n)) := by
        show _ = _
        rw [P.upL_all (by rw [HL.out, ← show k = n by omega]; exact hup.out), Bool.true_and]
        apply decide_eq_decide.2
        rw [← HL.out]
        exact List.length_pos_iff.symm
      clear h hC
      go_wp2
      go_ret
      exact ⟨ret_bool HE.out.symm, hbw⟩
theorem nil_iff {α : Type} {l : List α} {n : Nat} (h : l.length = n) : l = [] ↔ n = 0 := by
  constructor
  · rintro rfl; exact h.symm
  · intro e; exact List.eq_nil_of_length_eq_zero (by omega)
set_option maxHeartbeats 3200000 in
set_option maxRecDepth 100000 in
theorem specIsWish {A E : Option Addr} {n c m d : Nat} {x : Wi} (w : World) (h : Sl RI 1 w w.heap.size A n c x.list) (g : Sl RP 2 w w.heap.size E m d x.pairs) :
    Calls Try.prog 10 #[.agg #[.int .i64 x.kind, .int .i64 x.field, .int .i64 x.value, .slice A n c, .slice E m d]] w fun e w' => e = .returned (.bool (P.okW x)) ∧ Below w.heap.size w w' := by
  obtain ⟨kind, field, value, list, pairs⟩ := x
  simp only at h g ⊢
  have BW := (Below.refl w.heap.size w).alloc (Nat.le_refl _) (.cells #[.int .i64 kind, .int .i64 field, .int .i64 value, .slice A n c, .slice E m d] 27)
  have hsz := BW.size
  have H := Lib.hid (h.on RI.keeps BW)
  have G := Lib.hid (g.on RP.keeps BW)
  have NL := nil_iff h.len
  have NM := nil_iff g.len
  have m1 := Nat.le_trans h.le h.max
  have m2 := Nat.le_trans g.le g.max
  unfold maxLen at m1 m2

  cases hfd : P.inR field 0 2 with
  | false =>
    have HE : Hid (P.okW ⟨kind, field, value, list, pairs⟩ = false) := P.okW_f1 hfd
    clear h g NL NM
    go_enter Try.func10, Try.ntmps10
    go_wp2_with (first | (go_at_call 23; refine (l1In _ _ _ _).mono ?_; rintro e w' ⟨rfl, rfl⟩))
    go_ret
    exact ⟨ret_bool HE.out.symm, BW⟩
  | true =>
    by_cases k0 : kind = 0
    · subst k0
      by_cases hv : value = 0
      · have tv : (value == 0) = true := by simpa using hv
        by_cases hn0 : n = 0
        · have tn : ((n : Int) == 0) = true := by simp [hn0]
          have hl : list = [] := NL.2 hn0
          by_cases hm0 : m = 0
          · have tm : ((m : Int) == 0) = true := by simp [hm0]
            have hp : pairs = [] := NM.2 hm0
            have HE : Hid (P.okW ⟨0, field, value, list, pairs⟩ = true) := by
              show _ = _
              unfold P.okW
              simp [hv, hl, hp, hfd]
            clear h g NL NM hv hn0 hl hm0 hp
            go_enter Try.func10, Try.ntmps10
            go_wp2_with (first | (go_at_call 23; refine (l1In _ _ _ _).mono ?_; rintro e w' ⟨rfl, rfl⟩))
            go_ret
            exact ⟨ret_bool HE.out.symm, BW⟩
          · have tm : ((m : Int) == 0) = false := by simp; omega
            have hp : pairs ≠ [] := fun e => hm0 (NM.1 e)
            have HE : Hid (P.okW ⟨0, field, value, list, pairs⟩ = false) := by
              show _ = _
              unfold P.okW
              simp [hv, hl, hp, hfd]
            clear h g NL NM hv hn0 hl hm0 hp
            go_enter Try.func10, Try.ntmps10
            go_wp2_with (first | (go_at_call 23; refine (l1In _ _ _ _).mono ?_; rintro e w' ⟨rfl, rfl⟩))
            go_ret
            exact ⟨ret_bool HE.out.symm, BW⟩
        · have tn : ((n : Int) == 0) = false := by simp; omega
          have hl : list ≠ [] := fun e => hn0 (NL.1 e)
          have HE : Hid (P.okW ⟨0, field, value, list, pairs⟩ = false) := by
            show _ = _
            unfold P.okW
            simp [hv, hl, hfd]
          clear h g NL NM hv hn0 hl
          go_enter Try.func10, Try.ntmps10
          go_wp2_with (first | (go_at_call 23; refine (l1In _ _ _ _).mono ?_; rintro e w' ⟨rfl, rfl⟩))
          go_ret
          exact ⟨ret_bool HE.out.symm, BW⟩
      · have tv : (value == 0) = false := by simpa using hv
        have HE : Hid (P.okW ⟨0, field, value, list, pairs⟩ = false) := by
          show _ = _
          unfold P.okW
          simp [hv, hfd]
        clear h g NL NM hv
        go_enter Try.func10, Try.ntmps10
        go_wp2_with (first | (go_at_call 23; refine (l1In _ _ _ _).mono ?_; rintro e w' ⟨rfl, rfl⟩))
        go_ret
        exact ⟨ret_bool HE.out.symm, BW⟩
    by_cases k1 : kind = 1
    · subst k1
      by_cases hv : value = 0
      · have tv : (value == 0) = true := by simpa using hv
        by_cases hn0 : n = 0
        · have tn : ((n : Int) == 0) = true := by simp [hn0]
          have hl : list = [] := NL.2 hn0
          by_cases hm0 : m = 0
          · have tm : ((m : Int) == 0) = true := by simp [hm0]
            have hp : pairs = [] := NM.2 hm0
            have HE : Hid (P.okW ⟨1, field, value, list, pairs⟩ = true) := by
              show _ = _
              unfold P.okW
              simp [hv, hl, hp, hfd]
            clear h g NL NM hv hn0 hl hm0 hp
            go_enter Try.func10, Try.ntmps10
            go_wp2_with (first | (go_at_call 23; refine (l1In _ _ _ _).mono ?_; rintro e w' ⟨rfl, rfl⟩))
            go_ret
            exact ⟨ret_bool HE.out.symm, BW⟩
          · have tm : ((m : Int) == 0) = false := by simp; omega
            have hp : pairs ≠ [] := fun e => hm0 (NM.1 e)
            have HE : Hid (P.okW ⟨1, field, value, list, pairs⟩ = false) := by
              show _ = _
              unfold P.okW
              simp [hv, hl, hp, hfd]
            clear h g NL NM hv hn0 hl hm0 hp
            go_enter Try.func10, Try.ntmps10
            go_wp2_with (first | (go_at_call 23; refine (l1In _ _ _ _).mono ?_; rintro e w' ⟨rfl, rfl⟩))
            go_ret
            exact ⟨ret_bool HE.out.symm, BW⟩
        · have tn : ((n : Int) == 0) = false := by simp; omega
          have hl : list ≠ [] := fun e => hn0 (NL.1 e)
          have HE : Hid (P.okW ⟨1, field, value, list, pairs⟩ = false) := by
            show _ = _
            unfold P.okW
            simp [hv, hl, hfd]
          clear h g NL NM hv hn0 hl
          go_enter Try.func10, Try.ntmps10
          go_wp2_with (first | (go_at_call 23; refine (l1In _ _ _ _).mono ?_; rintro e w' ⟨rfl, rfl⟩))
          go_ret
          exact ⟨ret_bool HE.out.symm, BW⟩
      · have tv : (value == 0) = false := by simpa using hv
        have HE : Hid (P.okW ⟨1, field, value, list, pairs⟩ = false) := by
          show _ = _
          unfold P.okW
          simp [hv, hfd]
        clear h g NL NM hv
        go_enter Try.func10, Try.ntmps10
        go_wp2_with (first | (go_at_call 23; refine (l1In _ _ _ _).mono ?_; rintro e w' ⟨rfl, rfl⟩))
        go_ret
        exact ⟨ret_bool HE.out.symm, BW⟩
    by_cases k2 : kind = 2
    · subst k2
      cases hr : P.inR value 0 9 with
      | true =>
        by_cases hn0 : n = 0
        · have tn : ((n : Int) == 0) = true := by simp [hn0]
          have hl : list = [] := NL.2 hn0
          by_cases hm0 : m = 0
          · have tm : ((m : Int) == 0) = true := by simp [hm0]
            have hp : pairs = [] := NM.2 hm0
            have HE : Hid (P.okW ⟨2, field, value, list, pairs⟩ = true) := by
              show _ = _
              unfold P.okW
              simp [hr, hl, hp, hfd]
            clear h g NL NM hn0 hl hm0 hp
            go_enter Try.func10, Try.ntmps10
            go_wp2_with (first | (go_at_call 23; refine (l1In _ _ _ _).mono ?_; rintro e w' ⟨rfl, rfl⟩))
            go_ret
            exact ⟨ret_bool HE.out.symm, BW⟩
          · have tm : ((m : Int) == 0) = false := by simp; omega
            have hp : pairs ≠ [] := fun e => hm0 (NM.1 e)
            have HE : Hid (P.okW ⟨2, field, value, list, pairs⟩ = false) := by
              show _ = _
              unfold P.okW
              simp [hr, hl, hp, hfd]
            clear h g NL NM hn0 hl hm0 hp
            go_enter Try.func10, Try.ntmps10
            go_wp2_with (first | (go_at_call 23; refine (l1In _ _ _ _).mono ?_; rintro e w' ⟨rfl, rfl⟩))
            go_ret
            exact ⟨ret_bool HE.out.symm, BW⟩
        · have tn : ((n : Int) == 0) = false := by simp; omega
          have hl : list ≠ [] := fun e => hn0 (NL.1 e)
          have HE : Hid (P.okW ⟨2, field, value, list, pairs⟩ = false) := by
            show _ = _
            unfold P.okW
            simp [hr, hl, hfd]
          clear h g NL NM hn0 hl
          go_enter Try.func10, Try.ntmps10
          go_wp2_with (first | (go_at_call 23; refine (l1In _ _ _ _).mono ?_; rintro e w' ⟨rfl, rfl⟩))
          go_ret
          exact ⟨ret_bool HE.out.symm, BW⟩
      | false =>
        have HE : Hid (P.okW ⟨2, field, value, list, pairs⟩ = false) := by
          show _ = _
          unfold P.okW
          simp [hr, hfd]
        clear h g NL NM 
        go_enter Try.func10, Try.ntmps10
        go_wp2_with (first | (go_at_call 23; refine (l1In _ _ _ _).mono ?_; rintro e w' ⟨rfl, rfl⟩))
        go_ret
        exact ⟨ret_bool HE.out.symm, BW⟩
    by_cases k3 : kind = 3
    · subst k3
      by_cases hv : value = 0
      · have tv : (value == 0) = true := by simpa using hv
        cases hL : (P.okL list && decide (list ≠ [])) with
        | true =>
          have hL1 := hL
          unfold P.okL at hL1
          simp only [Bool.and_eq_true, decide_eq_true_eq] at hL1
          obtain ⟨⟨hL2, hL3⟩, hL4⟩ := hL1
          by_cases hm0 : m = 0
          · have tm : ((m : Int) == 0) = true := by simp [hm0]
            have hp : pairs = [] := NM.2 hm0
            have HE : Hid (P.okW ⟨3, field, value, list, pairs⟩ = true) := by
              show _ = _
              unfold P.okW
              simp [hv, hL2, hL3, hL4, hp, hfd]
            clear h g NL NM hv hL2 hL3 hL4 hm0 hp
            go_enter Try.func10, Try.ntmps10
            go_wp2_with (first | (go_at_call 23; refine (l1In _ _ _ _).mono ?_; rintro e w' ⟨rfl, rfl⟩) | (go_at_call 26; refine (l4List _ H.out).mono ?_; rintro e w2 ⟨rfl, b2⟩; rw [hL]; have hC := cell_of b2; have z1 : w.heap.size < w2.heap.size := (Nat.lt_of_lt_of_le (by simp) b2.size)))
            go_ret
            exact ⟨ret_bool HE.out.symm, BW.trans (b2.mono hsz)⟩
          · have tm : ((m : Int) == 0) = false := by simp; omega
            have hp : pairs ≠ [] := fun e => hm0 (NM.1 e)
            have HE : Hid (P.okW ⟨3, field, value, list, pairs⟩ = false) := by
              show _ = _
              unfold P.okW
              simp [hv, hL2, hL3, hL4, hp, hfd]
            clear h g NL NM hv hL2 hL3 hL4 hm0 hp
            go_enter Try.func10, Try.ntmps10
            go_wp2_with (first | (go_at_call 23; refine (l1In _ _ _ _).mono ?_; rintro e w' ⟨rfl, rfl⟩) | (go_at_call 26; refine (l4List _ H.out).mono ?_; rintro e w2 ⟨rfl, b2⟩; rw [hL]; have hC := cell_of b2; have z1 : w.heap.size < w2.heap.size := (Nat.lt_of_lt_of_le (by simp) b2.size)))
            go_ret
            exact ⟨ret_bool HE.out.symm, BW.trans (b2.mono hsz)⟩
        | false =>
          have hL1 : (decide (list ≠ []) && P.okV list && P.risL list) = false := by
            rw [← hL]; unfold P.okL; cases P.okV list <;> cases P.risL list <;> simp
          have HE : Hid (P.okW ⟨3, field, value, list, pairs⟩ = false) := by
            show _ = _
            unfold P.okW
            simp [hv, hfd]
            intro _ h1 h2; simpa [h1, h2] using hL1
          clear h g NL NM hv hL1
          go_enter Try.func10, Try.ntmps10
          go_wp2_with (first | (go_at_call 23; refine (l1In _ _ _ _).mono ?_; rintro e w' ⟨rfl, rfl⟩) | (go_at_call 26; refine (l4List _ H.out).mono ?_; rintro e w2 ⟨rfl, b2⟩; rw [hL]; have hC := cell_of b2; have z1 : w.heap.size < w2.heap.size := (Nat.lt_of_lt_of_le (by simp) b2.size)))
          go_ret
          exact ⟨ret_bool HE.out.symm, BW.trans (b2.mono hsz)⟩
      · have tv : (value == 0) = false := by simpa using hv
        have HE : Hid (P.okW ⟨3, field, value, list, pairs⟩ = false) := by
          show _ = _
          unfold P.okW
          simp [hv, hfd]
        clear h g NL NM hv
        go_enter Try.func10, Try.ntmps10
        go_wp2_with (first | (go_at_call 23; refine (l1In _ _ _ _).mono ?_; rintro e w' ⟨rfl, rfl⟩))
        go_ret
        exact ⟨ret_bool HE.out.symm, BW⟩
    by_cases k4 : kind = 4
    · subst k4
      by_cases hv : value = 0
      · have tv : (value == 0) = true := by simpa using hv
        by_cases hn0 : n = 0
        · have tn : ((n : Int) == 0) = true := by simp [hn0]
          have hl : list = [] := NL.2 hn0
          cases hP : P.okP pairs with
          | true =>
            have HE : Hid (P.okW ⟨4, field, value, list, pairs⟩ = true) := by
              show _ = _
              unfold P.okW
              simp [hv, hl, hP, hfd]
            clear h g NL NM hv hn0 hl
            go_enter Try.func10, Try.ntmps10
            go_wp2_with (first | (go_at_call 23; refine (l1In _ _ _ _).mono ?_; rintro e w' ⟨rfl, rfl⟩) | (go_at_call 27; refine (specArePairs _ G.out).mono ?_; rintro e w2 ⟨rfl, b2⟩; rw [hP]))
            go_ret
            exact ⟨ret_bool HE.out.symm, BW.trans (b2.mono hsz)⟩
          | false =>
            have HE : Hid (P.okW ⟨4, field, value, list, pairs⟩ = false) := by
              show _ = _
              unfold P.okW
              simp [hv, hl, hP, hfd]
            clear h g NL NM hv hn0 hl
            go_enter Try.func10, Try.ntmps10
            go_wp2_with (first | (go_at_call 23; refine (l1In _ _ _ _).mono ?_; rintro e w' ⟨rfl, rfl⟩) | (go_at_call 27; refine (specArePairs _ G.out).mono ?_; rintro e w2 ⟨rfl, b2⟩; rw [hP]))
            go_ret
            exact ⟨ret_bool HE.out.symm, BW.trans (b2.mono hsz)⟩
        · have tn : ((n : Int) == 0) = false := by simp; omega
          have hl : list ≠ [] := fun e => hn0 (NL.1 e)
          have HE : Hid (P.okW ⟨4, field, value, list, pairs⟩ = false) := by
            show _ = _
            unfold P.okW
            simp [hv, hl, hfd]
          clear h g NL NM hv hn0 hl
          go_enter Try.func10, Try.ntmps10
          go_wp2_with (first | (go_at_call 23; refine (l1In _ _ _ _).mono ?_; rintro e w' ⟨rfl, rfl⟩))
          go_ret
          exact ⟨ret_bool HE.out.symm, BW⟩
      · have tv : (value == 0) = false := by simpa using hv
        have HE : Hid (P.okW ⟨4, field, value, list, pairs⟩ = false) := by
          show _ = _
          unfold P.okW
          simp [hv, hfd]
        clear h g NL NM hv
        go_enter Try.func10, Try.ntmps10
        go_wp2_with (first | (go_at_call 23; refine (l1In _ _ _ _).mono ?_; rintro e w' ⟨rfl, rfl⟩))
        go_ret
        exact ⟨ret_bool HE.out.symm, BW⟩
    have t0 : (kind == 0) = false := by simpa using k0
    have t1 : (kind == 1) = false := by simpa using k1
    have t2 : (kind == 2) = false := by simpa using k2
    have t3 : (kind == 3) = false := by simpa using k3
    have t4 : (kind == 4) = false := by simpa using k4
    have HE : Hid (P.okW ⟨kind, field, value, list, pairs⟩ = false) := by
      show _ = _
      unfold P.okW
      simp [hfd, k0, k1, k2, k3, k4]
    clear h g NL NM k0 k1 k2 k3 k4
    go_enter Try.func10, Try.ntmps10
    go_wp2_with (first | (go_at_call 23; refine (l1In _ _ _ _).mono ?_; rintro e w' ⟨rfl, rfl⟩))
    go_ret
    exact ⟨ret_bool HE.out.symm, BW⟩
set_option maxHeartbeats 3200000 in
set_option maxRecDepth 100000 in
theorem implIsWish {A E : Option Addr} {n c m d : Nat} {x : Wi} (w : World) (h : Sl RI 1 w w.heap.size A n c x.list) (g : Sl RP 2 w w.heap.size E m d x.pairs) :
    Calls Try.prog 9 #[.agg #[.int .i64 x.kind, .int .i64 x.field, .int .i64 x.value, .slice A n c, .slice E m d]] w fun e w' => e = .returned (.bool (P.okW x)) ∧ Below w.heap.size w w' := by
  obtain ⟨kind, field, value, list, pairs⟩ := x
  simp only at h g ⊢
  have BW := (Below.refl w.heap.size w).alloc (Nat.le_refl _) (.cells #[.int .i64 kind, .int .i64 field, .int .i64 value, .slice A n c, .slice E m d] 27)
  have hsz := BW.size
  have H := Lib.hid (h.on RI.keeps BW)
  have G := Lib.hid (g.on RP.keeps BW)
  have NL := nil_iff h.len
  have NM := nil_iff g.len
  have m1 := Nat.le_trans h.le h.max
  have m2 := Nat.le_trans g.le g.max
  unfold maxLen at m1 m2

  have HL := Lib.hid h.len
  cases f1 : P.inR field 0 2 with
  | false =>
    have HE : Hid (P.okW ⟨kind, field, value, list, pairs⟩ = false) := P.okW_f1 f1
    clear h g NL NM
    go_enter Try.func9, Try.ntmps9
    go_wp2_with (go_at_call 20; refine (within _ _ _ _).mono ?_; rintro e w' ⟨rfl, rfl⟩)
    go_ret
    exact ⟨ret_bool HE.out.symm, BW⟩
  | true =>
  cases f2 : P.inR kind 0 4 with
  | false =>
    have HE : Hid (P.okW ⟨kind, field, value, list, pairs⟩ = false) := P.okW_f2 f2
    clear h g NL NM
    go_enter Try.func9, Try.ntmps9
    go_wp2_with (go_at_call 20; refine (within _ _ _ _).mono ?_; rintro e w' ⟨rfl, rfl⟩)
    go_ret
    exact ⟨ret_bool HE.out.symm, BW⟩
  | true =>
  cases f3 : P.inR value 0 9 with
  | false =>
    have HE : Hid (P.okW ⟨kind, field, value, list, pairs⟩ = false) := P.okW_f3 f3
    clear h g NL NM
    go_enter Try.func9, Try.ntmps9
    go_wp2_with (go_at_call 20; refine (within _ _ _ _).mono ?_; rintro e w' ⟨rfl, rfl⟩)
    go_ret
    exact ⟨ret_bool HE.out.symm, BW⟩
  | true =>
  have F1 := Lib.hid f1
  have F2 := Lib.hid f2
  have F3 := Lib.hid f3
  have HNL := Lib.hid NL
  have HNM := Lib.hid NM
  clear g NL NM
  go_enter Try.func9, Try.ntmps9
  go_wp2_with (go_at_call 20; refine (within _ _ _ _).mono ?_; rintro e w' ⟨rfl, rfl⟩)
  clear f1 f2 f3
  go_loop [3, 4, 24] (fun va vb vk => ∃ k : Nat, k ≤ n ∧ vk = .int .i64 k ∧ Hid (P.upL list k)) (fun _ _ vk => n - (intOf vk).toNat)
  case atStart => exact ⟨0, Nat.zero_le _, rfl, fun i x hi => absurd hi (by omega)⟩
  case round =>
    obtain ⟨k, hk, rfl, hup⟩ := hrel
    by_cases hlt : k < n
    · obtain ⟨b, o, x, rfl, hb, hx, hf, g0⟩ := h.int hlt
      have q1 : (k : Int) < (n : Int) := by omega
      have HX := Lib.hid hx
      clear hx
      cases hr : P.inR x 0 9 with
      | false =>
        have HE : Hid (P.okW ⟨kind, field, value, list, pairs⟩ = false) := P.okW_f4 (P.okL_bad1 HX.out hr)
        clear h
        go_wp2_with (go_at_call 20; refine (within _ _ _ _).mono ?_; rintro e w' ⟨rfl, rfl⟩)
        go_ret
        exact ⟨ret_bool HE.out.symm, BW⟩
      | true =>
        by_cases h0 : k = 0
        · have q0 : decide (0 < k) = false := by simp; omega
          have HU := Lib.hid (P.upL_step hup.out HX.out hr (fun y hy => absurd hy (by omega)))
          clear h h0
          go_wp2_with (go_at_call 20; refine (within _ _ _ _).mono ?_; rintro e w' ⟨rfl, rfl⟩)
          go_round
          case rel => exact ⟨k + 1, by omega, by go_num, HU⟩
          case measure => simp [intOf]; omega
        · have hk1 : 1 ≤ k := by omega
          have q0 : decide (0 < k) = true := by simp; omega
          have e0 : IntKind.i64.wrap ((k : Int) - 1) = (k : Int) - 1 := IntWalk.i64_in _ (by omega)
          have e1 : ((k : Int) - 1).toNat = k - 1 := by omega
          obtain ⟨b', o', y, hA, hb', hy, hf', g0'⟩ := h.int (show k - 1 < n by omega)
          injection hA with hA
          injection hA with hA1 hA2
          subst hA1 hA2
          have HY := Lib.hid hy
          clear hy hb' h
          by_cases hid : x ≤ y
          · have q2 : decide (x ≤ y) = true := by simpa using hid
            have HE : Hid (P.okW ⟨kind, field, value, list, pairs⟩ = false) := P.okW_f4 (P.okL_bad2 (k := k - 1) HY.out (by rw [show k - 1 + 1 = k by omega]; exact HX.out) hid)
            go_wp2_with (go_at_call 20; refine (within _ _ _ _).mono ?_; rintro e w' ⟨rfl, rfl⟩)
            go_ret
            exact ⟨ret_bool HE.out.symm, BW⟩
          · have q2 : decide (x ≤ y) = false := by simpa using hid
            have HU := Lib.hid (P.upL_step hup.out HX.out hr (fun z _ hz => by rw [HY.out] at hz; injection hz with hz; omega))
            go_wp2_with (go_at_call 20; refine (within _ _ _ _).mono ?_; rintro e w' ⟨rfl, rfl⟩)
            go_round
            case rel => exact ⟨k + 1, by omega, by go_num, HU⟩
            case measure => simp [intOf]; omega
    · have HK : Hid (P.okL list = true) := P.upL_all (by rw [HL.out, ← show k = n by omega]; exact hup.out)
      clear h hup
      by_cases k2 : kind = 2
      · have t2 : (kind != 2) = false := by simp [k2]
        have t3 : (kind == 3) = false := by simp [k2]
        have t4 : (kind == 4) = false := by simp [k2]
        by_cases hn0 : n = 0
        · have tn : decide (0 < n) = false := by simp; omega
          by_cases hm0 : m = 0
          · have tm : ((m : Int) == 0) = true := by simp [hm0]
            have HE : Hid (P.okW ⟨kind, field, value, list, pairs⟩ = true) := by show _ = _; rw [P.okW_t F1.out F2.out F3.out HK.out (.inl k2) (by simp only; constructor <;> intro e; omega; exact absurd (HNL.out.2 hn0) e) (by simp only; omega)]; exact decide_eq_true (HNM.out.2 hm0)
            clear hm0 k2 hn0
            go_wp2
            go_ret
            exact ⟨ret_bool HE.out.symm, BW⟩
          · have tm : ((m : Int) == 0) = false := by simp; omega
            have HE : Hid (P.okW ⟨kind, field, value, list, pairs⟩ = false) := by show _ = _; rw [P.okW_t F1.out F2.out F3.out HK.out (.inl k2) (by simp only; constructor <;> intro e; omega; exact absurd (HNL.out.2 hn0) e) (by simp only; omega)]; exact decide_eq_false (fun e => hm0 (HNM.out.1 e))
            clear hm0 k2 hn0
            go_wp2
            go_ret
            exact ⟨ret_bool HE.out.symm, BW⟩
        · have tn : decide (0 < n) = true := by simp; omega
          have HE : Hid (P.okW ⟨kind, field, value, list, pairs⟩ = false) := P.okW_f7 (by simp only; omega) (fun e => hn0 (HNL.out.1 e))
          clear hn0 k2
          go_wp2
          go_ret
          exact ⟨ret_bool HE.out.symm, BW⟩
      · have t2 : (kind != 2) = true := by simpa using k2
        by_cases hv : value = 0
        · have tv : (value != 0) = false := by simp [hv]
          by_cases k3 : kind = 3
          · have t3 : (kind == 3) = true := by simp [k3]
            have t4 : (kind == 4) = false := by simp [k3]
            by_cases hn0 : n = 0
            · have tn : decide (0 < n) = false := by simp; omega
              have HE : Hid (P.okW ⟨kind, field, value, list, pairs⟩ = false) := P.okW_f6 k3 (HNL.out.2 hn0)
              clear hn0 k2 k3 hv
              go_wp2
              go_ret
              exact ⟨ret_bool HE.out.symm, BW⟩
            · have tn : decide (0 < n) = true := by simp; omega
              by_cases hm0 : m = 0
              · have tm : ((m : Int) == 0) = true := by simp [hm0]
                have HE : Hid (P.okW ⟨kind, field, value, list, pairs⟩ = true) := by show _ = _; rw [P.okW_t F1.out F2.out F3.out HK.out (.inr hv) (by simp only; constructor <;> intro e; exact fun e => hn0 (HNL.out.1 e); exact k3) (by simp only; omega)]; exact decide_eq_true (HNM.out.2 hm0)
                clear hm0 k2 k3 hv hn0
                go_wp2
                go_ret
                exact ⟨ret_bool HE.out.symm, BW⟩
              · have tm : ((m : Int) == 0) = false := by simp; omega
                have HE : Hid (P.okW ⟨kind, field, value, list, pairs⟩ = false) := by show _ = _; rw [P.okW_t F1.out F2.out F3.out HK.out (.inr hv) (by simp only; constructor <;> intro e; exact fun e => hn0 (HNL.out.1 e); exact k3) (by simp only; omega)]; exact decide_eq_false (fun e => hm0 (HNM.out.1 e))
                clear hm0 k2 k3 hv hn0
                go_wp2
                go_ret
                exact ⟨ret_bool HE.out.symm, BW⟩
          · have t3 : (kind == 3) = false := by simpa using k3
            by_cases hn0 : n = 0
            · have tn : decide (0 < n) = false := by simp; omega
              by_cases k4 : kind = 4
              · have t4 : (kind == 4) = true := by simp [k4]
                have HE : Hid (P.okW ⟨kind, field, value, list, pairs⟩ = P.okP pairs) := P.okW_t4 F1.out HK.out hv (HNL.out.2 hn0) k4
                clear hn0 k2 k3 k4 hv
                go_wp2_with (go_at_call 25; refine (implArePairs _ G.out).mono ?_; rintro e w2 ⟨rfl, b2⟩)
                go_ret
                exact ⟨ret_bool HE.out.symm, BW.trans (b2.mono hsz)⟩
              · have t4 : (kind == 4) = false := by simpa using k4
                by_cases hm0 : m = 0
                · have tm : ((m : Int) == 0) = true := by simp [hm0]
                  have HE : Hid (P.okW ⟨kind, field, value, list, pairs⟩ = true) := by show _ = _; rw [P.okW_t F1.out F2.out F3.out HK.out (.inr hv) (by simp only; constructor <;> intro e; exact absurd e k3; exact absurd (HNL.out.2 hn0) e) k4]; exact decide_eq_true (HNM.out.2 hm0)
                  clear hm0 k2 k3 k4 hv hn0
                  go_wp2
                  go_ret
                  exact ⟨ret_bool HE.out.symm, BW⟩
                · have tm : ((m : Int) == 0) = false := by simp; omega
                  have HE : Hid (P.okW ⟨kind, field, value, list, pairs⟩ = false) := by show _ = _; rw [P.okW_t F1.out F2.out F3.out HK.out (.inr hv) (by simp only; constructor <;> intro e; exact absurd e k3; exact absurd (HNL.out.2 hn0) e) k4]; exact decide_eq_false (fun e => hm0 (HNM.out.1 e))
                  clear hm0 k2 k3 k4 hv hn0
                  go_wp2
                  go_ret
                  exact ⟨ret_bool HE.out.symm, BW⟩
            · have tn : decide (0 < n) = true := by simp; omega
              have HE : Hid (P.okW ⟨kind, field, value, list, pairs⟩ = false) := P.okW_f7 k3 (fun e => hn0 (HNL.out.1 e))
              clear hn0 k2 k3 hv
              go_wp2
              go_ret
              exact ⟨ret_bool HE.out.symm, BW⟩
        · have tv : (value != 0) = true := by simpa using hv
          have HE : Hid (P.okW ⟨kind, field, value, list, pairs⟩ = false) := P.okW_f5 k2 hv
          clear hv k2
          go_wp2
          go_ret
          exact ⟨ret_bool HE.out.symm, BW⟩
end Go.Proofs.Ytpnbpjgnehcdbaa.Wk

namespace Go.Proofs.Ytpnbpjgnehcdbaa.P
set_option linter.unusedVariables false

/-- The greatest number of pairs that lead down to a value, at most f of them. -/
def hgt (l : List (Int × Int)) : Nat → Int → Int
  | 0, _ => 0
  | f + 1, v => l.foldl (fun a p => if p.2 = v then max a (hgt l f p.1 + 1) else a) 0
/-- .. of the first k pairs. -/
def hgtK (l : List (Int × Int)) (f : Nat) (v : Int) (k : Nat) : Int := (l.take k).foldl (fun a p => if p.2 = v then max a (hgt l f p.1 + 1) else a) 0
theorem hgtK_all {l : List (Int × Int)} {f : Nat} {v : Int} {k : Nat} (h : l.length ≤ k) : hgtK l f v k = hgt l (f + 1) v := by
  unfold hgtK; rw [List.take_of_length_le h]; rfl
theorem hgtK_zero (l : List (Int × Int)) (f : Nat) (v : Int) : hgtK l f v 0 = 0 := by simp [hgtK]
theorem hgtK_yes {l : List (Int × Int)} {f : Nat} {v : Int} {k : Nat} {p : Int × Int} (hp : l[k]? = some p) (h : p.2 = v) : hgtK l f v (k + 1) = max (hgtK l f v k) (hgt l f p.1 + 1) := by
  obtain ⟨hl, e⟩ := List.getElem?_eq_some_iff.1 hp
  unfold hgtK
  rw [List.take_succ_eq_append_getElem hl, e, List.foldl_append]
  simp [h]
theorem hgtK_no {l : List (Int × Int)} {f : Nat} {v : Int} {k : Nat} {p : Int × Int} (hp : l[k]? = some p) (h : p.2 ≠ v) : hgtK l f v (k + 1) = hgtK l f v k := by
  obtain ⟨hl, e⟩ := List.getElem?_eq_some_iff.1 hp
  unfold hgtK
  rw [List.take_succ_eq_append_getElem hl, e, List.foldl_append]
  simp [h]
theorem fold_bd {l : List (Int × Int)} {g : Int → Int} {v c : Int} (hg : ∀ x, 0 ≤ g x ∧ g x ≤ c) : ∀ (m : List (Int × Int)) (a : Int), 0 ≤ a → a ≤ c + 1 →
    0 ≤ m.foldl (fun a p => if p.2 = v then max a (g p.1 + 1) else a) a ∧ m.foldl (fun a p => if p.2 = v then max a (g p.1 + 1) else a) a ≤ c + 1 := by
  intro m
  induction m with
  | nil => intro a h1 h2; exact ⟨h1, h2⟩
  | cons p t ih =>
    intro a h1 h2
    rw [List.foldl_cons]
    have := hg p.1
    split
    · exact ih _ (by omega) (by omega)
    · exact ih _ h1 h2
theorem hgt_bd (l : List (Int × Int)) : ∀ (f : Nat) (v : Int), 0 ≤ hgt l f v ∧ hgt l f v ≤ f
  | 0, v => by simp [hgt]
  | f + 1, v => by
    have := fold_bd (l := l) (g := hgt l f) (v := v) (c := f) (hgt_bd l f) l 0 (by omega) (by omega)
    rw [hgt]; omega
theorem hgtK_bd (l : List (Int × Int)) (f : Nat) (v : Int) (k : Nat) : 0 ≤ hgtK l f v k ∧ hgtK l f v k ≤ f + 1 :=
  fold_bd (l := l) (g := hgt l f) (v := v) (c := f) (hgt_bd l f) (l.take k) 0 (by omega) (by omega)
theorem count_lt {α : Type} {p q : α → Bool} (h : ∀ x, p x = true → q x = true) : ∀ (l : List α) (x : α), x ∈ l → q x = true → p x = false → (l.filter p).length < (l.filter q).length := by
  have le : ∀ l : List α, (l.filter p).length ≤ (l.filter q).length := by
    intro l
    induction l with
    | nil => simp
    | cons a t ih =>
      rw [List.filter_cons, List.filter_cons]
      cases hp : p a with
      | true => simp only [h a hp, if_true, List.length_cons]; omega
      | false =>
        simp only [Bool.false_eq_true, if_false]
        split
        · simp only [List.length_cons]; omega
        · exact ih
  intro l
  induction l with
  | nil => intro x hx; simp at hx
  | cons a t ih =>
    intro x hx hq hp
    rw [List.filter_cons, List.filter_cons]
    rcases List.mem_cons.1 hx with rfl | hx
    · simp only [hp, hq, if_true, Bool.false_eq_true, if_false, List.length_cons]
      have := le t; omega
    · have := ih x hx hq hp
      cases hpa : p a with
      | true => simp only [h a hpa, if_true, List.length_cons]; omega
      | false =>
        simp only [Bool.false_eq_true, if_false]
        split
        · simp only [List.length_cons]; omega
        · exact this
/-- How many values are above v. -/
noncomputable def rnk (l : List (Int × Int)) (v : Int) : Nat := ((List.range 10).filter fun u => abv l (u : Nat) v).length
theorem rnk_le (l : List (Int × Int)) (v : Int) : rnk l v ≤ 10 := by
  unfold rnk
  have := List.length_filter_le (fun u : Nat => abv l u v) (List.range 10)
  simpa using this
theorem rnk_lt {l : List (Int × Int)} (h : okP l = true) {p : Int × Int} (hp : p ∈ l) : rnk l p.1 < rnk l p.2 := by
  have hb := (inP_mem (okP_in h) hp).1
  have hp' : Path l p.1 p.2 := .one hp
  unfold rnk
  refine count_lt (fun u hu => abv_iff.2 (.two (abv_iff.1 hu) hp')) _ p.1.toNat (by simp; omega) ?_ ?_
  · show abv l (p.1.toNat : Nat) p.2 = true
    rw [show ((p.1.toNat : Nat) : Int) = p.1 by omega]; exact abv_iff.2 hp'
  · show abv l (p.1.toNat : Nat) p.1 = false
    rw [show ((p.1.toNat : Nat) : Int) = p.1 by omega]; exact okP_irr h p.1
end Go.Proofs.Ytpnbpjgnehcdbaa.P

namespace Go.Proofs.Ytpnbpjgnehcdbaa.Wk
open Go.RowKit Go.Proofs.Ytpnbpjgnehcdbaa.M
set_option linter.unusedVariables false
attribute [local go_sem] cell_grow

/-- A row of a table. -/
def rowL (r : Nat → Bool) : List Value := (List.range 10).map fun j => .bool (r j)
theorem ix_tab (M : Nat → Nat → Bool) (w : World) : ∀ i : Nat, i < 10 → (Instr.index 48 (.agg (matC M).toArray) (.int .i64 (i : Int))).run Try.prog w = .ok (.agg (rowL (M i)).toArray) w
  | 0, _ => by kernel_rfl
  | 1, _ => by kernel_rfl
  | 2, _ => by kernel_rfl
  | 3, _ => by kernel_rfl
  | 4, _ => by kernel_rfl
  | 5, _ => by kernel_rfl
  | 6, _ => by kernel_rfl
  | 7, _ => by kernel_rfl
  | 8, _ => by kernel_rfl
  | 9, _ => by kernel_rfl
theorem ix_row (r : Nat → Bool) (w : World) : ∀ i : Nat, i < 10 → (Instr.index 47 (.agg (rowL r).toArray) (.int .i64 (i : Int))).run Try.prog w = .ok (.bool (r i)) w
  | 0, _ => by kernel_rfl
  | 1, _ => by kernel_rfl
  | 2, _ => by kernel_rfl
  | 3, _ => by kernel_rfl
  | 4, _ => by kernel_rfl
  | 5, _ => by kernel_rfl
  | 6, _ => by kernel_rfl
  | 7, _ => by kernel_rfl
  | 8, _ => by kernel_rfl
  | 9, _ => by kernel_rfl
/-- What IsAbove answers. -/
noncomputable def isAbv (l : List (Int × Int)) (a b : Int) : Bool := P.okP l && P.abv l a b
/-- What HeightOf answers. -/
noncomputable def heightOf (l : List (Int × Int)) (v : Int) : Int := if P.okP l && P.inR v 0 9 then P.hgt l 11 v else -1
end Go.Proofs.Ytpnbpjgnehcdbaa.Wk

namespace Go.Proofs.Ytpnbpjgnehcdbaa.Wk
open Go.RowKit Go.Proofs.Ytpnbpjgnehcdbaa.M
set_option linter.unusedVariables false
attribute [local go_sem] cell_grow

theorem ret_two {a b : Int} {p q : Bool} (h : a = b ∧ p = q) : Ending.returned (.tuple #[.int .i64 a, .bool p]) = .returned (.tuple #[.int .i64 b, .bool q]) := by rw [h.1, h.2]
theorem indexInts {A : Option Addr} {n c : Nat} {xs : List Int} {x : Int} (w : World) (h : Sl RI 1 w w.heap.size A n c xs) : Calls Try.prog 22 #[.slice A n c, .int .i64 x] w fun e w' => e = .returned (.bool (decide (x ∈ xs))) ∧ w = w' := by
  have hIx : Calls Try.prog 35 #[.slice A n c, .int .i64 x] w fun e w' => (∃ k : Int, (0 ≤ k ↔ x ∈ xs) ∧ e = .returned (.int .i64 k)) ∧ w = w' := by
    have m1 := Nat.le_trans h.le h.max
    unfold maxLen at m1
    have HL := Lib.hid h.len
    go_enter Try.func35, Try.ntmps35
    go_wp2
    go_loop [5, 8] (fun va vk => ∃ k : Nat, k ≤ n ∧ vk = .int .i64 k ∧ Hid (∀ i y, i < k → xs[i]? = some y → x ≠ y)) (fun _ vk => n - (intOf vk).toNat)
    case atStart => exact ⟨0, Nat.zero_le _, rfl, fun i y hi => absurd hi (by omega)⟩
    case round =>
      obtain ⟨k, hk, rfl, hup⟩ := hrel
      by_cases hlt : k < n
      · obtain ⟨b, o, y, rfl, hb, hy, hf, hc⟩ := h.int hlt
        have HY := Lib.hid hy
        clear hy h
        by_cases hxy : x = y
        · have q : (x == y) = true := by simpa using hxy
          have HE : Hid (x ∈ xs) := by rw [hxy]; exact List.mem_of_getElem? HY.out
          clear hxy
          go_wp2
          go_ret
          exact ⟨⟨_, by simp [HE.out], rfl⟩, rfl⟩
        · have q : (x == y) = false := by simpa using hxy
          have HU := Lib.hid (P.before_step (Q := fun y => x ≠ y) hup.out HY.out hxy)
          clear hxy
          go_wp2
          go_round
          case rel => exact ⟨k + 1, by omega, by go_num, HU⟩
          case measure => simp [intOf]; omega
      · have HE : Hid (¬ x ∈ xs) := by
          intro hm
          obtain ⟨i, hi⟩ := List.getElem?_of_mem hm
          exact hup.out i x (by have := (List.getElem?_eq_some_iff.1 hi).1; have := HL.out; omega) hi rfl
        clear h
        go_wp2
        go_ret
        exact ⟨⟨_, by simp [HE.out], rfl⟩, rfl⟩
  go_enter Try.func22, Try.ntmps22
  go_wp2_with fail
  refine hIx.mono ?_
  rintro e w2 ⟨⟨k, hk, rfl⟩, rfl⟩
  by_cases h0 : 0 ≤ k
  · have q : decide (0 ≤ k) = true := by simpa using h0
    have HE : Hid (decide (x ∈ xs) = true) := decide_eq_true (hk.1 h0)
    clear hk h0 h hIx
    go_wp2
    go_ret
    exact ⟨ret_bool HE.out.symm, rfl⟩
  · have q : decide (0 ≤ k) = false := by simpa using h0
    have HE : Hid (decide (x ∈ xs) = false) := decide_eq_false (fun hm => h0 (hk.2 hm))
    clear hk h0 h hIx
    go_wp2
    go_ret
    exact ⟨ret_bool HE.out.symm, rfl⟩
set_option maxHeartbeats 1600000 in
theorem l4Rank {A E : Option Addr} {n c m d : Nat} {x : Wi} {v : Int} (w : World) (h : Sl RI 1 w w.heap.size A n c x.list) (hx : 0 ≤ x.value ∧ x.value ≤ 9) (hv : 0 ≤ v ∧ v ≤ 9) :
    Calls Try.prog 29 #[.agg #[.int .i64 x.kind, .int .i64 x.field, .int .i64 x.value, .slice A n c, .slice E m d], .int .i64 v] w fun e w' => e = .returned (.int .i64 (P.rank x v)) ∧ Below w.heap.size w w' := by
  have BW := (Below.refl w.heap.size w).alloc (Nat.le_refl _) (.cells #[.int .i64 x.kind, .int .i64 x.field, .int .i64 x.value, .slice A n c, .slice E m d] 27)
  have H := Lib.hid (h.on RI.keeps BW)
  obtain ⟨x0, x1⟩ := hx
  obtain ⟨v0, v1⟩ := hv
  clear h
  by_cases k0 : x.kind = 0
  · have t0 : (x.kind == 0) = true := by simpa using k0
    have HE : Hid (P.rank x v = v) := by show _ = _; unfold P.rank; rw [if_pos k0]
    clear k0
    go_enter Try.func29, Try.ntmps29
    go_wp2
    go_ret
    exact ⟨ret_int HE.out.symm, BW⟩
  · have t0 : (x.kind == 0) = false := by simpa using k0
    by_cases k1 : x.kind = 1
    · have t1 : (x.kind == 1) = true := by simpa using k1
      have HE : Hid (P.rank x v = 9 - v) := by show _ = _; unfold P.rank; rw [if_neg k0, if_pos k1]
      clear k0 k1
      go_enter Try.func29, Try.ntmps29
      go_wp2
      go_ret
      exact ⟨ret_int HE.out.symm, BW⟩
    · have t1 : (x.kind == 1) = false := by simpa using k1
      by_cases k2 : x.kind = 2
      · have t2 : (x.kind == 2) = true := by simpa using k2
        have HE : Hid (P.rank x v = max (v - x.value) (x.value - v)) := by show _ = _; unfold P.rank; rw [if_neg k0, if_neg k1, if_pos k2]
        clear k0 k1 k2
        go_enter Try.func29, Try.ntmps29
        go_wp2
        all_goals
          go_ret
          exact ⟨ret_int (by rw [HE.out]; omega), BW⟩
      · have t2 : (x.kind == 2) = false := by simpa using k2
        by_cases hm : v ∈ x.list
        · have q : decide (v ∈ x.list) = true := by simpa using hm
          have HE : Hid (P.rank x v = 0) := by show _ = _; unfold P.rank; rw [if_neg k0, if_neg k1, if_neg k2, if_pos hm]
          clear k0 k1 k2 hm
          go_enter Try.func29, Try.ntmps29
          go_wp2_with (go_at_call 39; refine (l2Has _ H.out).mono ?_; rintro e w' ⟨rfl, rfl⟩; rw [q])
          go_ret
          exact ⟨ret_int HE.out.symm, BW⟩
        · have q : decide (v ∈ x.list) = false := by simpa using hm
          have HE : Hid (P.rank x v = 1) := by show _ = _; unfold P.rank; rw [if_neg k0, if_neg k1, if_neg k2, if_neg hm]
          clear k0 k1 k2 hm
          go_enter Try.func29, Try.ntmps29
          go_wp2_with (go_at_call 39; refine (l2Has _ H.out).mono ?_; rintro e w' ⟨rfl, rfl⟩; rw [q])
          go_ret
          exact ⟨ret_int HE.out.symm, BW⟩
/-- What RankOfValue answers. -/
noncomputable def rovB (x : Wi) (v : Int) : Bool := P.okW x && !decide (x.kind = 4) && P.inR v 0 9
noncomputable def rovN (x : Wi) (v : Int) : Int := if rovB x v then P.rank x v else 0
theorem rov_no {x : Wi} {v : Int} (h : rovB x v = false) : (0 : Int) = rovN x v ∧ false = rovB x v := by unfold rovN; rw [h]; exact ⟨rfl, rfl⟩
theorem rov_yes {x : Wi} {v r : Int} (h : rovB x v = true) (hr : P.rank x v = r) : r = rovN x v ∧ true = rovB x v := by unfold rovN; rw [h, ← hr]; exact ⟨rfl, rfl⟩
theorem rovB_mk {x : Wi} {v : Int} (h1 : P.okW x = true) (h2 : x.kind ≠ 4) (h3 : P.inR v 0 9 = true) : rovB x v = true := by unfold rovB; rw [h1, h3]; simp [h2]
set_option maxHeartbeats 1600000 in
theorem specRankOfValue {A E : Option Addr} {n c m d : Nat} {x : Wi} {v : Int} (w : World) (h : Sl RI 1 w w.heap.size A n c x.list) (g : Sl RP 2 w w.heap.size E m d x.pairs) (f1 : Fit x.kind) (f2 : Fit x.field) (f3 : Fit x.value) (fv : Fit v) :
    Calls Try.prog 14 #[.agg #[.int .i64 x.kind, .int .i64 x.field, .int .i64 x.value, .slice A n c, .slice E m d], .int .i64 v] w fun e w' => e = .returned (.tuple #[.int .i64 (rovN x v), .bool (rovB x v)]) ∧ Below w.heap.size w w' := by
  have BW := (Below.refl w.heap.size w).alloc (Nat.le_refl _) (.cells #[.int .i64 x.kind, .int .i64 x.field, .int .i64 x.value, .slice A n c, .slice E m d] 27)
  have H := Lib.hid (h.on RI.keeps BW)
  have G := Lib.hid (g.on RP.keeps BW)
  have hsz := BW.size
  clear h g
  cases hok : P.okW x with
  | false =>
    have HE := Lib.hid (rov_no (x := x) (v := v) (by unfold rovB; rw [hok]; rfl))
    go_enter Try.func14, Try.ntmps14
    go_wp2_with (go_at_call 10; refine (specIsWish _ H.out G.out).mono ?_; rintro e w2 ⟨rfl, b2⟩; rw [hok])
    go_ret2
    exact ⟨ret_two HE.out, BW.trans (b2.mono hsz)⟩
  | true =>
    have hval := P.okW_value hok
    by_cases k4 : x.kind = 4
    · have t4 : (x.kind == 4) = true := by simpa using k4
      have HE := Lib.hid (rov_no (x := x) (v := v) (by unfold rovB; simp [k4]))
      clear k4
      go_enter Try.func14, Try.ntmps14
      go_wp2_with fail
      refine (specIsWish _ H.out G.out).mono ?_
      rintro e w2 ⟨rfl, b2⟩
      rw [hok]
      have hC := cell_of b2
      have z1 : w.heap.size < w2.heap.size := by have := b2.size; simp at this; omega
      go_wp2_with fail
      go_ret2
      exact ⟨ret_two HE.out, BW.trans (b2.mono hsz)⟩
    · have t4 : (x.kind == 4) = false := by simpa using k4
      cases hr : P.inR v 0 9 with
      | false =>
        have HE := Lib.hid (rov_no (x := x) (v := v) (by unfold rovB; rw [hr]; simp))
        clear k4
        go_enter Try.func14, Try.ntmps14
        go_wp2_with fail
        refine (specIsWish _ H.out G.out).mono ?_
        rintro e w2 ⟨rfl, b2⟩
        rw [hok]
        have hC := cell_of b2
        have z1 : w.heap.size < w2.heap.size := by have := b2.size; simp at this; omega
        go_wp2_with (go_at_call 23; refine (l1In _ _ _ _).mono ?_; rintro e w' ⟨rfl, rfl⟩)
        go_ret2
        exact ⟨ret_two HE.out, BW.trans (b2.mono hsz)⟩
      | true =>
        have HE := Lib.hid (rov_yes (rovB_mk hok k4 hr) rfl)
        have hv := P.inR_t hr
        clear k4
        go_enter Try.func14, Try.ntmps14
        go_wp2_with fail
        refine (specIsWish _ H.out G.out).mono ?_
        rintro e w2 ⟨rfl, b2⟩
        rw [hok]
        have hC := cell_of b2
        have z1 : w.heap.size < w2.heap.size := by have := b2.size; simp at this; omega
        have H2 := Lib.hid (H.out.on RI.keeps b2)
        go_wp2_with (first | (go_at_call 23; refine (l1In _ _ _ _).mono ?_; rintro e w' ⟨rfl, rfl⟩) | (go_at_call 29; refine (l4Rank _ H2.out hval hv).mono ?_; rintro e w3 ⟨rfl, b3⟩))
        go_ret2
        exact ⟨ret_two HE.out, (BW.trans (b2.mono hsz)).trans (b3.mono (BW.trans (b2.mono hsz)).size)⟩
set_option maxHeartbeats 3200000 in
theorem implRankOfValue {A E : Option Addr} {n c m d : Nat} {x : Wi} {v : Int} (w : World) (h : Sl RI 1 w w.heap.size A n c x.list) (g : Sl RP 2 w w.heap.size E m d x.pairs) (f1 : Fit x.kind) (f2 : Fit x.field) (f3 : Fit x.value) (fv : Fit v) :
    Calls Try.prog 7 #[.agg #[.int .i64 x.kind, .int .i64 x.field, .int .i64 x.value, .slice A n c, .slice E m d], .int .i64 v] w fun e w' => e = .returned (.tuple #[.int .i64 (rovN x v), .bool (rovB x v)]) ∧ Below w.heap.size w w' := by
  have BW := (Below.refl w.heap.size w).alloc (Nat.le_refl _) (.cells #[.int .i64 x.kind, .int .i64 x.field, .int .i64 x.value, .slice A n c, .slice E m d] 27)
  have H := Lib.hid (h.on RI.keeps BW)
  have G := Lib.hid (g.on RP.keeps BW)
  have hsz := BW.size
  clear h g
  cases hok : P.okW x with
  | false =>
    have HE := Lib.hid (rov_no (x := x) (v := v) (by unfold rovB; rw [hok]; rfl))
    go_enter Try.func7, Try.ntmps7
    go_wp2_with (go_at_call 9; refine (implIsWish _ H.out G.out).mono ?_; rintro e w2 ⟨rfl, b2⟩; rw [hok])
    go_ret2
    exact ⟨ret_two HE.out, BW.trans (b2.mono hsz)⟩
  | true =>
    obtain ⟨x0, x1⟩ := P.okW_value hok
    cases hr : P.inR v 0 9 with
    | false =>
      have HE := Lib.hid (rov_no (x := x) (v := v) (by unfold rovB; rw [hr]; simp))
      clear x0
      go_enter Try.func7, Try.ntmps7
      go_wp2_with fail
      refine (implIsWish _ H.out G.out).mono ?_
      rintro e w2 ⟨rfl, b2⟩
      rw [hok]
      have hC := cell_of b2
      have z1 : w.heap.size < w2.heap.size := by have := b2.size; simp at this; omega
      have H2 := Lib.hid (H.out.on RI.keeps b2)
      go_wp2_with (first | (go_at_call 20; refine (within _ _ _ _).mono ?_; rintro e w' ⟨rfl, rfl⟩))
      go_ret2
      exact ⟨ret_two HE.out, BW.trans (b2.mono hsz)⟩
    | true =>
      obtain ⟨v0, v1⟩ := P.inR_t hr
      obtain ⟨kk0, kk4⟩ := P.okW_kind hok
      by_cases k0 : x.kind = 0
      · have t0 : (x.kind == 0) = true := by simpa using k0
        have HE := Lib.hid (rov_yes (r := v) (rovB_mk hok (by omega) hr) (by unfold P.rank; rw [if_pos k0]))
        clear k0
        go_enter Try.func7, Try.ntmps7
        go_wp2_with fail
        refine (implIsWish _ H.out G.out).mono ?_
        rintro e w2 ⟨rfl, b2⟩
        rw [hok]
        have hC := cell_of b2
        have z1 : w.heap.size < w2.heap.size := by have := b2.size; simp at this; omega
        have H2 := Lib.hid (H.out.on RI.keeps b2)
        go_wp2_with (first | (go_at_call 20; refine (within _ _ _ _).mono ?_; rintro e w' ⟨rfl, rfl⟩))
        go_ret2
        exact ⟨ret_two HE.out, BW.trans (b2.mono hsz)⟩
      · have t0 : (x.kind == 0) = false := by simpa using k0
        by_cases k1 : x.kind = 1
        · have t1 : (x.kind == 1) = true := by simpa using k1
          have HE := Lib.hid (rov_yes (r := 9 - v) (rovB_mk hok (by omega) hr) (by unfold P.rank; rw [if_neg k0, if_pos k1]))
          clear k0 k1
          go_enter Try.func7, Try.ntmps7
          go_wp2_with fail
          refine (implIsWish _ H.out G.out).mono ?_
          rintro e w2 ⟨rfl, b2⟩
          rw [hok]
          have hC := cell_of b2
          have z1 : w.heap.size < w2.heap.size := by have := b2.size; simp at this; omega
          have H2 := Lib.hid (H.out.on RI.keeps b2)
          go_wp2_with (first | (go_at_call 20; refine (within _ _ _ _).mono ?_; rintro e w' ⟨rfl, rfl⟩))
          go_ret2
          exact ⟨ret_two HE.out, BW.trans (b2.mono hsz)⟩
        · have t1 : (x.kind == 1) = false := by simpa using k1
          by_cases k2 : x.kind = 2
          · have t2 : (x.kind == 2) = true := by simpa using k2
            have HE := Lib.hid (rov_yes (r := max (v - x.value) (x.value - v)) (rovB_mk hok (by omega) hr) (by unfold P.rank; rw [if_neg k0, if_neg k1, if_pos k2]))
            clear k0 k1 k2
            go_enter Try.func7, Try.ntmps7
            go_wp2_with fail
            refine (implIsWish _ H.out G.out).mono ?_
            rintro e w2 ⟨rfl, b2⟩
            rw [hok]
            have hC := cell_of b2
            have z1 : w.heap.size < w2.heap.size := by have := b2.size; simp at this; omega
            have H2 := Lib.hid (H.out.on RI.keeps b2)
            go_wp2_with (first | (go_at_call 20; refine (within _ _ _ _).mono ?_; rintro e w' ⟨rfl, rfl⟩))
            all_goals
              go_ret2
              exact ⟨ret_two ⟨by rw [← HE.out.1]; omega, HE.out.2⟩, BW.trans (b2.mono hsz)⟩
          · have t2 : (x.kind == 2) = false := by simpa using k2
            by_cases k3 : x.kind = 3
            · have t3 : (x.kind == 3) = true := by simpa using k3
              by_cases hm : v ∈ x.list
              · have q : decide (v ∈ x.list) = true := by simpa using hm
                have HE := Lib.hid (rov_yes (r := 0) (rovB_mk hok (by omega) hr) (by unfold P.rank; rw [if_neg k0, if_neg k1, if_neg k2, if_pos hm]))
                clear k0 k1 k2 k3 hm
                go_enter Try.func7, Try.ntmps7
                go_wp2_with fail
                refine (implIsWish _ H.out G.out).mono ?_
                rintro e w2 ⟨rfl, b2⟩
                rw [hok]
                have hC := cell_of b2
                have z1 : w.heap.size < w2.heap.size := by have := b2.size; simp at this; omega
                have H2 := Lib.hid (H.out.on RI.keeps b2)
                go_wp2_with (first | (go_at_call 20; refine (within _ _ _ _).mono ?_; rintro e w' ⟨rfl, rfl⟩) | (go_at_call 22; refine (indexInts _ H2.out).mono ?_; rintro e w' ⟨rfl, rfl⟩; rw [q]))
                go_ret2
                exact ⟨ret_two HE.out, BW.trans (b2.mono hsz)⟩
              · have q : decide (v ∈ x.list) = false := by simpa using hm
                have HE := Lib.hid (rov_yes (r := 1) (rovB_mk hok (by omega) hr) (by unfold P.rank; rw [if_neg k0, if_neg k1, if_neg k2, if_neg hm]))
                clear k0 k1 k2 k3 hm
                go_enter Try.func7, Try.ntmps7
                go_wp2_with fail
                refine (implIsWish _ H.out G.out).mono ?_
                rintro e w2 ⟨rfl, b2⟩
                rw [hok]
                have hC := cell_of b2
                have z1 : w.heap.size < w2.heap.size := by have := b2.size; simp at this; omega
                have H2 := Lib.hid (H.out.on RI.keeps b2)
                go_wp2_with (first | (go_at_call 20; refine (within _ _ _ _).mono ?_; rintro e w' ⟨rfl, rfl⟩) | (go_at_call 22; refine (indexInts _ H2.out).mono ?_; rintro e w' ⟨rfl, rfl⟩; rw [q]))
                go_ret2
                exact ⟨ret_two HE.out, BW.trans (b2.mono hsz)⟩
            · have t3 : (x.kind == 3) = false := by simpa using k3
              have HE := Lib.hid (rov_no (x := x) (v := v) (by unfold rovB; simp [show x.kind = 4 by omega]))
              clear k0 k1 k2 k3
              go_enter Try.func7, Try.ntmps7
              go_wp2_with fail
              refine (implIsWish _ H.out G.out).mono ?_
              rintro e w2 ⟨rfl, b2⟩
              rw [hok]
              have hC := cell_of b2
              have z1 : w.heap.size < w2.heap.size := by have := b2.size; simp at this; omega
              have H2 := Lib.hid (H.out.on RI.keeps b2)
              go_wp2_with (first | (go_at_call 20; refine (within _ _ _ _).mono ?_; rintro e w' ⟨rfl, rfl⟩))
              go_ret2
              exact ⟨ret_two HE.out, BW.trans (b2.mono hsz)⟩
end Go.Proofs.Ytpnbpjgnehcdbaa.Wk

namespace Go.Proofs.Ytpnbpjgnehcdbaa.Wk
open Go.RowKit Go.Proofs.Ytpnbpjgnehcdbaa.M
set_option linter.unusedVariables false
attribute [local go_sem] cell_grow

set_option maxHeartbeats 3200000 in
theorem l4Compare {A E : Option Addr} {n c m d : Nat} {x : Wi} {a b : Int} (w : World) (h : Sl RI 1 w w.heap.size A n c x.list) (g : Sl RP 2 w w.heap.size E m d x.pairs) (hok : P.okW x = true) (ha : 0 ≤ a ∧ a ≤ 9) (hb : 0 ≤ b ∧ b ≤ 9) :
    Calls Try.prog 24 #[.agg #[.int .i64 x.kind, .int .i64 x.field, .int .i64 x.value, .slice A n c, .slice E m d], .int .i64 a, .int .i64 b] w fun e w' => e = .returned (.int .i64 (P.cmpV x a b)) ∧ Below w.heap.size w w' := by
  have BW := (Below.refl w.heap.size w).alloc (Nat.le_refl _) (.cells #[.int .i64 x.kind, .int .i64 x.field, .int .i64 x.value, .slice A n c, .slice E m d] 27)
  have H := Lib.hid (h.on RI.keeps BW)
  have G := Lib.hid (g.on RP.keeps BW)
  have hsz := BW.size
  have hval := P.okW_value hok
  have HOK := Lib.hid hok
  have HM := Lib.hid g.len
  clear h g hok
  by_cases k4 : x.kind = 4
  · have t4 : (x.kind == 4) = true := by simpa using k4
    have hm8 : m ≤ 8 := by have := P.okW_pairslen HOK.out; have := HM.out; omega
    have fa : Fit a := by unfold Fit; omega
    have fb : Fit b := by unfold Fit; omega
    by_cases hab : a = b
    · have q : (a == b) = true := by simpa using hab
      have HE : Hid (P.cmpV x a b = 0) := by show _ = _; unfold P.cmpV; rw [if_pos k4, if_pos hab]
      clear k4 hab
      go_enter Try.func24, Try.ntmps24
      go_wp2_with fail
      go_ret
      exact ⟨ret_int HE.out.symm, BW⟩
    · have q : (a == b) = false := by simpa using hab
      cases h1 : P.abv x.pairs a b with
      | true =>
        have HE : Hid (P.cmpV x a b = 1) := by show _ = _; unfold P.cmpV; rw [if_pos k4, if_neg hab, h1]; rfl
        clear k4 hab
        go_enter Try.func24, Try.ntmps24
        go_wp2_with (go_at_call 36; refine (l3Reach _ G.out hm8 fa).mono ?_; rintro e w2 ⟨rfl, b2⟩; rw [h1])
        go_ret
        exact ⟨ret_int HE.out.symm, BW.trans (b2.mono hsz)⟩
      | false =>
        cases h2 : P.abv x.pairs b a with
        | true =>
          have HE : Hid (P.cmpV x a b = -1) := by show _ = _; unfold P.cmpV; rw [if_pos k4, if_neg hab, h1, h2]; rfl
          clear k4 hab
          go_enter Try.func24, Try.ntmps24
          go_wp2_with fail
          refine (l3Reach _ G.out hm8 fa).mono ?_
          rintro e w2 ⟨rfl, b2⟩
          rw [h1]
          have hC := cell_of b2
          have z1 : w.heap.size < w2.heap.size := Nat.lt_of_lt_of_le (by simp) b2.size
          have G2 := Lib.hid (G.out.on RP.keeps b2)
          go_wp2_with fail
          refine (l3Reach _ G2.out hm8 fb).mono ?_
          rintro e w3 ⟨rfl, b3⟩
          rw [h2]
          go_wp2_with fail
          go_ret
          exact ⟨ret_int HE.out.symm, (BW.trans (b2.mono hsz)).trans (b3.mono (BW.trans (b2.mono hsz)).size)⟩
        | false =>
          have HE : Hid (P.cmpV x a b = 2) := by show _ = _; unfold P.cmpV; rw [if_pos k4, if_neg hab, h1, h2]; rfl
          clear k4 hab
          go_enter Try.func24, Try.ntmps24
          go_wp2_with fail
          refine (l3Reach _ G.out hm8 fa).mono ?_
          rintro e w2 ⟨rfl, b2⟩
          rw [h1]
          have hC := cell_of b2
          have z1 : w.heap.size < w2.heap.size := Nat.lt_of_lt_of_le (by simp) b2.size
          have G2 := Lib.hid (G.out.on RP.keeps b2)
          go_wp2_with fail
          refine (l3Reach _ G2.out hm8 fb).mono ?_
          rintro e w3 ⟨rfl, b3⟩
          rw [h2]
          go_wp2_with fail
          go_ret
          exact ⟨ret_int HE.out.symm, (BW.trans (b2.mono hsz)).trans (b3.mono (BW.trans (b2.mono hsz)).size)⟩
  · have t4 : (x.kind == 4) = false := by simpa using k4
    have r1 := P.rank_bd hval ha
    have r2 := P.rank_bd hval hb
    have HE0 : Hid (P.cmpV x a b = if P.rank x a < P.rank x b then 1 else if P.rank x b < P.rank x a then -1 else 0) := by show _ = _; unfold P.cmpV; rw [if_neg k4]
    clear k4
    by_cases lt : P.rank x a < P.rank x b
    ·
      have HE : Hid (P.cmpV x a b = 1) := by show _ = _; rw [HE0.out, if_pos lt]
      go_enter Try.func24, Try.ntmps24
      go_wp2_with fail
      refine (l4Rank _ H.out hval ha).mono ?_
      rintro e w2 ⟨rfl, b2⟩
      have hC := cell_of b2
      have z1 : w.heap.size < w2.heap.size := Nat.lt_of_lt_of_le (by simp) b2.size
      have H2 := Lib.hid (H.out.on RI.keeps b2)
      go_wp2_with fail
      refine (l4Rank _ H2.out hval hb).mono ?_
      rintro e w3 ⟨rfl, b3⟩
      go_wp2_with fail
      go_ret
      exact ⟨ret_int HE.out.symm, (BW.trans (b2.mono hsz)).trans (b3.mono (BW.trans (b2.mono hsz)).size)⟩
    · by_cases gt : P.rank x b < P.rank x a
      ·
        have HE : Hid (P.cmpV x a b = -1) := by show _ = _; rw [HE0.out, if_neg lt, if_pos gt]
        go_enter Try.func24, Try.ntmps24
        go_wp2_with fail
        refine (l4Rank _ H.out hval ha).mono ?_
        rintro e w2 ⟨rfl, b2⟩
        have hC := cell_of b2
        have z1 : w.heap.size < w2.heap.size := Nat.lt_of_lt_of_le (by simp) b2.size
        have H2 := Lib.hid (H.out.on RI.keeps b2)
        go_wp2_with fail
        refine (l4Rank _ H2.out hval hb).mono ?_
        rintro e w3 ⟨rfl, b3⟩
        go_wp2_with fail
        go_ret
        exact ⟨ret_int HE.out.symm, (BW.trans (b2.mono hsz)).trans (b3.mono (BW.trans (b2.mono hsz)).size)⟩
      ·
        have HE : Hid (P.cmpV x a b = 0) := by show _ = _; rw [HE0.out, if_neg lt, if_neg gt]
        go_enter Try.func24, Try.ntmps24
        go_wp2_with fail
        refine (l4Rank _ H.out hval ha).mono ?_
        rintro e w2 ⟨rfl, b2⟩
        have hC := cell_of b2
        have z1 : w.heap.size < w2.heap.size := Nat.lt_of_lt_of_le (by simp) b2.size
        have H2 := Lib.hid (H.out.on RI.keeps b2)
        go_wp2_with fail
        refine (l4Rank _ H2.out hval hb).mono ?_
        rintro e w3 ⟨rfl, b3⟩
        go_wp2_with fail
        go_ret
        exact ⟨ret_int HE.out.symm, (BW.trans (b2.mono hsz)).trans (b3.mono (BW.trans (b2.mono hsz)).size)⟩
set_option maxHeartbeats 3200000 in
theorem specCompareValues {A E : Option Addr} {n c m d : Nat} {x : Wi} {a b : Int} (w : World) (h : Sl RI 1 w w.heap.size A n c x.list) (g : Sl RP 2 w w.heap.size E m d x.pairs) (f1 : Fit x.kind) (f2 : Fit x.field) (f3 : Fit x.value) (fa : Fit a) (fb : Fit b) :
    Calls Try.prog 8 #[.agg #[.int .i64 x.kind, .int .i64 x.field, .int .i64 x.value, .slice A n c, .slice E m d], .int .i64 a, .int .i64 b] w fun e w' => e = .returned (.int .i64 (P.cmpVals x a b)) ∧ Below w.heap.size w w' := by
  have BW := (Below.refl w.heap.size w).alloc (Nat.le_refl _) (.cells #[.int .i64 x.kind, .int .i64 x.field, .int .i64 x.value, .slice A n c, .slice E m d] 27)
  have H := Lib.hid (h.on RI.keeps BW)
  have G := Lib.hid (g.on RP.keeps BW)
  have hsz := BW.size
  clear h g
  cases hok : P.okW x with
  | false =>
    have HE : Hid (P.cmpVals x a b = 2) := by show _ = _; unfold P.cmpVals; rw [hok]; rfl
    go_enter Try.func8, Try.ntmps8
    go_wp2_with (go_at_call 10; refine (specIsWish _ H.out G.out).mono ?_; rintro e w2 ⟨rfl, b2⟩; rw [hok])
    go_ret
    exact ⟨ret_int HE.out.symm, BW.trans (b2.mono hsz)⟩
  | true =>
    cases ra : P.inR a 0 9 with
    | false =>
      have HE : Hid (P.cmpVals x a b = 2) := by show _ = _; unfold P.cmpVals; rw [hok, ra]; rfl
      go_enter Try.func8, Try.ntmps8
      go_wp2_with (first | (go_at_call 10; refine (specIsWish _ H.out G.out).mono ?_; rintro e w2 ⟨rfl, b2⟩; rw [hok]) | (go_at_call 23; refine (l1In _ _ _ _).mono ?_; rintro e w' ⟨rfl, rfl⟩))
      go_ret
      exact ⟨ret_int HE.out.symm, BW.trans (b2.mono hsz)⟩
    | true =>
      cases rb : P.inR b 0 9 with
      | false =>
        have HE : Hid (P.cmpVals x a b = 2) := by show _ = _; unfold P.cmpVals; rw [hok, ra, rb]; rfl
        go_enter Try.func8, Try.ntmps8
        go_wp2_with (first | (go_at_call 10; refine (specIsWish _ H.out G.out).mono ?_; rintro e w2 ⟨rfl, b2⟩; rw [hok]) | (go_at_call 23; refine (l1In _ _ _ _).mono ?_; rintro e w' ⟨rfl, rfl⟩))
        go_ret
        exact ⟨ret_int HE.out.symm, BW.trans (b2.mono hsz)⟩
      | true =>
        have ha := P.inR_t ra
        have hb := P.inR_t rb
        have HE : Hid (P.cmpVals x a b = P.cmpV x a b) := by show _ = _; unfold P.cmpVals; rw [hok, ra, rb]; rfl
        have HOK := Lib.hid hok
        go_enter Try.func8, Try.ntmps8
        go_wp2_with fail
        refine (specIsWish _ H.out G.out).mono ?_
        rintro e w2 ⟨rfl, b2⟩
        rw [hok]
        clear hok
        have hC := cell_of b2
        have z1 : w.heap.size < w2.heap.size := Nat.lt_of_lt_of_le (by simp) b2.size
        have H2 := Lib.hid (H.out.on RI.keeps b2)
        have G2 := Lib.hid (G.out.on RP.keeps b2)
        go_wp2_with (first | (go_at_call 23; refine (l1In _ _ _ _).mono ?_; rintro e w' ⟨rfl, rfl⟩) | (go_at_call 24; refine (l4Compare _ H2.out G2.out HOK.out ha hb).mono ?_; rintro e w3 ⟨rfl, b3⟩))
        go_ret
        exact ⟨ret_int HE.out.symm, (BW.trans (b2.mono hsz)).trans (b3.mono (BW.trans (b2.mono hsz)).size)⟩
set_option maxHeartbeats 3200000 in
theorem implCompareValues {A E : Option Addr} {n c m d : Nat} {x : Wi} {a b : Int} (w : World) (h : Sl RI 1 w w.heap.size A n c x.list) (g : Sl RP 2 w w.heap.size E m d x.pairs) (f1 : Fit x.kind) (f2 : Fit x.field) (f3 : Fit x.value) (fa : Fit a) (fb : Fit b) :
    Calls Try.prog 6 #[.agg #[.int .i64 x.kind, .int .i64 x.field, .int .i64 x.value, .slice A n c, .slice E m d], .int .i64 a, .int .i64 b] w fun e w' => e = .returned (.int .i64 (P.cmpVals x a b)) ∧ Below w.heap.size w w' := by
  have BW := (Below.refl w.heap.size w).alloc (Nat.le_refl _) (.cells #[.int .i64 x.kind, .int .i64 x.field, .int .i64 x.value, .slice A n c, .slice E m d] 27)
  have H := Lib.hid (h.on RI.keeps BW)
  have G := Lib.hid (g.on RP.keeps BW)
  have hsz := BW.size
  clear h g
  cases hok : P.okW x with
  | false =>
    have HE : Hid (P.cmpVals x a b = 2) := by show _ = _; unfold P.cmpVals; rw [hok]; rfl
    go_enter Try.func6, Try.ntmps6
    go_wp2_with (go_at_call 9; refine (implIsWish _ H.out G.out).mono ?_; rintro e w2 ⟨rfl, b2⟩; rw [hok])
    go_ret
    exact ⟨ret_int HE.out.symm, BW.trans (b2.mono hsz)⟩
  | true =>
    cases ra : P.inR a 0 9 with
    | false =>
      have HE : Hid (P.cmpVals x a b = 2) := by show _ = _; unfold P.cmpVals; rw [hok, ra]; rfl
      go_enter Try.func6, Try.ntmps6
      go_wp2_with (first | (go_at_call 9; refine (implIsWish _ H.out G.out).mono ?_; rintro e w2 ⟨rfl, b2⟩; rw [hok]) | (go_at_call 20; refine (within _ _ _ _).mono ?_; rintro e w' ⟨rfl, rfl⟩))
      go_ret
      exact ⟨ret_int HE.out.symm, BW.trans (b2.mono hsz)⟩
    | true =>
      cases rb : P.inR b 0 9 with
      | false =>
        have HE : Hid (P.cmpVals x a b = 2) := by show _ = _; unfold P.cmpVals; rw [hok, ra, rb]; rfl
        go_enter Try.func6, Try.ntmps6
        go_wp2_with (first | (go_at_call 9; refine (implIsWish _ H.out G.out).mono ?_; rintro e w2 ⟨rfl, b2⟩; rw [hok]) | (go_at_call 20; refine (within _ _ _ _).mono ?_; rintro e w' ⟨rfl, rfl⟩))
        go_ret
        exact ⟨ret_int HE.out.symm, BW.trans (b2.mono hsz)⟩
      | true =>
        have ha := P.inR_t ra
        have hb := P.inR_t rb
        by_cases k4 : x.kind = 4
        · have t4 : (x.kind == 4) = true := by simpa using k4
          have hin := P.okP_in (P.okW_pairs hok k4)
          obtain ⟨a0, a1⟩ := ha
          obtain ⟨b0, b1⟩ := hb
          obtain ⟨i, rfl⟩ := Int.eq_ofNat_of_zero_le a0
          obtain ⟨j, rfl⟩ := Int.eq_ofNat_of_zero_le b0
          have i10 : i < 10 := by omega
          have j10 : j < 10 := by omega
          have HV : Hid (P.cmpVals x i j = if (i : Int) = j then 0 else if P.abv x.pairs i j then 1 else if P.abv x.pairs j i then -1 else 2) := by show _ = _; unfold P.cmpVals; rw [hok, ra, rb]; unfold P.cmpV; rw [if_pos k4]; rfl
          have HIN := Lib.hid hin
          clear k4 hin
          by_cases hij : (i : Int) = j
          · have t : ((i : Int) == (j : Int)) = true := by simpa using hij
            have t' : (i == j) = true := by simp; omega
            have h1 : True := trivial
            have h2 : True := trivial
            have HE : Hid (P.cmpVals x i j = 0) := by show _ = _; rw [HV.out, if_pos hij]
            have hzero := zero_tab
            have HOK := Lib.hid hok
            go_enter Try.func6, Try.ntmps6
            go_wp2_with fail
            refine (implIsWish _ H.out G.out).mono ?_
            rintro e w2 ⟨rfl, b2⟩
            rw [hok]
            clear hok
            have hC := cell_of b2
            have z1 : w.heap.size < w2.heap.size := Nat.lt_of_lt_of_le (by simp) b2.size
            have H2 := Lib.hid (H.out.on RI.keeps b2)
            have G2 := Lib.hid (G.out.on RP.keeps b2)
            have B2 := BW.trans (b2.mono hsz)
            go_wp2_with (go_at_call 20; refine (within _ _ _ _).mono ?_; rintro e w' ⟨rfl, rfl⟩)
            refine (above _ G2.out HIN.out).mono ?_
            rintro e w3 ⟨rfl, b3⟩
            have B3 := B2.trans (b3.mono B2.size)
            have r0 := Row.new w3 48 (matC fun _ _ => false)
            have hgz : w.heap.size ≤ w3.heap.size := B3.size
            have HB0 := B3.alloc hgz (.cells (matC fun _ _ => false).toArray 48)
            clear b3 B3 B2 hC
            have q1 : (i : Int) < 10 := by omega
            have q2 : (0 : Int) ≤ (i : Int) := by omega
            have q3 : (j : Int) < 10 := by omega
            have q4 : (0 : Int) ≤ (j : Int) := by omega
            clear hij
            go_wp2_with (refine store_row (by rfl) 48 _ _ (by rfl) w3.heap.size (matC fun x' y => P.abv x.pairs x' y) _ 48 (by rfl) (by rfl) r0 (sz_tab _) (by rw [matC_len, matC_len]) (matC_one _) ?_; intro w9 r9 hg9; have c1 := (r9.cell (i * 10 + j)).trans (matC_at _ i10 j10); have c2 := (r9.cell (j * 10 + i)).trans (matC_at _ j10 i10); (try rw [h1] at c1); (try rw [h2] at c2))
            go_ret
            exact ⟨ret_int HE.out.symm, HB0.grown hg9 HB0.size (fun k hk => by injection hk with hk; omega)⟩
          · have t : ((i : Int) == (j : Int)) = false := by simp; omega
            have t' : (i == j) = false := by simp; omega
            cases h1 : P.abv x.pairs i j with
            | true =>
              have h2 : True := trivial
              have HE : Hid (P.cmpVals x i j = 1) := by show _ = _; rw [HV.out, if_neg hij, h1]; rfl
              have hzero := zero_tab
              have HOK := Lib.hid hok
              go_enter Try.func6, Try.ntmps6
              go_wp2_with fail
              refine (implIsWish _ H.out G.out).mono ?_
              rintro e w2 ⟨rfl, b2⟩
              rw [hok]
              clear hok
              have hC := cell_of b2
              have z1 : w.heap.size < w2.heap.size := Nat.lt_of_lt_of_le (by simp) b2.size
              have H2 := Lib.hid (H.out.on RI.keeps b2)
              have G2 := Lib.hid (G.out.on RP.keeps b2)
              have B2 := BW.trans (b2.mono hsz)
              go_wp2_with (go_at_call 20; refine (within _ _ _ _).mono ?_; rintro e w' ⟨rfl, rfl⟩)
              refine (above _ G2.out HIN.out).mono ?_
              rintro e w3 ⟨rfl, b3⟩
              have B3 := B2.trans (b3.mono B2.size)
              have r0 := Row.new w3 48 (matC fun _ _ => false)
              have hgz : w.heap.size ≤ w3.heap.size := B3.size
              have HB0 := B3.alloc hgz (.cells (matC fun _ _ => false).toArray 48)
              clear b3 B3 B2 hC
              have q1 : (i : Int) < 10 := by omega
              have q2 : (0 : Int) ≤ (i : Int) := by omega
              have q3 : (j : Int) < 10 := by omega
              have q4 : (0 : Int) ≤ (j : Int) := by omega
              clear hij
              go_wp2_with (refine store_row (by rfl) 48 _ _ (by rfl) w3.heap.size (matC fun x' y => P.abv x.pairs x' y) _ 48 (by rfl) (by rfl) r0 (sz_tab _) (by rw [matC_len, matC_len]) (matC_one _) ?_; intro w9 r9 hg9; have c1 := (r9.cell (i * 10 + j)).trans (matC_at _ i10 j10); have c2 := (r9.cell (j * 10 + i)).trans (matC_at _ j10 i10); (try rw [h1] at c1); (try rw [h2] at c2))
              go_ret
              exact ⟨ret_int HE.out.symm, HB0.grown hg9 HB0.size (fun k hk => by injection hk with hk; omega)⟩
            | false =>
              cases h2 : P.abv x.pairs j i with
              | true =>
                have HE : Hid (P.cmpVals x i j = -1) := by show _ = _; rw [HV.out, if_neg hij, h1, h2]; rfl
                have hzero := zero_tab
                have HOK := Lib.hid hok
                go_enter Try.func6, Try.ntmps6
                go_wp2_with fail
                refine (implIsWish _ H.out G.out).mono ?_
                rintro e w2 ⟨rfl, b2⟩
                rw [hok]
                clear hok
                have hC := cell_of b2
                have z1 : w.heap.size < w2.heap.size := Nat.lt_of_lt_of_le (by simp) b2.size
                have H2 := Lib.hid (H.out.on RI.keeps b2)
                have G2 := Lib.hid (G.out.on RP.keeps b2)
                have B2 := BW.trans (b2.mono hsz)
                go_wp2_with (go_at_call 20; refine (within _ _ _ _).mono ?_; rintro e w' ⟨rfl, rfl⟩)
                refine (above _ G2.out HIN.out).mono ?_
                rintro e w3 ⟨rfl, b3⟩
                have B3 := B2.trans (b3.mono B2.size)
                have r0 := Row.new w3 48 (matC fun _ _ => false)
                have hgz : w.heap.size ≤ w3.heap.size := B3.size
                have HB0 := B3.alloc hgz (.cells (matC fun _ _ => false).toArray 48)
                clear b3 B3 B2 hC
                have q1 : (i : Int) < 10 := by omega
                have q2 : (0 : Int) ≤ (i : Int) := by omega
                have q3 : (j : Int) < 10 := by omega
                have q4 : (0 : Int) ≤ (j : Int) := by omega
                clear hij
                go_wp2_with (refine store_row (by rfl) 48 _ _ (by rfl) w3.heap.size (matC fun x' y => P.abv x.pairs x' y) _ 48 (by rfl) (by rfl) r0 (sz_tab _) (by rw [matC_len, matC_len]) (matC_one _) ?_; intro w9 r9 hg9; have c1 := (r9.cell (i * 10 + j)).trans (matC_at _ i10 j10); have c2 := (r9.cell (j * 10 + i)).trans (matC_at _ j10 i10); (try rw [h1] at c1); (try rw [h2] at c2))
                go_ret
                exact ⟨ret_int HE.out.symm, HB0.grown hg9 HB0.size (fun k hk => by injection hk with hk; omega)⟩
              | false =>
                have HE : Hid (P.cmpVals x i j = 2) := by show _ = _; rw [HV.out, if_neg hij, h1, h2]; rfl
                have hzero := zero_tab
                have HOK := Lib.hid hok
                go_enter Try.func6, Try.ntmps6
                go_wp2_with fail
                refine (implIsWish _ H.out G.out).mono ?_
                rintro e w2 ⟨rfl, b2⟩
                rw [hok]
                clear hok
                have hC := cell_of b2
                have z1 : w.heap.size < w2.heap.size := Nat.lt_of_lt_of_le (by simp) b2.size
                have H2 := Lib.hid (H.out.on RI.keeps b2)
                have G2 := Lib.hid (G.out.on RP.keeps b2)
                have B2 := BW.trans (b2.mono hsz)
                go_wp2_with (go_at_call 20; refine (within _ _ _ _).mono ?_; rintro e w' ⟨rfl, rfl⟩)
                refine (above _ G2.out HIN.out).mono ?_
                rintro e w3 ⟨rfl, b3⟩
                have B3 := B2.trans (b3.mono B2.size)
                have r0 := Row.new w3 48 (matC fun _ _ => false)
                have hgz : w.heap.size ≤ w3.heap.size := B3.size
                have HB0 := B3.alloc hgz (.cells (matC fun _ _ => false).toArray 48)
                clear b3 B3 B2 hC
                have q1 : (i : Int) < 10 := by omega
                have q2 : (0 : Int) ≤ (i : Int) := by omega
                have q3 : (j : Int) < 10 := by omega
                have q4 : (0 : Int) ≤ (j : Int) := by omega
                clear hij
                go_wp2_with (refine store_row (by rfl) 48 _ _ (by rfl) w3.heap.size (matC fun x' y => P.abv x.pairs x' y) _ 48 (by rfl) (by rfl) r0 (sz_tab _) (by rw [matC_len, matC_len]) (matC_one _) ?_; intro w9 r9 hg9; have c1 := (r9.cell (i * 10 + j)).trans (matC_at _ i10 j10); have c2 := (r9.cell (j * 10 + i)).trans (matC_at _ j10 i10); (try rw [h1] at c1); (try rw [h2] at c2))
                go_ret
                exact ⟨ret_int HE.out.symm, HB0.grown hg9 HB0.size (fun k hk => by injection hk with hk; omega)⟩
        · have t4 : (x.kind == 4) = false := by simpa using k4
          have HE0 : Hid (P.cmpVals x a b = if P.rank x a < P.rank x b then 1 else if P.rank x b < P.rank x a then -1 else 0) := by show _ = _; unfold P.cmpVals; rw [hok, ra, rb]; unfold P.cmpV; rw [if_neg k4]; rfl
          have e1 : rovN x a = P.rank x a := by unfold rovN; rw [rovB_mk hok k4 ra]; rfl
          have e2 : rovN x b = P.rank x b := by unfold rovN; rw [rovB_mk hok k4 rb]; rfl
          have HF := Lib.hid (And.intro f1 (And.intro f2 f3))
          have r1 := P.rank_bd (P.okW_value hok) ha
          have r2 := P.rank_bd (P.okW_value hok) hb
          clear k4
          by_cases lt : P.rank x a < P.rank x b
          ·
            have HE : Hid (P.cmpVals x a b = 1) := by show _ = _; rw [HE0.out, if_pos lt]
            have HOK := Lib.hid hok
            go_enter Try.func6, Try.ntmps6
            go_wp2_with fail
            refine (implIsWish _ H.out G.out).mono ?_
            rintro e w2 ⟨rfl, b2⟩
            rw [hok]
            clear hok
            have hC := cell_of b2
            have z1 : w.heap.size < w2.heap.size := Nat.lt_of_lt_of_le (by simp) b2.size
            have H2 := Lib.hid (H.out.on RI.keeps b2)
            have G2 := Lib.hid (G.out.on RP.keeps b2)
            have B2 := BW.trans (b2.mono hsz)
            go_wp2_with (go_at_call 20; refine (within _ _ _ _).mono ?_; rintro e w' ⟨rfl, rfl⟩)
            refine (implRankOfValue _ H2.out G2.out f1 f2 f3 fa).mono ?_
            rintro e w3 ⟨rfl, b3⟩
            rw [e1]
            have B3 := B2.trans (b3.mono B2.size)
            have hC3 := cell_of b3
            have z2 : w.heap.size < w3.heap.size := Nat.lt_of_lt_of_le z1 b3.size
            have H3 := Lib.hid (H2.out.on RI.keeps b3)
            have G3 := Lib.hid (G2.out.on RP.keeps b3)
            go_wp2_with fail
            refine (implRankOfValue _ H3.out G3.out f1 f2 f3 fb).mono ?_
            rintro e w4 ⟨rfl, b4⟩
            rw [e2]
            go_wp2_with fail
            go_ret
            exact ⟨ret_int HE.out.symm, B3.trans (b4.mono B3.size)⟩
          · by_cases gt : P.rank x b < P.rank x a
            ·
              have HE : Hid (P.cmpVals x a b = -1) := by show _ = _; rw [HE0.out, if_neg lt, if_pos gt]
              have HOK := Lib.hid hok
              go_enter Try.func6, Try.ntmps6
              go_wp2_with fail
              refine (implIsWish _ H.out G.out).mono ?_
              rintro e w2 ⟨rfl, b2⟩
              rw [hok]
              clear hok
              have hC := cell_of b2
              have z1 : w.heap.size < w2.heap.size := Nat.lt_of_lt_of_le (by simp) b2.size
              have H2 := Lib.hid (H.out.on RI.keeps b2)
              have G2 := Lib.hid (G.out.on RP.keeps b2)
              have B2 := BW.trans (b2.mono hsz)
              go_wp2_with (go_at_call 20; refine (within _ _ _ _).mono ?_; rintro e w' ⟨rfl, rfl⟩)
              refine (implRankOfValue _ H2.out G2.out f1 f2 f3 fa).mono ?_
              rintro e w3 ⟨rfl, b3⟩
              rw [e1]
              have B3 := B2.trans (b3.mono B2.size)
              have hC3 := cell_of b3
              have z2 : w.heap.size < w3.heap.size := Nat.lt_of_lt_of_le z1 b3.size
              have H3 := Lib.hid (H2.out.on RI.keeps b3)
              have G3 := Lib.hid (G2.out.on RP.keeps b3)
              go_wp2_with fail
              refine (implRankOfValue _ H3.out G3.out f1 f2 f3 fb).mono ?_
              rintro e w4 ⟨rfl, b4⟩
              rw [e2]
              go_wp2_with fail
              go_ret
              exact ⟨ret_int HE.out.symm, B3.trans (b4.mono B3.size)⟩
            ·
              have HE : Hid (P.cmpVals x a b = 0) := by show _ = _; rw [HE0.out, if_neg lt, if_neg gt]
              have HOK := Lib.hid hok
              go_enter Try.func6, Try.ntmps6
              go_wp2_with fail
              refine (implIsWish _ H.out G.out).mono ?_
              rintro e w2 ⟨rfl, b2⟩
              rw [hok]
              clear hok
              have hC := cell_of b2
              have z1 : w.heap.size < w2.heap.size := Nat.lt_of_lt_of_le (by simp) b2.size
              have H2 := Lib.hid (H.out.on RI.keeps b2)
              have G2 := Lib.hid (G.out.on RP.keeps b2)
              have B2 := BW.trans (b2.mono hsz)
              go_wp2_with (go_at_call 20; refine (within _ _ _ _).mono ?_; rintro e w' ⟨rfl, rfl⟩)
              refine (implRankOfValue _ H2.out G2.out f1 f2 f3 fa).mono ?_
              rintro e w3 ⟨rfl, b3⟩
              rw [e1]
              have B3 := B2.trans (b3.mono B2.size)
              have hC3 := cell_of b3
              have z2 : w.heap.size < w3.heap.size := Nat.lt_of_lt_of_le z1 b3.size
              have H3 := Lib.hid (H2.out.on RI.keeps b3)
              have G3 := Lib.hid (G2.out.on RP.keeps b3)
              go_wp2_with fail
              refine (implRankOfValue _ H3.out G3.out f1 f2 f3 fb).mono ?_
              rintro e w4 ⟨rfl, b4⟩
              rw [e2]
              go_wp2_with fail
              go_ret
              exact ⟨ret_int HE.out.symm, B3.trans (b4.mono B3.size)⟩
end Go.Proofs.Ytpnbpjgnehcdbaa.Wk

namespace Go.Proofs.Ytpnbpjgnehcdbaa.Wk
open Go.RowKit Go.Proofs.Ytpnbpjgnehcdbaa.M
set_option linter.unusedVariables false

theorem okV_take {xs : List Int} {k : Nat} {x : Int} (h : P.okV (xs.take k) = true) (hx : xs[k]? = some x) (h1 : P.inR x 0 9 = true) : P.okV (xs.take (k + 1)) = true := by
  have hl := (List.getElem?_eq_some_iff.1 hx).1
  rw [List.take_succ_eq_append_getElem hl]
  rw [List.getElem?_eq_getElem hl] at hx
  injection hx with hx
  subst hx
  unfold P.okV at *
  simp only [List.all_append, h, Bool.true_and, List.all_cons, List.all_nil, Bool.and_true]
  exact h1
theorem okV_bad {xs : List Int} {k : Nat} {x : Int} (hx : xs[k]? = some x) (h1 : P.inR x 0 9 = false) : P.okV xs = false := by
  unfold P.okV
  rw [List.all_eq_false]
  exact ⟨x, List.mem_of_getElem? hx, by simp [h1]⟩
theorem areValues {B : Nat} {A : Option Addr} {n c : Nat} {xs : List Int} (w : World) (h : Sl RI 1 w B A n c xs) : Calls Try.prog 40 #[.slice A n c] w fun e w' => e = .returned (.bool (P.okV xs)) ∧ w = w' := by
  have L1 := Lib.hid h.len
  have m1 := h.max
  have m2 := h.le
  unfold maxLen at m1
  go_enter Try.func40, Try.ntmps40
  go_wp2
  go_loop [4, 7] (fun vx vi => ∃ k : Nat, k ≤ n ∧ vi = .int .i64 k ∧ Hid (P.okV (xs.take k) = true)) (fun _ vi => n - (intOf vi).toNat)
  case atStart => exact ⟨0, Nat.zero_le _, rfl, rfl⟩
  case round =>
    obtain ⟨k, hk, rfl, hok⟩ := hrel
    by_cases hlt : k < n
    · obtain ⟨b, o, x, rfl, hb, hx, hf, hc⟩ := h.int hlt
      have HX := Lib.hid hx
      clear hx h
      cases hr : P.inR x 0 9 with
      | true =>
        have HE := Lib.hid (okV_take hok.out HX.out hr)
        go_wp2_with (go_at_call 20; refine (within _ _ _ _).mono ?_; rintro e w' ⟨rfl, rfl⟩)
        go_round
        case rel => exact ⟨k + 1, by omega, by go_num, HE⟩
        case measure => simp [intOf]; omega
      | false =>
        have HE := Lib.hid (okV_bad HX.out hr)
        go_wp2_with (go_at_call 20; refine (within _ _ _ _).mono ?_; rintro e w' ⟨rfl, rfl⟩)
        go_ret
        exact ⟨ret_bool HE.out.symm, rfl⟩
    · have HE : Hid (P.okV xs = true) := by
        have := hok.out
        rwa [List.take_of_length_le (by have := L1.out; omega)] at this
      clear h
      go_wp2
      go_ret
      exact ⟨ret_bool HE.out.symm, rfl⟩
theorem okI_eq (id : Int) (xs : List Int) (n : Nat) (hn : xs.length = n) : P.okI ⟨id, xs⟩ = (P.inR id 0 99 && decide (n = 3) && P.okV xs) := by subst hn; rfl
theorem implIsItem {B : Nat} {A : Option Addr} {n c : Nat} {id : Int} {xs : List Int} (w : World) (h : Sl RI 1 w B A n c xs) (hB : B ≤ w.heap.size) :
    Calls Try.prog 30 #[.agg #[.int .i64 id, .slice A n c]] w fun e w' => e = .returned (.bool (P.okI ⟨id, xs⟩)) ∧ Below w.heap.size w w' := by
  have h2 : ∀ o, Sl RI 1 (w.alloc o) B A n c xs := fun o => h.below RI.keeps ((Below.refl _ _).alloc hB o)
  rw [okI_eq id xs n h.len]
  have m1 := h.max
  have m2 := h.le
  unfold maxLen at m1
  cases h1 : P.inR id 0 99 with
  | false =>
    clear h h2
    go_enter Try.func30, Try.ntmps30
    go_wp2_with (go_at_call 20; refine (within _ _ _ _).mono ?_; rintro e w' ⟨rfl, rfl⟩)
    go_ret
    exact ⟨rfl, (Below.refl _ _).alloc (Nat.le_refl _) _⟩
  | true =>
    by_cases h3 : n = 3
    · have ht : ((n : Int) == 3) = true := by simp; omega
      have HD : Hid ((true && decide (n = 3) && P.okV xs) = P.okV xs) := by show _ = _; simp [h3]
      clear h3 h
      go_enter Try.func30, Try.ntmps30
      go_wp2_with (first | (go_at_call 20; refine (within _ _ _ _).mono ?_; rintro e w' ⟨rfl, rfl⟩) | (go_at_call 40; refine (areValues _ (h2 _)).mono ?_; rintro e w' ⟨rfl, rfl⟩))
      go_ret
      exact ⟨ret_bool HD.out.symm, (Below.refl _ _).alloc (Nat.le_refl _) _⟩
    · have ht : ((n : Int) == 3) = false := by simp; omega
      have HD : Hid ((true && decide (n = 3) && P.okV xs) = false) := by show _ = _; simp [h3]
      clear h3 h h2
      go_enter Try.func30, Try.ntmps30
      go_wp2_with (go_at_call 20; refine (within _ _ _ _).mono ?_; rintro e w' ⟨rfl, rfl⟩)
      go_ret
      exact ⟨ret_bool HD.out.symm, (Below.refl _ _).alloc (Nat.le_refl _) _⟩
set_option maxHeartbeats 400000 in
theorem specIsItem {B : Nat} {A : Option Addr} {n c : Nat} {id : Int} {xs : List Int} (w : World) (h0 : Sl RI 1 w B A n c xs) (hB : B ≤ w.heap.size) :
    Calls Try.prog 31 #[.agg #[.int .i64 id, .slice A n c]] w fun e w' => e = .returned (.bool (P.okI ⟨id, xs⟩)) ∧ Below w.heap.size w w' := by
  have h : Sl RI 1 (w.alloc (.cells #[.int .i64 id, .slice A n c] 36)) B A n c xs := h0.below RI.keeps ((Below.refl _ _).alloc hB _)
  have HI := Lib.hid (okI_eq id xs n h0.len)
  have L1 := Lib.hid h.len
  have m1 := h.max
  have m2 := h.le
  unfold maxLen at m1
  clear h0
  go_enter Try.func31, Try.ntmps31
  go_wp2
  go_loop [3] (fun vi => ∃ k : Nat, k ≤ n ∧ vi = .int .i64 k ∧ Hid (P.okV (xs.take k) = true)) (fun vi => n - (intOf vi).toNat)
  case atStart => exact ⟨0, Nat.zero_le _, rfl, rfl⟩
  case round =>
    obtain ⟨k, hk, rfl, hok⟩ := hrel
    by_cases hlt : k < n
    · obtain ⟨b, o, x, rfl, hb, hx, hf, hc⟩ := h.int hlt
      have HX := Lib.hid hx
      clear hx h
      cases hr : P.inR x 0 9 with
      | true =>
        have HE := Lib.hid (okV_take hok.out HX.out hr)
        go_wp2_with (go_at_call 23; refine (l1In _ _ _ _).mono ?_; rintro e w' ⟨rfl, rfl⟩)
        go_round
        case rel => exact ⟨k + 1, by omega, by go_num, HE⟩
        case measure => simp [intOf]; omega
      | false =>
        have HE : Hid (P.okI ⟨id, xs⟩ = false) := by
          show _ = _
          rw [HI.out, okV_bad HX.out hr]; simp
        go_wp2_with (go_at_call 23; refine (l1In _ _ _ _).mono ?_; rintro e w' ⟨rfl, rfl⟩)
        go_ret
        exact ⟨ret_bool HE.out.symm, (Below.refl _ _).alloc (Nat.le_refl _) _⟩
    · have HE : Hid (P.okI ⟨id, xs⟩ = (P.inR id 0 99 && decide (n = 3))) := by
        have := hok.out
        rw [List.take_of_length_le (by have := L1.out; omega)] at this
        show _ = _
        rw [HI.out, this]; simp
      clear h
      cases h1 : P.inR id 0 99 with
      | false =>
        go_wp2_with (go_at_call 23; refine (l1In _ _ _ _).mono ?_; rintro e w' ⟨rfl, rfl⟩)
        go_ret
        exact ⟨ret_bool (by rw [HE.out, h1]; rfl), (Below.refl _ _).alloc (Nat.le_refl _) _⟩
      | true =>
        by_cases h3 : n = 3
        · have ht : ((n : Int) == 3) = true := by simp; omega
          have HD := Lib.hid h3
          clear h3
          go_wp2_with (go_at_call 23; refine (l1In _ _ _ _).mono ?_; rintro e w' ⟨rfl, rfl⟩)
          go_ret
          exact ⟨ret_bool (by rw [HE.out, h1, HD.out]; rfl), (Below.refl _ _).alloc (Nat.le_refl _) _⟩
        · have ht : ((n : Int) == 3) = false := by simp; omega
          have HD := Lib.hid h3
          clear h3
          go_wp2_with (go_at_call 23; refine (l1In _ _ _ _).mono ?_; rintro e w' ⟨rfl, rfl⟩)
          go_ret
          exact ⟨ret_bool (by rw [HE.out, h1]; simp [HD.out]), (Below.refl _ _).alloc (Nat.le_refl _) _⟩
/-- It returns an item whose numbers lie in a row of the call's own. -/
def OwnIt (w : World) (id : Int) (xs : List Int) (e : Ending) (w' : World) : Prop := ∃ v, e = .returned (.agg #[.int .i64 id, v]) ∧ w'.ownsRow w.heap.size 3 1 v xs.length (xs.map (Value.int .i64)) ∧ Below w.heap.size w w'
theorem OwnIt.read {w : World} {id : Int} {xs : List Int} {e : Ending} {w' : World} (h : OwnIt w id xs e w') (hf : ∀ x ∈ xs, Fit x) :
    ∃ A n c, e = .returned (.agg #[.int .i64 id, .slice A n c]) ∧ Sl RI 1 w' w'.heap.size A n c xs ∧ Below w.heap.size w w' := by
  obtain ⟨v, rfl, ho, hb⟩ := h
  obtain ⟨A, n, c, rfl, hs⟩ := own_ints ho hf
  exact ⟨A, n, c, rfl, hs, hb⟩
end Go.Proofs.Ytpnbpjgnehcdbaa.Wk

namespace Go.Proofs.Ytpnbpjgnehcdbaa.Wk
open Go.RowKit Go.Proofs.Ytpnbpjgnehcdbaa.M
set_option linter.unusedVariables false

end Go.Proofs.Ytpnbpjgnehcdbaa.Wk

namespace Go.Proofs.Ytpnbpjgnehcdbaa.Wk
open Go.RowKit Go.Proofs.Ytpnbpjgnehcdbaa.M
set_option linter.unusedVariables false
attribute [local go_sem] cell_grow

theorem okI_val {x : It} (h : P.okI x = true) {f : Nat} (hf : f ≤ 2) : x.vals.length = 3 ∧ ∃ v, x.vals[f]? = some v ∧ 0 ≤ v ∧ v ≤ 9 := by
  simp only [P.okI, Bool.and_eq_true, decide_eq_true_eq] at h
  obtain ⟨⟨_, hl⟩, hv⟩ := h
  refine ⟨hl, x.vals[f]'(by omega), List.getElem?_eq_getElem (by omega), ?_⟩
  exact P.inR_t (List.all_eq_true.1 hv _ (List.getElem_mem _))
set_option maxHeartbeats 1000000 in
set_option maxRecDepth 100000 in
theorem specCompareItems {A E A1 A2 : Option Addr} {n c m d n1 c1 n2 c2 : Nat} {x : Wi} {y z : It} (w : World) (h : Sl RI 1 w w.heap.size A n c x.list) (g : Sl RP 2 w w.heap.size E m d x.pairs) (f1 : Fit x.kind) (f2 : Fit x.field) (f3 : Fit x.value)
    (k : Sl RI 1 w w.heap.size A1 n1 c1 y.vals) (f4 : Fit y.id) (j : Sl RI 1 w w.heap.size A2 n2 c2 z.vals) (f5 : Fit z.id) :
    Calls Try.prog 16 #[.agg #[.int .i64 x.kind, .int .i64 x.field, .int .i64 x.value, .slice A n c, .slice E m d], .agg #[.int .i64 y.id, .slice A1 n1 c1], .agg #[.int .i64 z.id, .slice A2 n2 c2]] w fun e w' => e = .returned (.int .i64 (P.cmpIs x y z)) ∧ Below w.heap.size w w' := by
  have BW := (((Below.refl w.heap.size w).alloc (Nat.le_refl _) (.cells #[.int .i64 x.kind, .int .i64 x.field, .int .i64 x.value, .slice A n c, .slice E m d] 27)).alloc (by simp) (.cells #[.int .i64 y.id, .slice A1 n1 c1] 36)).alloc (by simp; omega) (.cells #[.int .i64 z.id, .slice A2 n2 c2] 36)
  have H := Lib.hid (h.on RI.keeps BW)
  have G := Lib.hid (g.on RP.keeps BW)
  have K := Lib.hid (k.on RI.keeps BW)
  have J := Lib.hid (j.on RI.keeps BW)
  have hsz := BW.size
  have ww0 : w.heap.size < (((w.alloc (.cells #[.int .i64 x.kind, .int .i64 x.field, .int .i64 x.value, .slice A n c, .slice E m d] 27)).alloc (.cells #[.int .i64 y.id, .slice A1 n1 c1] 36)).alloc (.cells #[.int .i64 z.id, .slice A2 n2 c2] 36)).heap.size := by simp; omega
  have ww1 : w.heap.size + 1 < (((w.alloc (.cells #[.int .i64 x.kind, .int .i64 x.field, .int .i64 x.value, .slice A n c, .slice E m d] 27)).alloc (.cells #[.int .i64 y.id, .slice A1 n1 c1] 36)).alloc (.cells #[.int .i64 z.id, .slice A2 n2 c2] 36)).heap.size := by simp
  have ww2 : w.heap.size + 1 + 1 < (((w.alloc (.cells #[.int .i64 x.kind, .int .i64 x.field, .int .i64 x.value, .slice A n c, .slice E m d] 27)).alloc (.cells #[.int .i64 y.id, .slice A1 n1 c1] 36)).alloc (.cells #[.int .i64 z.id, .slice A2 n2 c2] 36)).heap.size := by simp
  have HK0 := Lib.hid k
  have HJ0 := Lib.hid j
  clear h g k j
  cases hok : P.okW x with
  | false =>
    have HE : Hid (P.cmpIs x y z = 2) := by show _ = _; unfold P.cmpIs; rw [hok]; rfl
    go_enter Try.func16, Try.ntmps16
    go_wp2_with (go_at_call 10; refine (specIsWish _ H.out G.out).mono ?_; rintro e w2 ⟨rfl, b2⟩; rw [hok])
    go_ret
    exact ⟨ret_int HE.out.symm, BW.trans (b2.mono hsz)⟩
  | true =>
    cases h1 : P.okI y with
    | false =>
      have HE : Hid (P.cmpIs x y z = 2) := by show _ = _; unfold P.cmpIs; rw [hok, h1]; rfl
      go_enter Try.func16, Try.ntmps16
      go_wp2_with fail
      refine (specIsWish _ H.out G.out).mono ?_
      rintro e w2 ⟨rfl, b2⟩
      rw [hok]
      have hC2 := cell_of b2
      have z0 : w.heap.size < w2.heap.size := Nat.lt_of_lt_of_le (by simp; omega) b2.size
      have z1 : w.heap.size + 1 < w2.heap.size := Nat.lt_of_lt_of_le (by simp) b2.size
      have z2 : w.heap.size + 1 + 1 < w2.heap.size := Nat.lt_of_lt_of_le (by simp) b2.size
      have B2 := BW.trans (b2.mono hsz)
      have K2 := Lib.hid (K.out.on RI.keeps b2)
      go_wp2_with fail
      refine (specIsItem (id := y.id) (xs := y.vals) _ K2.out (Nat.le_refl _)).mono ?_
      rintro e w3 ⟨rfl, b3⟩
      rw [h1]
      go_wp2_with fail
      go_ret
      exact ⟨ret_int HE.out.symm, B2.trans (b3.mono B2.size)⟩
    | true =>
      cases h2 : P.okI z with
      | false =>
        have HE : Hid (P.cmpIs x y z = 2) := by show _ = _; unfold P.cmpIs; rw [hok, h1, h2]; rfl
        go_enter Try.func16, Try.ntmps16
        go_wp2_with fail
        refine (specIsWish _ H.out G.out).mono ?_
        rintro e w2 ⟨rfl, b2⟩
        rw [hok]
        have hC2 := cell_of b2
        have z0 : w.heap.size < w2.heap.size := Nat.lt_of_lt_of_le (by simp; omega) b2.size
        have z1 : w.heap.size + 1 < w2.heap.size := Nat.lt_of_lt_of_le (by simp) b2.size
        have z2 : w.heap.size + 1 + 1 < w2.heap.size := Nat.lt_of_lt_of_le (by simp) b2.size
        have B2 := BW.trans (b2.mono hsz)
        have K2 := Lib.hid (K.out.on RI.keeps b2)
        go_wp2_with fail
        refine (specIsItem (id := y.id) (xs := y.vals) _ K2.out (Nat.le_refl _)).mono ?_
        rintro e w3 ⟨rfl, b3⟩
        rw [h1]
        have hC3 := cell_of b3
        have y0 : w.heap.size < w3.heap.size := Nat.lt_of_lt_of_le z0 b3.size
        have y1 : w.heap.size + 1 < w3.heap.size := Nat.lt_of_lt_of_le z1 b3.size
        have y2 : w.heap.size + 1 + 1 < w3.heap.size := Nat.lt_of_lt_of_le z2 b3.size
        have B3 := B2.trans (b3.mono B2.size)
        have J3 := Lib.hid ((J.out.on RI.keeps b2).on RI.keeps b3)
        go_wp2_with fail
        refine (specIsItem (id := z.id) (xs := z.vals) _ J3.out (Nat.le_refl _)).mono ?_
        rintro e w4 ⟨rfl, b4⟩
        rw [h2]
        go_wp2_with fail
        go_ret
        exact ⟨ret_int HE.out.symm, B3.trans (b4.mono B3.size)⟩
      | true =>
        have HE : Hid (P.cmpIs x y z = P.cmpV x (y.vals.getD x.field.toNat 0) (z.vals.getD x.field.toNat 0)) := by show _ = _; unfold P.cmpIs; rw [hok, h1, h2]; rfl
        have HOK := Lib.hid hok
        obtain ⟨p0, p2⟩ := P.okW_field hok
        have hf2 : x.field.toNat ≤ 2 := by omega
        obtain ⟨L1, v1, hx1, hv1⟩ := okI_val h1 hf2
        obtain ⟨L2, v2, hx2, hv2⟩ := okI_val h2 hf2
        have n13 : n1 = 3 := by have := HK0.out.len; omega
        have n23 : n2 = 3 := by have := HJ0.out.len; omega
        obtain ⟨ba, oa, va, ea, hba, hxa, _, ca⟩ := HK0.out.int (k := x.field.toNat) (by omega)
        obtain ⟨bb, ob, vb, eb, hbb, hxb, _, cb⟩ := HJ0.out.int (k := x.field.toNat) (by omega)
        obtain rfl : va = v1 := by rw [hx1] at hxa; injection hxa with hxa; exact hxa.symm
        obtain rfl : vb = v2 := by rw [hx2] at hxb; injection hxb with hxb; exact hxb.symm
        have HE2 : Hid (P.cmpIs x y z = P.cmpV x va vb ∧ P.cmpVals x va vb = P.cmpV x va vb) := by
          refine Lib.hid ⟨?_, ?_⟩
          · rw [HE.out]
            have e1 : y.vals.getD x.field.toNat 0 = va := by simp [List.getD, hx1]
            have e2 : z.vals.getD x.field.toNat 0 = vb := by simp [List.getD, hx2]
            rw [e1, e2]
          · unfold P.cmpVals
            rw [hok, P.inR_mk hv1, P.inR_mk hv2]; rfl
        have fa : Fit va := by unfold Fit; omega
        have fb : Fit vb := by unfold Fit; omega
        have HN := Lib.hid (And.intro n13 n23)
        subst ea eb
        have l1 := HK0.out.le
        have l2 := HJ0.out.le
        have q1 : x.field < (n1 : Int) := by omega
        have q2 : x.field < (n2 : Int) := by omega
        have q3 : (0 : Int) ≤ x.field := by omega
        have q4 : (n1 : Int) ≤ (c1 : Int) := by omega
        have q5 : (n2 : Int) ≤ (c2 : Int) := by omega
        clear n13 n23 L1 L2 hx1 hx2 hxa hxb p0 p2 HK0 HJ0 hf2
        go_enter Try.func16, Try.ntmps16
        go_wp2_with fail
        refine (specIsWish _ H.out G.out).mono ?_
        rintro e w2 ⟨rfl, b2⟩
        rw [hok]
        have hC2 := cell_of b2
        have z0 : w.heap.size < w2.heap.size := Nat.lt_of_lt_of_le (by simp; omega) b2.size
        have z1 : w.heap.size + 1 < w2.heap.size := Nat.lt_of_lt_of_le (by simp) b2.size
        have z2 : w.heap.size + 1 + 1 < w2.heap.size := Nat.lt_of_lt_of_le (by simp) b2.size
        have B2 := BW.trans (b2.mono hsz)
        have K2 := Lib.hid (K.out.on RI.keeps b2)
        go_wp2_with fail
        refine (specIsItem (id := y.id) (xs := y.vals) _ K2.out (Nat.le_refl _)).mono ?_
        rintro e w3 ⟨rfl, b3⟩
        rw [h1]
        have hC3 := cell_of b3
        have y0 : w.heap.size < w3.heap.size := Nat.lt_of_lt_of_le z0 b3.size
        have y1 : w.heap.size + 1 < w3.heap.size := Nat.lt_of_lt_of_le z1 b3.size
        have y2 : w.heap.size + 1 + 1 < w3.heap.size := Nat.lt_of_lt_of_le z2 b3.size
        have B3 := B2.trans (b3.mono B2.size)
        have J3 := Lib.hid ((J.out.on RI.keeps b2).on RI.keeps b3)
        go_wp2_with fail
        refine (specIsItem (id := z.id) (xs := z.vals) _ J3.out (Nat.le_refl _)).mono ?_
        rintro e w4 ⟨rfl, b4⟩
        rw [h2]
        have hC4 := cell_of b4
        have x0 : w.heap.size < w4.heap.size := Nat.lt_of_lt_of_le y0 b4.size
        have x1 : w.heap.size + 1 < w4.heap.size := Nat.lt_of_lt_of_le y1 b4.size
        have x2 : w.heap.size + 1 + 1 < w4.heap.size := Nat.lt_of_lt_of_le y2 b4.size
        have B4 := B3.trans (b4.mono B3.size)
        have ua : ba < w4.heap.size := by have := B4.size; omega
        have ub : bb < w4.heap.size := by have := B4.size; omega
        have da : w4.cell? ⟨ba, oa + x.field.toNat, none⟩ = some (.int .i64 va) := (B4.cell (p := ⟨ba, oa + x.field.toNat, none⟩) hba).trans ca
        have db : w4.cell? ⟨bb, ob + x.field.toNat, none⟩ = some (.int .i64 vb) := (B4.cell (p := ⟨bb, ob + x.field.toNat, none⟩) hbb).trans cb
        have H3 := Lib.hid (((H.out.on RI.keeps b2).on RI.keeps b3).on RI.keeps b4)
        have G3 := Lib.hid (((G.out.on RP.keeps b2).on RP.keeps b3).on RP.keeps b4)
        have S0 := ((((((Row.new w 27 [.int .i64 x.kind, .int .i64 x.field, .int .i64 x.value, .slice A n c, .slice E m d]).alloc (.cells #[.int .i64 y.id, .slice (some ⟨ba, oa, none⟩) n1 c1] 36)).alloc (.cells #[.int .i64 z.id, .slice (some ⟨bb, ob, none⟩) n2 c2] 36)).below b2 ww0).below b3 z0).below b4 y0)
        have S1 := (Row.new (w.alloc (.cells #[.int .i64 x.kind, .int .i64 x.field, .int .i64 x.value, .slice A n c, .slice E m d] 27)) 36 [.int .i64 y.id, .slice (some ⟨ba, oa, none⟩) n1 c1]).alloc (.cells #[.int .i64 z.id, .slice (some ⟨bb, ob, none⟩) n2 c2] 36)
        have S2 := Row.new ((w.alloc (.cells #[.int .i64 x.kind, .int .i64 x.field, .int .i64 x.value, .slice A n c, .slice E m d] 27)).alloc (.cells #[.int .i64 y.id, .slice (some ⟨ba, oa, none⟩) n1 c1] 36)) 36 [.int .i64 z.id, .slice (some ⟨bb, ob, none⟩) n2 c2]
        rw [World.size_alloc] at S1
        rw [World.size_alloc, World.size_alloc] at S2
        have S1 := ((S1.below b2 ww1).below b3 z1).below b4 y1
        have S2 := ((S2.below b2 ww2).below b3 z2).below b4 y2
        have d0 := S0.cell 0
        have d1 := S0.cell 1
        have d2 := S0.cell 2
        have d3 := S0.cell 3
        have d4 := S0.cell 4
        have d5 := S1.cell 1
        have d6 := S2.cell 1
        simp at d0 d1 d2 d3 d4 d5 d6
        clear S0 S1 S2
        clear hC2 hC3 hC4 hok h1 h2 ca cb
        go_wp2_with fail
        refine wp_region_qb (by kernel_rfl) (by kernel_rfl) ?_; (repeat (go_big_quiet_step ((go_at_call 24; exact quietB (l4Compare _ (H3.out.gr RI.keeps _ _) (G3.out.gr RP.keeps _ _) HOK.out hv1 hv2))))); refine wpQuiet_nil ?_; intro w8 hb8
        go_wp2
        go_ret
        exact ⟨ret_int HE2.out.1.symm, B4.trans (hb8.mono B4.size)⟩
set_option maxHeartbeats 1000000 in
set_option maxRecDepth 100000 in
theorem implCompareItems {A E A1 A2 : Option Addr} {n c m d n1 c1 n2 c2 : Nat} {x : Wi} {y z : It} (w : World) (h : Sl RI 1 w w.heap.size A n c x.list) (g : Sl RP 2 w w.heap.size E m d x.pairs) (f1 : Fit x.kind) (f2 : Fit x.field) (f3 : Fit x.value)
    (k : Sl RI 1 w w.heap.size A1 n1 c1 y.vals) (f4 : Fit y.id) (j : Sl RI 1 w w.heap.size A2 n2 c2 z.vals) (f5 : Fit z.id) :
    Calls Try.prog 15 #[.agg #[.int .i64 x.kind, .int .i64 x.field, .int .i64 x.value, .slice A n c, .slice E m d], .agg #[.int .i64 y.id, .slice A1 n1 c1], .agg #[.int .i64 z.id, .slice A2 n2 c2]] w fun e w' => e = .returned (.int .i64 (P.cmpIs x y z)) ∧ Below w.heap.size w w' := by
  have BW := (((Below.refl w.heap.size w).alloc (Nat.le_refl _) (.cells #[.int .i64 x.kind, .int .i64 x.field, .int .i64 x.value, .slice A n c, .slice E m d] 27)).alloc (by simp) (.cells #[.int .i64 y.id, .slice A1 n1 c1] 36)).alloc (by simp; omega) (.cells #[.int .i64 z.id, .slice A2 n2 c2] 36)
  have H := Lib.hid (h.on RI.keeps BW)
  have G := Lib.hid (g.on RP.keeps BW)
  have K := Lib.hid (k.on RI.keeps BW)
  have J := Lib.hid (j.on RI.keeps BW)
  have hsz := BW.size
  have ww0 : w.heap.size < (((w.alloc (.cells #[.int .i64 x.kind, .int .i64 x.field, .int .i64 x.value, .slice A n c, .slice E m d] 27)).alloc (.cells #[.int .i64 y.id, .slice A1 n1 c1] 36)).alloc (.cells #[.int .i64 z.id, .slice A2 n2 c2] 36)).heap.size := by simp; omega
  have ww1 : w.heap.size + 1 < (((w.alloc (.cells #[.int .i64 x.kind, .int .i64 x.field, .int .i64 x.value, .slice A n c, .slice E m d] 27)).alloc (.cells #[.int .i64 y.id, .slice A1 n1 c1] 36)).alloc (.cells #[.int .i64 z.id, .slice A2 n2 c2] 36)).heap.size := by simp
  have ww2 : w.heap.size + 1 + 1 < (((w.alloc (.cells #[.int .i64 x.kind, .int .i64 x.field, .int .i64 x.value, .slice A n c, .slice E m d] 27)).alloc (.cells #[.int .i64 y.id, .slice A1 n1 c1] 36)).alloc (.cells #[.int .i64 z.id, .slice A2 n2 c2] 36)).heap.size := by simp
  have HK0 := Lib.hid k
  have HJ0 := Lib.hid j
  clear h g k j
  cases hok : P.okW x with
  | false =>
    have HE : Hid (P.cmpIs x y z = 2) := by show _ = _; unfold P.cmpIs; rw [hok]; rfl
    go_enter Try.func15, Try.ntmps15
    go_wp2_with (go_at_call 9; refine (implIsWish _ H.out G.out).mono ?_; rintro e w2 ⟨rfl, b2⟩; rw [hok])
    go_ret
    exact ⟨ret_int HE.out.symm, BW.trans (b2.mono hsz)⟩
  | true =>
    cases h1 : P.okI y with
    | false =>
      have HE : Hid (P.cmpIs x y z = 2) := by show _ = _; unfold P.cmpIs; rw [hok, h1]; rfl
      go_enter Try.func15, Try.ntmps15
      go_wp2_with fail
      refine (implIsWish _ H.out G.out).mono ?_
      rintro e w2 ⟨rfl, b2⟩
      rw [hok]
      have hC2 := cell_of b2
      have z0 : w.heap.size < w2.heap.size := Nat.lt_of_lt_of_le (by simp; omega) b2.size
      have z1 : w.heap.size + 1 < w2.heap.size := Nat.lt_of_lt_of_le (by simp) b2.size
      have z2 : w.heap.size + 1 + 1 < w2.heap.size := Nat.lt_of_lt_of_le (by simp) b2.size
      have B2 := BW.trans (b2.mono hsz)
      have K2 := Lib.hid (K.out.on RI.keeps b2)
      go_wp2_with fail
      refine (implIsItem (id := y.id) (xs := y.vals) _ K2.out (Nat.le_refl _)).mono ?_
      rintro e w3 ⟨rfl, b3⟩
      rw [h1]
      go_wp2_with fail
      go_ret
      exact ⟨ret_int HE.out.symm, B2.trans (b3.mono B2.size)⟩
    | true =>
      cases h2 : P.okI z with
      | false =>
        have HE : Hid (P.cmpIs x y z = 2) := by show _ = _; unfold P.cmpIs; rw [hok, h1, h2]; rfl
        go_enter Try.func15, Try.ntmps15
        go_wp2_with fail
        refine (implIsWish _ H.out G.out).mono ?_
        rintro e w2 ⟨rfl, b2⟩
        rw [hok]
        have hC2 := cell_of b2
        have z0 : w.heap.size < w2.heap.size := Nat.lt_of_lt_of_le (by simp; omega) b2.size
        have z1 : w.heap.size + 1 < w2.heap.size := Nat.lt_of_lt_of_le (by simp) b2.size
        have z2 : w.heap.size + 1 + 1 < w2.heap.size := Nat.lt_of_lt_of_le (by simp) b2.size
        have B2 := BW.trans (b2.mono hsz)
        have K2 := Lib.hid (K.out.on RI.keeps b2)
        go_wp2_with fail
        refine (implIsItem (id := y.id) (xs := y.vals) _ K2.out (Nat.le_refl _)).mono ?_
        rintro e w3 ⟨rfl, b3⟩
        rw [h1]
        have hC3 := cell_of b3
        have y0 : w.heap.size < w3.heap.size := Nat.lt_of_lt_of_le z0 b3.size
        have y1 : w.heap.size + 1 < w3.heap.size := Nat.lt_of_lt_of_le z1 b3.size
        have y2 : w.heap.size + 1 + 1 < w3.heap.size := Nat.lt_of_lt_of_le z2 b3.size
        have B3 := B2.trans (b3.mono B2.size)
        have J3 := Lib.hid ((J.out.on RI.keeps b2).on RI.keeps b3)
        go_wp2_with fail
        refine (implIsItem (id := z.id) (xs := z.vals) _ J3.out (Nat.le_refl _)).mono ?_
        rintro e w4 ⟨rfl, b4⟩
        rw [h2]
        go_wp2_with fail
        go_ret
        exact ⟨ret_int HE.out.symm, B3.trans (b4.mono B3.size)⟩
      | true =>
        have HE : Hid (P.cmpIs x y z = P.cmpV x (y.vals.getD x.field.toNat 0) (z.vals.getD x.field.toNat 0)) := by show _ = _; unfold P.cmpIs; rw [hok, h1, h2]; rfl
        have HOK := Lib.hid hok
        obtain ⟨p0, p2⟩ := P.okW_field hok
        have hf2 : x.field.toNat ≤ 2 := by omega
        obtain ⟨L1, v1, hx1, hv1⟩ := okI_val h1 hf2
        obtain ⟨L2, v2, hx2, hv2⟩ := okI_val h2 hf2
        have n13 : n1 = 3 := by have := HK0.out.len; omega
        have n23 : n2 = 3 := by have := HJ0.out.len; omega
        obtain ⟨ba, oa, va, ea, hba, hxa, _, ca⟩ := HK0.out.int (k := x.field.toNat) (by omega)
        obtain ⟨bb, ob, vb, eb, hbb, hxb, _, cb⟩ := HJ0.out.int (k := x.field.toNat) (by omega)
        obtain rfl : va = v1 := by rw [hx1] at hxa; injection hxa with hxa; exact hxa.symm
        obtain rfl : vb = v2 := by rw [hx2] at hxb; injection hxb with hxb; exact hxb.symm
        have HE2 : Hid (P.cmpIs x y z = P.cmpV x va vb ∧ P.cmpVals x va vb = P.cmpV x va vb) := by
          refine Lib.hid ⟨?_, ?_⟩
          · rw [HE.out]
            have e1 : y.vals.getD x.field.toNat 0 = va := by simp [List.getD, hx1]
            have e2 : z.vals.getD x.field.toNat 0 = vb := by simp [List.getD, hx2]
            rw [e1, e2]
          · unfold P.cmpVals
            rw [hok, P.inR_mk hv1, P.inR_mk hv2]; rfl
        have fa : Fit va := by unfold Fit; omega
        have fb : Fit vb := by unfold Fit; omega
        have HN := Lib.hid (And.intro n13 n23)
        subst ea eb
        have l1 := HK0.out.le
        have l2 := HJ0.out.le
        have q1 : x.field < (n1 : Int) := by omega
        have q2 : x.field < (n2 : Int) := by omega
        have q3 : (0 : Int) ≤ x.field := by omega
        have q4 : (n1 : Int) ≤ (c1 : Int) := by omega
        have q5 : (n2 : Int) ≤ (c2 : Int) := by omega
        clear n13 n23 L1 L2 hx1 hx2 hxa hxb p0 p2 HK0 HJ0 hf2
        go_enter Try.func15, Try.ntmps15
        go_wp2_with fail
        refine (implIsWish _ H.out G.out).mono ?_
        rintro e w2 ⟨rfl, b2⟩
        rw [hok]
        have hC2 := cell_of b2
        have z0 : w.heap.size < w2.heap.size := Nat.lt_of_lt_of_le (by simp; omega) b2.size
        have z1 : w.heap.size + 1 < w2.heap.size := Nat.lt_of_lt_of_le (by simp) b2.size
        have z2 : w.heap.size + 1 + 1 < w2.heap.size := Nat.lt_of_lt_of_le (by simp) b2.size
        have B2 := BW.trans (b2.mono hsz)
        have K2 := Lib.hid (K.out.on RI.keeps b2)
        go_wp2_with fail
        refine (implIsItem (id := y.id) (xs := y.vals) _ K2.out (Nat.le_refl _)).mono ?_
        rintro e w3 ⟨rfl, b3⟩
        rw [h1]
        have hC3 := cell_of b3
        have y0 : w.heap.size < w3.heap.size := Nat.lt_of_lt_of_le z0 b3.size
        have y1 : w.heap.size + 1 < w3.heap.size := Nat.lt_of_lt_of_le z1 b3.size
        have y2 : w.heap.size + 1 + 1 < w3.heap.size := Nat.lt_of_lt_of_le z2 b3.size
        have B3 := B2.trans (b3.mono B2.size)
        have J3 := Lib.hid ((J.out.on RI.keeps b2).on RI.keeps b3)
        go_wp2_with fail
        refine (implIsItem (id := z.id) (xs := z.vals) _ J3.out (Nat.le_refl _)).mono ?_
        rintro e w4 ⟨rfl, b4⟩
        rw [h2]
        have hC4 := cell_of b4
        have x0 : w.heap.size < w4.heap.size := Nat.lt_of_lt_of_le y0 b4.size
        have x1 : w.heap.size + 1 < w4.heap.size := Nat.lt_of_lt_of_le y1 b4.size
        have x2 : w.heap.size + 1 + 1 < w4.heap.size := Nat.lt_of_lt_of_le y2 b4.size
        have B4 := B3.trans (b4.mono B3.size)
        have ua : ba < w4.heap.size := by have := B4.size; omega
        have ub : bb < w4.heap.size := by have := B4.size; omega
        have da : w4.cell? ⟨ba, oa + x.field.toNat, none⟩ = some (.int .i64 va) := (B4.cell (p := ⟨ba, oa + x.field.toNat, none⟩) hba).trans ca
        have db : w4.cell? ⟨bb, ob + x.field.toNat, none⟩ = some (.int .i64 vb) := (B4.cell (p := ⟨bb, ob + x.field.toNat, none⟩) hbb).trans cb
        have H3 := Lib.hid (((H.out.on RI.keeps b2).on RI.keeps b3).on RI.keeps b4)
        have G3 := Lib.hid (((G.out.on RP.keeps b2).on RP.keeps b3).on RP.keeps b4)
        have S0 := ((((((Row.new w 27 [.int .i64 x.kind, .int .i64 x.field, .int .i64 x.value, .slice A n c, .slice E m d]).alloc (.cells #[.int .i64 y.id, .slice (some ⟨ba, oa, none⟩) n1 c1] 36)).alloc (.cells #[.int .i64 z.id, .slice (some ⟨bb, ob, none⟩) n2 c2] 36)).below b2 ww0).below b3 z0).below b4 y0)
        have S1 := (Row.new (w.alloc (.cells #[.int .i64 x.kind, .int .i64 x.field, .int .i64 x.value, .slice A n c, .slice E m d] 27)) 36 [.int .i64 y.id, .slice (some ⟨ba, oa, none⟩) n1 c1]).alloc (.cells #[.int .i64 z.id, .slice (some ⟨bb, ob, none⟩) n2 c2] 36)
        have S2 := Row.new ((w.alloc (.cells #[.int .i64 x.kind, .int .i64 x.field, .int .i64 x.value, .slice A n c, .slice E m d] 27)).alloc (.cells #[.int .i64 y.id, .slice (some ⟨ba, oa, none⟩) n1 c1] 36)) 36 [.int .i64 z.id, .slice (some ⟨bb, ob, none⟩) n2 c2]
        rw [World.size_alloc] at S1
        rw [World.size_alloc, World.size_alloc] at S2
        have S1 := ((S1.below b2 ww1).below b3 z1).below b4 y1
        have S2 := ((S2.below b2 ww2).below b3 z2).below b4 y2
        have d0 := S0.cell 0
        have d1 := S0.cell 1
        have d2 := S0.cell 2
        have d3 := S0.cell 3
        have d4 := S0.cell 4
        have d5 := S1.cell 1
        have d6 := S2.cell 1
        simp at d0 d1 d2 d3 d4 d5 d6
        clear S0 S1 S2
        clear hC2 hC3 hC4 hok h1 h2 ca cb
        go_wp2_with fail
        refine wp_region_qb (by kernel_rfl) (by kernel_rfl) ?_; (repeat (go_big_quiet_step ((go_at_call 6; exact quietB (implCompareValues _ (H3.out.gr RI.keeps _ _) (G3.out.gr RP.keeps _ _) f1 f2 f3 fa fb))))); refine wpQuiet_nil ?_; intro w8 hb8
        go_wp2
        go_ret
        exact ⟨ret_int (HE2.out.2.trans HE2.out.1.symm), B4.trans (hb8.mono B4.size)⟩
end Go.Proofs.Ytpnbpjgnehcdbaa.Wk

namespace Go.Proofs.Ytpnbpjgnehcdbaa.P
open Go.Proofs.Ytpnbpjgnehcdbaa.M
set_option linter.unusedVariables false
set_option linter.unusedSimpArgs false

/-- A result turned round. -/
def turn (a : Int) : Int := if a = 2 then 2 else -a
theorem cmpV_rank {w : Wi} (h : w.kind ≠ 4) (a b : Int) : cmpV w a b = if rank w a < rank w b then 1 else if rank w b < rank w a then -1 else 0 := by
  unfold cmpV; rw [if_neg h]
theorem cmpV_ord {w : Wi} (h : w.kind = 4) (a b : Int) : cmpV w a b = if a = b then 0 else if abv w.pairs a b then 1 else if abv w.pairs b a then -1 else 2 := by
  unfold cmpV; rw [if_pos h]
theorem okW_irr {w : Wi} (h : okW w = true) (hk : w.kind = 4) {a b : Int} (hp : abv w.pairs a b = true) : abv w.pairs b a = false ∧ a ≠ b := by
  have hP := okW_pairs h hk
  refine ⟨?_, ?_⟩
  · cases e : abv w.pairs b a with
    | false => rfl
    | true =>
      have := abv_trans hp e
      rw [okP_irr hP a] at this; cases this
  · rintro rfl
    rw [okP_irr hP a] at hp; cases hp
theorem cmpV_turn {w : Wi} (h : okW w = true) (a b : Int) : cmpV w b a = turn (cmpV w a b) := by
  by_cases hk : w.kind = 4
  · rw [cmpV_ord hk, cmpV_ord hk]
    by_cases e : a = b
    · rw [if_pos e, if_pos e.symm]; rfl
    · rw [if_neg e, if_neg (fun e' => e e'.symm)]
      cases h1 : abv w.pairs a b with
      | true =>
        rw [(okW_irr h hk h1).1]; rfl
      | false =>
        cases h2 : abv w.pairs b a with
        | true => rfl
        | false => rfl
  · rw [cmpV_rank hk, cmpV_rank hk]
    unfold turn
    repeat' split
    all_goals omega
/-- What of two results tells the third. -/
def Tr (p q r : Int) : Prop := ((p = 0 ∨ p = 1) → (q = 0 ∨ q = 1) → r = max p q) ∧ ((p = 0 ∨ p = -1) → (q = 0 ∨ q = -1) → r = min p q)
theorem cmpV_tr {w : Wi} (h : okW w = true) (a b c : Int) : Tr (cmpV w a b) (cmpV w b c) (cmpV w a c) := by
  by_cases hk : w.kind = 4
  · rw [cmpV_ord hk, cmpV_ord hk, cmpV_ord hk]
    by_cases e1 : a = b
    · subst e1
      rw [if_pos rfl]
      generalize (if a = c then (0 : Int) else if abv w.pairs a c then 1 else if abv w.pairs c a then -1 else 2) = z
      exact ⟨fun _ h2 => by rcases h2 with h2 | h2 <;> omega, fun _ h2 => by rcases h2 with h2 | h2 <;> omega⟩
    · by_cases e2 : b = c
      · subst e2
        rw [if_pos (rfl : b = b)]
        generalize (if a = b then (0 : Int) else if abv w.pairs a b then 1 else if abv w.pairs b a then -1 else 2) = z
        exact ⟨fun h1 _ => by rcases h1 with h1 | h1 <;> omega, fun h1 _ => by rcases h1 with h1 | h1 <;> omega⟩
      · rw [if_neg e1, if_neg e2]
        cases h1 : abv w.pairs a b with
        | true =>
          cases h2 : abv w.pairs b c with
          | true =>
            have h3 := abv_trans h1 h2
            rw [if_neg (okW_irr h hk h3).2, h3]
            exact ⟨fun _ _ => rfl, fun h1 => by simp at h1⟩
          | false =>
            refine ⟨fun _ h2 => ?_, fun h1 => by simp at h1⟩
            cases h3 : abv w.pairs c b <;> simp [h3] at h2
        | false =>
          cases h2 : abv w.pairs b a with
          | true =>
            refine ⟨fun h1 => by simp at h1, fun _ h4 => ?_⟩
            cases h5 : abv w.pairs b c with
            | true => simp [h5] at h4
            | false =>
              cases h6 : abv w.pairs c b with
              | false => simp [h5, h6] at h4
              | true =>
                have h3 := abv_trans h6 h2
                obtain ⟨h7, h8⟩ := okW_irr h hk h3
                rw [if_neg (fun e => h8 e.symm), h7, h3]
                rfl
          | false => exact ⟨fun h1 => by simp at h1, fun h1 => by simp at h1⟩
  · rw [cmpV_rank hk, cmpV_rank hk, cmpV_rank hk]
    unfold Tr
    refine ⟨fun h1 h2 => ?_, fun h1 h2 => ?_⟩
    all_goals
      (repeat' split at h1)
      all_goals (repeat' split at h2)
      all_goals (repeat' split)
      all_goals omega
theorem cmpV_refl (w : Wi) (a : Int) : cmpV w a a = 0 := by
  unfold cmpV
  split
  · rw [if_pos rfl]
  · rw [if_neg (by omega), if_neg (by omega)]
theorem cmpVals_turn (w : Wi) (a b : Int) : cmpVals w b a = turn (cmpVals w a b) := by
  unfold cmpVals
  cases h : okW w with
  | false => rfl
  | true =>
    cases h1 : inR a 0 9 <;> cases h2 : inR b 0 9 <;> simp only [Bool.true_and, Bool.and_true, Bool.and_false, Bool.false_and, if_true, Bool.false_eq_true, if_false] <;> first | rfl | exact cmpV_turn h a b
theorem cmpIs_turn (w : Wi) (x y : It) : cmpIs w y x = turn (cmpIs w x y) := by
  unfold cmpIs
  cases h : okW w with
  | false => rfl
  | true =>
    cases h1 : okI x <;> cases h2 : okI y <;> simp only [Bool.true_and, Bool.and_true, Bool.and_false, Bool.false_and, if_true, Bool.false_eq_true, if_false] <;> first | rfl | exact cmpV_turn h _ _
theorem cmpVals_rank {w : Wi} (h : okW w = true) (hk : w.kind ≠ 4) {a b : Int} (ha : inR a 0 9 = true) (hb : inR b 0 9 = true) : (decide (rank w a < rank w b) = decide (cmpVals w a b = 1)) ∧ (decide (rank w a = rank w b) = decide (cmpVals w a b = 0)) := by
  unfold cmpVals
  rw [h, ha, hb]
  simp only [Bool.and_self, if_true]
  rw [cmpV_rank hk]
  refine ⟨?_, ?_⟩ <;> rw [decide_eq_decide]
  all_goals (repeat' split)
  all_goals omega
end Go.Proofs.Ytpnbpjgnehcdbaa.P

namespace Go.Proofs.Ytpnbpjgnehcdbaa.Wk
open Go.RowKit Go.Proofs.Ytpnbpjgnehcdbaa.M
set_option linter.unusedVariables false
set_option linter.unusedSimpArgs false
attribute [local go_sem] cell_grow

theorem cname_ne {c : Int} (h : c = -1 ∨ c = 0 ∨ c = 1 ∨ c = 2) : ¬ cname c = ⟨#[]⟩ := by
  rcases h with rfl | rfl | rfl | rfl <;> (intro e; unfold cname at e; simp at e)
theorem cmpVals_bd (x : Wi) (a b : Int) : P.cmpVals x a b = -1 ∨ P.cmpVals x a b = 0 ∨ P.cmpVals x a b = 1 ∨ P.cmpVals x a b = 2 := by
  unfold P.cmpVals P.cmpV
  repeat' split
  all_goals omega
theorem rovB_iff {x : Wi} {v : Int} (h : rovB x v = true) : P.okW x = true ∧ x.kind ≠ 4 ∧ P.inR v 0 9 = true := by
  unfold rovB at h
  simp at h
  exact ⟨h.1.1, h.1.2, h.2⟩
theorem rovN_yes {x : Wi} {v : Int} (h : rovB x v = true) : rovN x v = P.rank x v := by unfold rovN; rw [h]; rfl
/-- What the law asks of a wish and two values. -/
theorem wish_law (x : Wi) (a b : Int) : (P.cmpVals x a b = 2 ∧ P.cmpVals x b a = 2 ∧ (rovB x a && rovB x b) = false) ∨ ((P.cmpVals x a b ≠ 2 ∧ -1 ≤ P.cmpVals x a b ∧ P.cmpVals x a b ≤ 1) ∧ P.cmpVals x b a = - P.cmpVals x a b ∧ (rovB x a && rovB x b) = false)
    ∨ ((rovB x a = true ∧ rovB x b = true) ∧ P.cmpVals x a b = 1 ∧ P.cmpVals x b a = -1 ∧ rovN x a < rovN x b) ∨ ((rovB x a = true ∧ rovB x b = true) ∧ P.cmpVals x a b = 0 ∧ P.cmpVals x b a = 0 ∧ rovN x a = rovN x b) ∨ ((rovB x a = true ∧ rovB x b = true) ∧ P.cmpVals x a b = -1 ∧ P.cmpVals x b a = 1 ∧ rovN x b < rovN x a) := by
  have ht := P.cmpVals_turn x a b
  have hb := cmpVals_bd x a b
  unfold P.turn at ht
  cases h : (rovB x a && rovB x b) with
  | false =>
    by_cases h2 : P.cmpVals x a b = 2
    · rw [if_pos h2] at ht
      exact .inl ⟨h2, ht, rfl⟩
    · rw [if_neg h2] at ht
      exact .inr (.inl ⟨⟨h2, by omega, by omega⟩, ht, rfl⟩)
  | true =>
    rw [Bool.and_eq_true] at h
    obtain ⟨k1, k2, k3⟩ := rovB_iff h.1
    obtain ⟨_, _, k4⟩ := rovB_iff h.2
    have hr := P.cmpVals_rank k1 k2 k3 k4
    have hc : P.cmpVals x a b = P.cmpV x a b := by unfold P.cmpVals; rw [k1, k3, k4]; rfl
    have hv := P.cmpV_rank k2 a b
    rw [← hc] at hv
    rw [rovN_yes h.1, rovN_yes h.2]
    by_cases l1 : P.rank x a < P.rank x b
    · rw [if_pos l1] at hv
      rw [if_neg (by omega)] at ht
      exact .inr (.inr (.inl ⟨h, hv, by omega, l1⟩))
    · rw [if_neg l1] at hv
      by_cases l2 : P.rank x b < P.rank x a
      · rw [if_pos l2] at hv
        rw [if_neg (by omega)] at ht
        exact .inr (.inr (.inr (.inr ⟨h, hv, by omega, l2⟩)))
      · rw [if_neg l2] at hv
        rw [if_neg (by omega)] at ht
        exact .inr (.inr (.inr (.inl ⟨h, hv, by omega, by omega⟩)))
set_option maxHeartbeats 12000000 in
set_option maxRecDepth 100000 in
theorem FnWishes (w : World) (v0 : Value) (l0 : List UInt8) (e0 : V RB 1 w w.heap.size v0 l0) : Calls Try.prog 3 #[v0] w fun e w' => e = .returned (.bool true) ∧ Below w.heap.size w w' := by
  obtain ⟨A0, n0, c0', rfl, hS⟩ := e0
  have HS := Lib.hid hS
  by_cases hbig : 1048576 < n0
  · have q : decide (1048576 < n0) = true := by simpa using hbig
    go_enter Try.func3, Try.ntmps3
    go_wp2_with fail
    refine (lawBig _ HS.out).mono ?_
    rintro e w1 ⟨rfl, rfl⟩
    rw [q]
    go_wp2
    go_ret
    exact ⟨rfl, Below.refl _ _⟩
  have q : decide (1048576 < n0) = false := by simpa using hbig
  have hn0 : n0 ≤ 1048576 := by omega
  clear hS hbig
  go_enter Try.func3, Try.ntmps3
  go_wp2_with fail
  refine (lawBig _ HS.out).mono ?_
  rintro e w1 ⟨rfl, rfl⟩
  rw [q]
  clear q
  go_wp2_with fail
  refine (drawCV _ HS.out hn0).mono ?_
  rintro e w2 ⟨x, A, c, E, d, a, b, rfl, hs, ht, HFX, fa, fb, b2⟩
  obtain ⟨f1, f2, f3, f4, f5⟩ := HFX.out
  have bx := (Below.refl w2.heap.size w2).alloc (Nat.le_refl _) (.cells #[.int .i64 x.kind, .int .i64 x.field, .int .i64 x.value, .slice A x.list.length c, .slice E x.pairs.length d] 27)
  have G2 := Row.new w2 27 [.int .i64 x.kind, .int .i64 x.field, .int .i64 x.value, .slice A x.list.length c, .slice E x.pairs.length d]
  have HS2 := Lib.hid (hs.on RI.keeps bx)
  have HT2 := Lib.hid (ht.on RP.keeps bx)
  have B2 := b2.trans (bx.mono b2.size)
  have WL := Lib.hid (wish_law x a b)
  have WB := Lib.hid (cmpVals_bd x a b)
  obtain ⟨k1, hk1⟩ : ∃ k1, Hid (P.cmpVals x a b = k1) := ⟨_, rfl⟩
  obtain ⟨k2, hk2⟩ : ∃ k2, Hid (P.cmpVals x b a = k2) := ⟨_, rfl⟩
  obtain ⟨o1, ho1⟩ : ∃ o1, Hid (rovB x a = o1) := ⟨_, rfl⟩
  obtain ⟨o2, ho2⟩ : ∃ o2, Hid (rovB x b = o2) := ⟨_, rfl⟩
  obtain ⟨r1, hr1⟩ : ∃ r1, Hid (rovN x a = r1) := ⟨_, rfl⟩
  obtain ⟨r2, hr2⟩ : ∃ r2, Hid (rovN x b = r2) := ⟨_, rfl⟩
  obtain ⟨tb, htb⟩ : ∃ tb, Hid (P.okW x = tb) := ⟨_, rfl⟩
  rw [hk1.out, hk2.out, ho1.out, ho2.out, hr1.out, hr2.out] at WL
  rw [hk1.out] at WB
  have CI1 : Hid (∀ w : World, Sl RI 1 w w.heap.size A x.list.length c x.list → Sl RP 2 w w.heap.size E x.pairs.length d x.pairs → Calls Try.prog 6 #[.agg #[.int .i64 x.kind, .int .i64 x.field, .int .i64 x.value, .slice A x.list.length c, .slice E x.pairs.length d], .int .i64 a, .int .i64 b] w fun e w' => e = .returned (.int .i64 k1) ∧ Below w.heap.size w w') := fun w h g => by rw [← hk1.out]; exact implCompareValues w h g f1 f2 f3 fa fb
  have CI2 : Hid (∀ w : World, Sl RI 1 w w.heap.size A x.list.length c x.list → Sl RP 2 w w.heap.size E x.pairs.length d x.pairs → Calls Try.prog 6 #[.agg #[.int .i64 x.kind, .int .i64 x.field, .int .i64 x.value, .slice A x.list.length c, .slice E x.pairs.length d], .int .i64 b, .int .i64 a] w fun e w' => e = .returned (.int .i64 k2) ∧ Below w.heap.size w w') := fun w h g => by rw [← hk2.out]; exact implCompareValues w h g f1 f2 f3 fb fa
  have CR1 : Hid (∀ w : World, Sl RI 1 w w.heap.size A x.list.length c x.list → Sl RP 2 w w.heap.size E x.pairs.length d x.pairs → Calls Try.prog 7 #[.agg #[.int .i64 x.kind, .int .i64 x.field, .int .i64 x.value, .slice A x.list.length c, .slice E x.pairs.length d], .int .i64 a] w fun e w' => e = .returned (.tuple #[.int .i64 r1, .bool o1]) ∧ Below w.heap.size w w') := fun w h g => by rw [← hr1.out, ← ho1.out]; exact implRankOfValue w h g f1 f2 f3 fa
  have CR2 : Hid (∀ w : World, Sl RI 1 w w.heap.size A x.list.length c x.list → Sl RP 2 w w.heap.size E x.pairs.length d x.pairs → Calls Try.prog 7 #[.agg #[.int .i64 x.kind, .int .i64 x.field, .int .i64 x.value, .slice A x.list.length c, .slice E x.pairs.length d], .int .i64 b] w fun e w' => e = .returned (.tuple #[.int .i64 r2, .bool o2]) ∧ Below w.heap.size w w') := fun w h g => by rw [← hr2.out, ← ho2.out]; exact implRankOfValue w h g f1 f2 f3 fb
  have CS1 : Hid (∀ w : World, Sl RI 1 w w.heap.size A x.list.length c x.list → Sl RP 2 w w.heap.size E x.pairs.length d x.pairs → Calls Try.prog 8 #[.agg #[.int .i64 x.kind, .int .i64 x.field, .int .i64 x.value, .slice A x.list.length c, .slice E x.pairs.length d], .int .i64 a, .int .i64 b] w fun e w' => e = .returned (.int .i64 k1) ∧ Below w.heap.size w w') := fun w h g => by rw [← hk1.out]; exact specCompareValues w h g f1 f2 f3 fa fb
  have CW1 : Hid (∀ w : World, Sl RI 1 w w.heap.size A x.list.length c x.list → Sl RP 2 w w.heap.size E x.pairs.length d x.pairs → Calls Try.prog 9 #[.agg #[.int .i64 x.kind, .int .i64 x.field, .int .i64 x.value, .slice A x.list.length c, .slice E x.pairs.length d]] w fun e w' => e = .returned (.bool tb) ∧ Below w.heap.size w w') := fun w h g => by rw [← htb.out]; exact implIsWish w h g
  have CW2 : Hid (∀ w : World, Sl RI 1 w w.heap.size A x.list.length c x.list → Sl RP 2 w w.heap.size E x.pairs.length d x.pairs → Calls Try.prog 10 #[.agg #[.int .i64 x.kind, .int .i64 x.field, .int .i64 x.value, .slice A x.list.length c, .slice E x.pairs.length d]] w fun e w' => e = .returned (.bool tb) ∧ Below w.heap.size w w') := fun w h g => by rw [← htb.out]; exact specIsWish w h g
  clear hs ht bx b2
  go_wp2_with fail
  refine (CI1.out _ HS2.out HT2.out).mono ?_
  rintro e w3 ⟨rfl, b3⟩
  have HS3 := Lib.hid (HS2.out.on RI.keeps b3)
  have HT3 := Lib.hid (HT2.out.on RP.keeps b3)
  have G3 := G2.below b3 G2.lt
  have B3 := B2.trans (b3.mono B2.size)
  have y30 : (w3).cell? ⟨w2.heap.size, 0, none⟩ = some (.int .i64 x.kind) := G3.cell 0
  have y31 : (w3).cell? ⟨w2.heap.size, 1, none⟩ = some (.int .i64 x.field) := G3.cell 1
  have y32 : (w3).cell? ⟨w2.heap.size, 2, none⟩ = some (.int .i64 x.value) := G3.cell 2
  have y33 : (w3).cell? ⟨w2.heap.size, 3, none⟩ = some (.slice A x.list.length c) := G3.cell 3
  have y34 : (w3).cell? ⟨w2.heap.size, 4, none⟩ = some (.slice E x.pairs.length d) := G3.cell 4
  have lG3 := G3.lt
  clear b3 HS2 HT2 G2 B2 
  go_wp2_with fail
  refine (CI2.out _ HS3.out HT3.out).mono ?_
  rintro e w4 ⟨rfl, b4⟩
  have HS4 := Lib.hid (HS3.out.on RI.keeps b4)
  have HT4 := Lib.hid (HT3.out.on RP.keeps b4)
  have G4 := G3.below b4 G3.lt
  have B4 := B3.trans (b4.mono B3.size)
  have y40 : (w4).cell? ⟨w2.heap.size, 0, none⟩ = some (.int .i64 x.kind) := G4.cell 0
  have y41 : (w4).cell? ⟨w2.heap.size, 1, none⟩ = some (.int .i64 x.field) := G4.cell 1
  have y42 : (w4).cell? ⟨w2.heap.size, 2, none⟩ = some (.int .i64 x.value) := G4.cell 2
  have y43 : (w4).cell? ⟨w2.heap.size, 3, none⟩ = some (.slice A x.list.length c) := G4.cell 3
  have y44 : (w4).cell? ⟨w2.heap.size, 4, none⟩ = some (.slice E x.pairs.length d) := G4.cell 4
  have lG4 := G4.lt
  clear b4 HS3 HT3 G3 B3 y30 y31 y32 y33 y34
  go_wp2_with fail
  refine (CR1.out _ HS4.out HT4.out).mono ?_
  rintro e w5 ⟨rfl, b5⟩
  have HS5 := Lib.hid (HS4.out.on RI.keeps b5)
  have HT5 := Lib.hid (HT4.out.on RP.keeps b5)
  have G5 := G4.below b5 G4.lt
  have B5 := B4.trans (b5.mono B4.size)
  have y50 : (w5).cell? ⟨w2.heap.size, 0, none⟩ = some (.int .i64 x.kind) := G5.cell 0
  have y51 : (w5).cell? ⟨w2.heap.size, 1, none⟩ = some (.int .i64 x.field) := G5.cell 1
  have y52 : (w5).cell? ⟨w2.heap.size, 2, none⟩ = some (.int .i64 x.value) := G5.cell 2
  have y53 : (w5).cell? ⟨w2.heap.size, 3, none⟩ = some (.slice A x.list.length c) := G5.cell 3
  have y54 : (w5).cell? ⟨w2.heap.size, 4, none⟩ = some (.slice E x.pairs.length d) := G5.cell 4
  have lG5 := G5.lt
  clear b5 HS4 HT4 G4 B4 y40 y41 y42 y43 y44
  go_wp2_with fail
  refine (CR2.out _ HS5.out HT5.out).mono ?_
  rintro e w6 ⟨rfl, b6⟩
  have HS6 := Lib.hid (HS5.out.on RI.keeps b6)
  have HT6 := Lib.hid (HT5.out.on RP.keeps b6)
  have G6 := G5.below b6 G5.lt
  have B6 := B5.trans (b6.mono B5.size)
  have y60 : (w6).cell? ⟨w2.heap.size, 0, none⟩ = some (.int .i64 x.kind) := G6.cell 0
  have y61 : (w6).cell? ⟨w2.heap.size, 1, none⟩ = some (.int .i64 x.field) := G6.cell 1
  have y62 : (w6).cell? ⟨w2.heap.size, 2, none⟩ = some (.int .i64 x.value) := G6.cell 2
  have y63 : (w6).cell? ⟨w2.heap.size, 3, none⟩ = some (.slice A x.list.length c) := G6.cell 3
  have y64 : (w6).cell? ⟨w2.heap.size, 4, none⟩ = some (.slice E x.pairs.length d) := G6.cell 4
  have lG6 := G6.lt
  clear b6 HS5 HT5 G5 B5 y50 y51 y52 y53 y54
  have qk : (k1 != k1) = false := by simp
  have qb : (tb != tb) = false := by simp
  have CN : Hid (∀ w : World, Calls Try.prog 11 #[.int .i64 k1] w fun e w' => e = .returned (.string (cname k1)) ∧ Below w.heap.size w w') := fun w => implCodeName k1 w
  obtain ⟨sn, hsn⟩ : ∃ sn, cname k1 = sn := ⟨_, rfl⟩
  have hne : ¬ sn = ⟨#[]⟩ := by rw [← hsn]; exact cname_ne WB.out
  rw [hsn] at CN
  have z1 := emp_no hne
  have z2 := emp_no2 hne
  clear hsn hne WB
  go_wp2_with fail
  refine wp_region_qb (by kernel_rfl) (by kernel_rfl) ?_; (repeat (go_big_quiet_step ((first | (go_at_call 8; with_reducible exact quietB (CS1.out _ (HS6.out.gr RI.keeps _ _) (HT6.out.gr RP.keeps _ _))) | (go_at_call 9; with_reducible exact quietB (CW1.out _ (HS6.out.gr RI.keeps _ _) (HT6.out.gr RP.keeps _ _))) | (go_at_call 10; with_reducible exact quietB (CW2.out _ (HS6.out.gr RI.keeps _ _) (HT6.out.gr RP.keeps _ _))) | (go_at_call 11; with_reducible exact quietB (CN.out _)))))); refine wpQuiet_nil ?_; intro w8 hb8
  have B8 := Lib.hid (B6.trans (hb8.mono B6.size))
  clear hb8 HS6 HT6 G6 B6 y60 y61 y62 y63 y64 CI1 CI2 CR1 CR2 CS1 CW1 CW2 CN hk1 hk2 ho1 ho2 hr1 hr2 htb z1 z2 qk qb HFX f1 f2 f3 f4 f5
  have KEY : (o1 = false ∨ (o1 = true ∧ o2 = false)) ∨ (o1 = true ∧ o2 = true) := by cases o1 <;> cases o2 <;> simp
  rcases WL.out with ⟨rfl, rfl, hoo⟩ | ⟨⟨hk, hk1, hk2⟩, rfl, hoo⟩ | ⟨⟨rfl, rfl⟩, rfl, rfl, hlt⟩ | ⟨⟨rfl, rfl⟩, rfl, rfl, rfl⟩ | ⟨⟨rfl, rfl⟩, rfl, rfl, hlt⟩
  · rcases KEY with (rfl | ⟨rfl, rfl⟩) | ⟨rfl, rfl⟩
    · clear hoo WL
      go_wp2_with fail
      refine (drawCI _ (HS.out.on RB.keeps B8.out) hn0).mono ?_
      rintro e w9 ⟨x, A, c, E, d, y, A1, c1, z, A2, c2, rfl, hs, ht, HFX, ⟨hy, fy⟩, ⟨hz, fz⟩, b9⟩
      obtain ⟨f1, f2, f3, f4, f5⟩ := HFX.out
      have S0 := ((Row.new w9 27 [.int .i64 x.kind, .int .i64 x.field, .int .i64 x.value, .slice A x.list.length c, .slice E x.pairs.length d]).alloc (.cells #[.int .i64 y.id, .slice A1 y.vals.length c1] 36)).alloc (.cells #[.int .i64 z.id, .slice A2 z.vals.length c2] 36)
      have S1 := (Row.new (w9.alloc (.cells #[.int .i64 x.kind, .int .i64 x.field, .int .i64 x.value, .slice A x.list.length c, .slice E x.pairs.length d] 27)) 36 [.int .i64 y.id, .slice A1 y.vals.length c1]).alloc (.cells #[.int .i64 z.id, .slice A2 z.vals.length c2] 36)
      have S2 := Row.new ((w9.alloc (.cells #[.int .i64 x.kind, .int .i64 x.field, .int .i64 x.value, .slice A x.list.length c, .slice E x.pairs.length d] 27)).alloc (.cells #[.int .i64 y.id, .slice A1 y.vals.length c1] 36)) 36 [.int .i64 z.id, .slice A2 z.vals.length c2]
      have e1 : (w9.alloc (.cells #[.int .i64 x.kind, .int .i64 x.field, .int .i64 x.value, .slice A x.list.length c, .slice E x.pairs.length d] 27)).heap.size = w9.heap.size + 1 := by simp
      have e2 : ((w9.alloc (.cells #[.int .i64 x.kind, .int .i64 x.field, .int .i64 x.value, .slice A x.list.length c, .slice E x.pairs.length d] 27)).alloc (.cells #[.int .i64 y.id, .slice A1 y.vals.length c1] 36)).heap.size = w9.heap.size + 1 + 1 := by simp
      rw [e1] at S1
      rw [e2] at S2
      clear e1 e2
      have bt := ((((Below.refl w9.heap.size w9).alloc (Nat.le_refl _) (.cells #[.int .i64 x.kind, .int .i64 x.field, .int .i64 x.value, .slice A x.list.length c, .slice E x.pairs.length d] 27)).alloc (by simp) (.cells #[.int .i64 y.id, .slice A1 y.vals.length c1] 36)).alloc (by simp; try omega) (.cells #[.int .i64 z.id, .slice A2 z.vals.length c2] 36))
      have HX9 := Lib.hid (hs.on RI.keeps bt)
      have HP9 := Lib.hid (ht.on RP.keeps bt)
      have HY9 := Lib.hid (hy.on RI.keeps bt)
      have HZ9 := Lib.hid (hz.on RI.keeps bt)
      have B9 := B8.out.trans ((b9.trans (bt.mono b9.size)).mono B8.out.size)
      obtain ⟨w10, hw10⟩ : ∃ w10, ((w9.alloc (.cells #[.int .i64 x.kind, .int .i64 x.field, .int .i64 x.value, .slice A x.list.length c, .slice E x.pairs.length d] 27)).alloc (.cells #[.int .i64 y.id, .slice A1 y.vals.length c1] 36)).alloc (.cells #[.int .i64 z.id, .slice A2 z.vals.length c2] 36) = w10 := ⟨_, rfl⟩
      rw [hw10] at S0 S1 S2 HX9 HP9 HY9 HZ9 B9
      have HW10 := Lib.hid hw10
      clear hw10 hs ht hy hz b9 bt
      go_wp2_with fail
      rw [HW10.out]
      refine (drawRV _ (HS.out.on RB.keeps B9) hn0).mono ?_
      rintro e w11 ⟨u, A3, c3, E3, d3, n, rfl, hu, hv, HFU, fn, b11⟩
      have S0 := S0.below b11 S0.lt
      have S1 := S1.below b11 S1.lt
      have S2 := S2.below b11 S2.lt
      have HX := HX9.out.on RI.keeps b11
      have HP := HP9.out.on RP.keeps b11
      have HY := HY9.out.on RI.keeps b11
      have HZ := HZ9.out.on RI.keeps b11
      have B11 := B9.trans (b11.mono B9.size)
      clear HX9 HP9 HY9 HZ9 B9 b11
      have bu := (Below.refl w11.heap.size w11).alloc (Nat.le_refl _) (.cells #[.int .i64 u.kind, .int .i64 u.field, .int .i64 u.value, .slice A3 u.list.length c3, .slice E3 u.pairs.length d3] 27)
      have G := Row.new w11 27 [.int .i64 u.kind, .int .i64 u.field, .int .i64 u.value, .slice A3 u.list.length c3, .slice E3 u.pairs.length d3]
      have S0 := S0.below bu S0.lt
      have S1 := S1.below bu S1.lt
      have S2 := S2.below bu S2.lt
      have HX := HX.on RI.keeps bu
      have HP := HP.on RP.keeps bu
      have HY := HY.on RI.keeps bu
      have HZ := HZ.on RI.keeps bu
      have HU := Lib.hid (hu.on RI.keeps bu)
      have HV := Lib.hid (hv.on RP.keeps bu)
      have B11 := B11.trans (bu.mono B11.size)
      obtain ⟨g1, g2, g3, g4, g5⟩ := HFU.out
      obtain ⟨ro, hro⟩ : ∃ ro, Hid (rovB u n = ro) := ⟨_, rfl⟩
      obtain ⟨rn, hrn⟩ : ∃ rn, Hid (rovN u n = rn) := ⟨_, rfl⟩
      obtain ⟨ci, hci⟩ : ∃ ci, Hid (P.cmpIs x y z = ci) := ⟨_, rfl⟩
      clear hu hv bu
      have R0 := Lib.hid S0
      have R1 := Lib.hid S1
      have R2 := Lib.hid S2
      clear S0 S1 S2
      go_wp2_with fail
      refine (implRankOfValue _ HU.out HV.out g1 g2 g3 fn).mono ?_
      rintro e w12 ⟨rfl, b12⟩
      rw [hro.out, hrn.out]
      have G12 := G.below b12 G.lt
      have m0 : (w12).cell? ⟨w11.heap.size, 0, none⟩ = some (.int .i64 u.kind) := G12.cell 0
      have m1 : (w12).cell? ⟨w11.heap.size, 1, none⟩ = some (.int .i64 u.field) := G12.cell 1
      have m2 : (w12).cell? ⟨w11.heap.size, 2, none⟩ = some (.int .i64 u.value) := G12.cell 2
      have m3 : (w12).cell? ⟨w11.heap.size, 3, none⟩ = some (.slice A3 u.list.length c3) := G12.cell 3
      have m4 : (w12).cell? ⟨w11.heap.size, 4, none⟩ = some (.slice E3 u.pairs.length d3) := G12.cell 4
      have lG := G12.lt
      have HU12 := Lib.hid (HU.out.on RI.keeps b12)
      have HV12 := Lib.hid (HV.out.on RP.keeps b12)
      clear HU HV G
      go_wp2_with fail
      refine (specRankOfValue _ HU12.out HV12.out g1 g2 g3 fn).mono ?_
      rintro e w13 ⟨rfl, b13⟩
      rw [hro.out, hrn.out]
      clear G12 m0 m1 m2 m3 m4 lG HU12 HV12 hro hrn
      have bb := b12.trans (b13.mono b12.size)
      have S0 := R0.out.below bb R0.out.lt
      have S1 := R1.out.below bb R1.out.lt
      have S2 := R2.out.below bb R2.out.lt
      have g0 : (w13).cell? ⟨w9.heap.size, 0, none⟩ = some (.int .i64 x.kind) := S0.cell 0
      have g1 : (w13).cell? ⟨w9.heap.size, 1, none⟩ = some (.int .i64 x.field) := S0.cell 1
      have g2 : (w13).cell? ⟨w9.heap.size, 2, none⟩ = some (.int .i64 x.value) := S0.cell 2
      have g3 : (w13).cell? ⟨w9.heap.size, 3, none⟩ = some (.slice A x.list.length c) := S0.cell 3
      have g4 : (w13).cell? ⟨w9.heap.size, 4, none⟩ = some (.slice E x.pairs.length d) := S0.cell 4
      have h0 : (w13).cell? ⟨w9.heap.size + 1, 0, none⟩ = some (.int .i64 y.id) := S1.cell 0
      have h1 : (w13).cell? ⟨w9.heap.size + 1, 1, none⟩ = some (.slice A1 y.vals.length c1) := S1.cell 1
      have i0 : (w13).cell? ⟨w9.heap.size + 1 + 1, 0, none⟩ = some (.int .i64 z.id) := S2.cell 0
      have i1 : (w13).cell? ⟨w9.heap.size + 1 + 1, 1, none⟩ = some (.slice A2 z.vals.length c2) := S2.cell 1
      have l0 := S0.lt
      have l1 := S1.lt
      have l2 := S2.lt
      have HX13 := Lib.hid (HX.on RI.keeps bb)
      have HP13 := Lib.hid (HP.on RP.keeps bb)
      have HY13 := Lib.hid (HY.on RI.keeps bb)
      have HZ13 := Lib.hid (HZ.on RI.keeps bb)
      have B13 := Lib.hid (B11.trans (bb.mono B11.size))
      have CA : Hid (∀ w : World, Sl RI 1 w w.heap.size A x.list.length c x.list → Sl RP 2 w w.heap.size E x.pairs.length d x.pairs → Sl RI 1 w w.heap.size A1 y.vals.length c1 y.vals → Sl RI 1 w w.heap.size A2 z.vals.length c2 z.vals → Calls Try.prog 15 #[.agg #[.int .i64 x.kind, .int .i64 x.field, .int .i64 x.value, .slice A x.list.length c, .slice E x.pairs.length d], .agg #[.int .i64 y.id, .slice A1 y.vals.length c1], .agg #[.int .i64 z.id, .slice A2 z.vals.length c2]] w fun e w' => e = .returned (.int .i64 ci) ∧ Below w.heap.size w w') := fun w h g h1 h2 => by rw [← hci.out]; exact implCompareItems w h g f1 f2 f3 h1 fy h2 fz
      have CB : Hid (∀ w : World, Sl RI 1 w w.heap.size A x.list.length c x.list → Sl RP 2 w w.heap.size E x.pairs.length d x.pairs → Sl RI 1 w w.heap.size A1 y.vals.length c1 y.vals → Sl RI 1 w w.heap.size A2 z.vals.length c2 z.vals → Calls Try.prog 16 #[.agg #[.int .i64 x.kind, .int .i64 x.field, .int .i64 x.value, .slice A x.list.length c, .slice E x.pairs.length d], .agg #[.int .i64 y.id, .slice A1 y.vals.length c1], .agg #[.int .i64 z.id, .slice A2 z.vals.length c2]] w fun e w' => e = .returned (.int .i64 ci) ∧ Below w.heap.size w w') := fun w h g h1 h2 => by rw [← hci.out]; exact specCompareItems w h g f1 f2 f3 h1 fy h2 fz
      have v1 : (ci == ci) = true := by simp
      have v2 : (rn == rn) = true := by simp
      have v3 : (ro == ro) = true := by simp
      clear bb b12 b13 B11 HX HP HY HZ S0 S1 S2 R0 R1 R2
      go_wp2_with fail
      refine wp_region_qb (by kernel_rfl) (by kernel_rfl) ?_; (repeat (go_big_quiet_step ((first | (go_at_call 15; with_reducible exact quietB (CA.out _ (HX13.out.gr RI.keeps _ _) (HP13.out.gr RP.keeps _ _) (HY13.out.gr RI.keeps _ _) (HZ13.out.gr RI.keeps _ _))) | (go_at_call 16; with_reducible exact quietB (CB.out _ (HX13.out.gr RI.keeps _ _) (HP13.out.gr RP.keeps _ _) (HY13.out.gr RI.keeps _ _) (HZ13.out.gr RI.keeps _ _))))))); refine wpQuiet_nil ?_; intro w14 hb14
      go_wp2
      go_ret
      exact ⟨rfl, B13.out.trans (hb14.mono B13.out.size)⟩
    · clear hoo WL
      go_wp2_with fail
      refine (drawCI _ (HS.out.on RB.keeps B8.out) hn0).mono ?_
      rintro e w9 ⟨x, A, c, E, d, y, A1, c1, z, A2, c2, rfl, hs, ht, HFX, ⟨hy, fy⟩, ⟨hz, fz⟩, b9⟩
      obtain ⟨f1, f2, f3, f4, f5⟩ := HFX.out
      have S0 := ((Row.new w9 27 [.int .i64 x.kind, .int .i64 x.field, .int .i64 x.value, .slice A x.list.length c, .slice E x.pairs.length d]).alloc (.cells #[.int .i64 y.id, .slice A1 y.vals.length c1] 36)).alloc (.cells #[.int .i64 z.id, .slice A2 z.vals.length c2] 36)
      have S1 := (Row.new (w9.alloc (.cells #[.int .i64 x.kind, .int .i64 x.field, .int .i64 x.value, .slice A x.list.length c, .slice E x.pairs.length d] 27)) 36 [.int .i64 y.id, .slice A1 y.vals.length c1]).alloc (.cells #[.int .i64 z.id, .slice A2 z.vals.length c2] 36)
      have S2 := Row.new ((w9.alloc (.cells #[.int .i64 x.kind, .int .i64 x.field, .int .i64 x.value, .slice A x.list.length c, .slice E x.pairs.length d] 27)).alloc (.cells #[.int .i64 y.id, .slice A1 y.vals.length c1] 36)) 36 [.int .i64 z.id, .slice A2 z.vals.length c2]
      have e1 : (w9.alloc (.cells #[.int .i64 x.kind, .int .i64 x.field, .int .i64 x.value, .slice A x.list.length c, .slice E x.pairs.length d] 27)).heap.size = w9.heap.size + 1 := by simp
      have e2 : ((w9.alloc (.cells #[.int .i64 x.kind, .int .i64 x.field, .int .i64 x.value, .slice A x.list.length c, .slice E x.pairs.length d] 27)).alloc (.cells #[.int .i64 y.id, .slice A1 y.vals.length c1] 36)).heap.size = w9.heap.size + 1 + 1 := by simp
      rw [e1] at S1
      rw [e2] at S2
      clear e1 e2
      have bt := ((((Below.refl w9.heap.size w9).alloc (Nat.le_refl _) (.cells #[.int .i64 x.kind, .int .i64 x.field, .int .i64 x.value, .slice A x.list.length c, .slice E x.pairs.length d] 27)).alloc (by simp) (.cells #[.int .i64 y.id, .slice A1 y.vals.length c1] 36)).alloc (by simp; try omega) (.cells #[.int .i64 z.id, .slice A2 z.vals.length c2] 36))
      have HX9 := Lib.hid (hs.on RI.keeps bt)
      have HP9 := Lib.hid (ht.on RP.keeps bt)
      have HY9 := Lib.hid (hy.on RI.keeps bt)
      have HZ9 := Lib.hid (hz.on RI.keeps bt)
      have B9 := B8.out.trans ((b9.trans (bt.mono b9.size)).mono B8.out.size)
      obtain ⟨w10, hw10⟩ : ∃ w10, ((w9.alloc (.cells #[.int .i64 x.kind, .int .i64 x.field, .int .i64 x.value, .slice A x.list.length c, .slice E x.pairs.length d] 27)).alloc (.cells #[.int .i64 y.id, .slice A1 y.vals.length c1] 36)).alloc (.cells #[.int .i64 z.id, .slice A2 z.vals.length c2] 36) = w10 := ⟨_, rfl⟩
      rw [hw10] at S0 S1 S2 HX9 HP9 HY9 HZ9 B9
      have HW10 := Lib.hid hw10
      clear hw10 hs ht hy hz b9 bt
      go_wp2_with fail
      rw [HW10.out]
      refine (drawRV _ (HS.out.on RB.keeps B9) hn0).mono ?_
      rintro e w11 ⟨u, A3, c3, E3, d3, n, rfl, hu, hv, HFU, fn, b11⟩
      have S0 := S0.below b11 S0.lt
      have S1 := S1.below b11 S1.lt
      have S2 := S2.below b11 S2.lt
      have HX := HX9.out.on RI.keeps b11
      have HP := HP9.out.on RP.keeps b11
      have HY := HY9.out.on RI.keeps b11
      have HZ := HZ9.out.on RI.keeps b11
      have B11 := B9.trans (b11.mono B9.size)
      clear HX9 HP9 HY9 HZ9 B9 b11
      have bu := (Below.refl w11.heap.size w11).alloc (Nat.le_refl _) (.cells #[.int .i64 u.kind, .int .i64 u.field, .int .i64 u.value, .slice A3 u.list.length c3, .slice E3 u.pairs.length d3] 27)
      have G := Row.new w11 27 [.int .i64 u.kind, .int .i64 u.field, .int .i64 u.value, .slice A3 u.list.length c3, .slice E3 u.pairs.length d3]
      have S0 := S0.below bu S0.lt
      have S1 := S1.below bu S1.lt
      have S2 := S2.below bu S2.lt
      have HX := HX.on RI.keeps bu
      have HP := HP.on RP.keeps bu
      have HY := HY.on RI.keeps bu
      have HZ := HZ.on RI.keeps bu
      have HU := Lib.hid (hu.on RI.keeps bu)
      have HV := Lib.hid (hv.on RP.keeps bu)
      have B11 := B11.trans (bu.mono B11.size)
      obtain ⟨g1, g2, g3, g4, g5⟩ := HFU.out
      obtain ⟨ro, hro⟩ : ∃ ro, Hid (rovB u n = ro) := ⟨_, rfl⟩
      obtain ⟨rn, hrn⟩ : ∃ rn, Hid (rovN u n = rn) := ⟨_, rfl⟩
      obtain ⟨ci, hci⟩ : ∃ ci, Hid (P.cmpIs x y z = ci) := ⟨_, rfl⟩
      clear hu hv bu
      have R0 := Lib.hid S0
      have R1 := Lib.hid S1
      have R2 := Lib.hid S2
      clear S0 S1 S2
      go_wp2_with fail
      refine (implRankOfValue _ HU.out HV.out g1 g2 g3 fn).mono ?_
      rintro e w12 ⟨rfl, b12⟩
      rw [hro.out, hrn.out]
      have G12 := G.below b12 G.lt
      have m0 : (w12).cell? ⟨w11.heap.size, 0, none⟩ = some (.int .i64 u.kind) := G12.cell 0
      have m1 : (w12).cell? ⟨w11.heap.size, 1, none⟩ = some (.int .i64 u.field) := G12.cell 1
      have m2 : (w12).cell? ⟨w11.heap.size, 2, none⟩ = some (.int .i64 u.value) := G12.cell 2
      have m3 : (w12).cell? ⟨w11.heap.size, 3, none⟩ = some (.slice A3 u.list.length c3) := G12.cell 3
      have m4 : (w12).cell? ⟨w11.heap.size, 4, none⟩ = some (.slice E3 u.pairs.length d3) := G12.cell 4
      have lG := G12.lt
      have HU12 := Lib.hid (HU.out.on RI.keeps b12)
      have HV12 := Lib.hid (HV.out.on RP.keeps b12)
      clear HU HV G
      go_wp2_with fail
      refine (specRankOfValue _ HU12.out HV12.out g1 g2 g3 fn).mono ?_
      rintro e w13 ⟨rfl, b13⟩
      rw [hro.out, hrn.out]
      clear G12 m0 m1 m2 m3 m4 lG HU12 HV12 hro hrn
      have bb := b12.trans (b13.mono b12.size)
      have S0 := R0.out.below bb R0.out.lt
      have S1 := R1.out.below bb R1.out.lt
      have S2 := R2.out.below bb R2.out.lt
      have g0 : (w13).cell? ⟨w9.heap.size, 0, none⟩ = some (.int .i64 x.kind) := S0.cell 0
      have g1 : (w13).cell? ⟨w9.heap.size, 1, none⟩ = some (.int .i64 x.field) := S0.cell 1
      have g2 : (w13).cell? ⟨w9.heap.size, 2, none⟩ = some (.int .i64 x.value) := S0.cell 2
      have g3 : (w13).cell? ⟨w9.heap.size, 3, none⟩ = some (.slice A x.list.length c) := S0.cell 3
      have g4 : (w13).cell? ⟨w9.heap.size, 4, none⟩ = some (.slice E x.pairs.length d) := S0.cell 4
      have h0 : (w13).cell? ⟨w9.heap.size + 1, 0, none⟩ = some (.int .i64 y.id) := S1.cell 0
      have h1 : (w13).cell? ⟨w9.heap.size + 1, 1, none⟩ = some (.slice A1 y.vals.length c1) := S1.cell 1
      have i0 : (w13).cell? ⟨w9.heap.size + 1 + 1, 0, none⟩ = some (.int .i64 z.id) := S2.cell 0
      have i1 : (w13).cell? ⟨w9.heap.size + 1 + 1, 1, none⟩ = some (.slice A2 z.vals.length c2) := S2.cell 1
      have l0 := S0.lt
      have l1 := S1.lt
      have l2 := S2.lt
      have HX13 := Lib.hid (HX.on RI.keeps bb)
      have HP13 := Lib.hid (HP.on RP.keeps bb)
      have HY13 := Lib.hid (HY.on RI.keeps bb)
      have HZ13 := Lib.hid (HZ.on RI.keeps bb)
      have B13 := Lib.hid (B11.trans (bb.mono B11.size))
      have CA : Hid (∀ w : World, Sl RI 1 w w.heap.size A x.list.length c x.list → Sl RP 2 w w.heap.size E x.pairs.length d x.pairs → Sl RI 1 w w.heap.size A1 y.vals.length c1 y.vals → Sl RI 1 w w.heap.size A2 z.vals.length c2 z.vals → Calls Try.prog 15 #[.agg #[.int .i64 x.kind, .int .i64 x.field, .int .i64 x.value, .slice A x.list.length c, .slice E x.pairs.length d], .agg #[.int .i64 y.id, .slice A1 y.vals.length c1], .agg #[.int .i64 z.id, .slice A2 z.vals.length c2]] w fun e w' => e = .returned (.int .i64 ci) ∧ Below w.heap.size w w') := fun w h g h1 h2 => by rw [← hci.out]; exact implCompareItems w h g f1 f2 f3 h1 fy h2 fz
      have CB : Hid (∀ w : World, Sl RI 1 w w.heap.size A x.list.length c x.list → Sl RP 2 w w.heap.size E x.pairs.length d x.pairs → Sl RI 1 w w.heap.size A1 y.vals.length c1 y.vals → Sl RI 1 w w.heap.size A2 z.vals.length c2 z.vals → Calls Try.prog 16 #[.agg #[.int .i64 x.kind, .int .i64 x.field, .int .i64 x.value, .slice A x.list.length c, .slice E x.pairs.length d], .agg #[.int .i64 y.id, .slice A1 y.vals.length c1], .agg #[.int .i64 z.id, .slice A2 z.vals.length c2]] w fun e w' => e = .returned (.int .i64 ci) ∧ Below w.heap.size w w') := fun w h g h1 h2 => by rw [← hci.out]; exact specCompareItems w h g f1 f2 f3 h1 fy h2 fz
      have v1 : (ci == ci) = true := by simp
      have v2 : (rn == rn) = true := by simp
      have v3 : (ro == ro) = true := by simp
      clear bb b12 b13 B11 HX HP HY HZ S0 S1 S2 R0 R1 R2
      go_wp2_with fail
      refine wp_region_qb (by kernel_rfl) (by kernel_rfl) ?_; (repeat (go_big_quiet_step ((first | (go_at_call 15; with_reducible exact quietB (CA.out _ (HX13.out.gr RI.keeps _ _) (HP13.out.gr RP.keeps _ _) (HY13.out.gr RI.keeps _ _) (HZ13.out.gr RI.keeps _ _))) | (go_at_call 16; with_reducible exact quietB (CB.out _ (HX13.out.gr RI.keeps _ _) (HP13.out.gr RP.keeps _ _) (HY13.out.gr RI.keeps _ _) (HZ13.out.gr RI.keeps _ _))))))); refine wpQuiet_nil ?_; intro w14 hb14
      go_wp2
      go_ret
      exact ⟨rfl, B13.out.trans (hb14.mono B13.out.size)⟩
    · cases hoo
  · have s1 : (k1 == 2) = false := by simp [hk]
    have s2 : (k1 != 2) = true := by simp [hk]
    have s3 : (-k1 != -k1) = false := by simp
    rcases KEY with (rfl | ⟨rfl, rfl⟩) | ⟨rfl, rfl⟩
    · clear hoo WL
      go_wp2_with fail
      refine (drawCI _ (HS.out.on RB.keeps B8.out) hn0).mono ?_
      rintro e w9 ⟨x, A, c, E, d, y, A1, c1, z, A2, c2, rfl, hs, ht, HFX, ⟨hy, fy⟩, ⟨hz, fz⟩, b9⟩
      obtain ⟨f1, f2, f3, f4, f5⟩ := HFX.out
      have S0 := ((Row.new w9 27 [.int .i64 x.kind, .int .i64 x.field, .int .i64 x.value, .slice A x.list.length c, .slice E x.pairs.length d]).alloc (.cells #[.int .i64 y.id, .slice A1 y.vals.length c1] 36)).alloc (.cells #[.int .i64 z.id, .slice A2 z.vals.length c2] 36)
      have S1 := (Row.new (w9.alloc (.cells #[.int .i64 x.kind, .int .i64 x.field, .int .i64 x.value, .slice A x.list.length c, .slice E x.pairs.length d] 27)) 36 [.int .i64 y.id, .slice A1 y.vals.length c1]).alloc (.cells #[.int .i64 z.id, .slice A2 z.vals.length c2] 36)
      have S2 := Row.new ((w9.alloc (.cells #[.int .i64 x.kind, .int .i64 x.field, .int .i64 x.value, .slice A x.list.length c, .slice E x.pairs.length d] 27)).alloc (.cells #[.int .i64 y.id, .slice A1 y.vals.length c1] 36)) 36 [.int .i64 z.id, .slice A2 z.vals.length c2]
      have e1 : (w9.alloc (.cells #[.int .i64 x.kind, .int .i64 x.field, .int .i64 x.value, .slice A x.list.length c, .slice E x.pairs.length d] 27)).heap.size = w9.heap.size + 1 := by simp
      have e2 : ((w9.alloc (.cells #[.int .i64 x.kind, .int .i64 x.field, .int .i64 x.value, .slice A x.list.length c, .slice E x.pairs.length d] 27)).alloc (.cells #[.int .i64 y.id, .slice A1 y.vals.length c1] 36)).heap.size = w9.heap.size + 1 + 1 := by simp
      rw [e1] at S1
      rw [e2] at S2
      clear e1 e2
      have bt := ((((Below.refl w9.heap.size w9).alloc (Nat.le_refl _) (.cells #[.int .i64 x.kind, .int .i64 x.field, .int .i64 x.value, .slice A x.list.length c, .slice E x.pairs.length d] 27)).alloc (by simp) (.cells #[.int .i64 y.id, .slice A1 y.vals.length c1] 36)).alloc (by simp; try omega) (.cells #[.int .i64 z.id, .slice A2 z.vals.length c2] 36))
      have HX9 := Lib.hid (hs.on RI.keeps bt)
      have HP9 := Lib.hid (ht.on RP.keeps bt)
      have HY9 := Lib.hid (hy.on RI.keeps bt)
      have HZ9 := Lib.hid (hz.on RI.keeps bt)
      have B9 := B8.out.trans ((b9.trans (bt.mono b9.size)).mono B8.out.size)
      obtain ⟨w10, hw10⟩ : ∃ w10, ((w9.alloc (.cells #[.int .i64 x.kind, .int .i64 x.field, .int .i64 x.value, .slice A x.list.length c, .slice E x.pairs.length d] 27)).alloc (.cells #[.int .i64 y.id, .slice A1 y.vals.length c1] 36)).alloc (.cells #[.int .i64 z.id, .slice A2 z.vals.length c2] 36) = w10 := ⟨_, rfl⟩
      rw [hw10] at S0 S1 S2 HX9 HP9 HY9 HZ9 B9
      have HW10 := Lib.hid hw10
      clear hw10 hs ht hy hz b9 bt
      go_wp2_with fail
      rw [HW10.out]
      refine (drawRV _ (HS.out.on RB.keeps B9) hn0).mono ?_
      rintro e w11 ⟨u, A3, c3, E3, d3, n, rfl, hu, hv, HFU, fn, b11⟩
      have S0 := S0.below b11 S0.lt
      have S1 := S1.below b11 S1.lt
      have S2 := S2.below b11 S2.lt
      have HX := HX9.out.on RI.keeps b11
      have HP := HP9.out.on RP.keeps b11
      have HY := HY9.out.on RI.keeps b11
      have HZ := HZ9.out.on RI.keeps b11
      have B11 := B9.trans (b11.mono B9.size)
      clear HX9 HP9 HY9 HZ9 B9 b11
      have bu := (Below.refl w11.heap.size w11).alloc (Nat.le_refl _) (.cells #[.int .i64 u.kind, .int .i64 u.field, .int .i64 u.value, .slice A3 u.list.length c3, .slice E3 u.pairs.length d3] 27)
      have G := Row.new w11 27 [.int .i64 u.kind, .int .i64 u.field, .int .i64 u.value, .slice A3 u.list.length c3, .slice E3 u.pairs.length d3]
      have S0 := S0.below bu S0.lt
      have S1 := S1.below bu S1.lt
      have S2 := S2.below bu S2.lt
      have HX := HX.on RI.keeps bu
      have HP := HP.on RP.keeps bu
      have HY := HY.on RI.keeps bu
      have HZ := HZ.on RI.keeps bu
      have HU := Lib.hid (hu.on RI.keeps bu)
      have HV := Lib.hid (hv.on RP.keeps bu)
      have B11 := B11.trans (bu.mono B11.size)
      obtain ⟨g1, g2, g3, g4, g5⟩ := HFU.out
      obtain ⟨ro, hro⟩ : ∃ ro, Hid (rovB u n = ro) := ⟨_, rfl⟩
      obtain ⟨rn, hrn⟩ : ∃ rn, Hid (rovN u n = rn) := ⟨_, rfl⟩
      obtain ⟨ci, hci⟩ : ∃ ci, Hid (P.cmpIs x y z = ci) := ⟨_, rfl⟩
      clear hu hv bu
      have R0 := Lib.hid S0
      have R1 := Lib.hid S1
      have R2 := Lib.hid S2
      clear S0 S1 S2
      go_wp2_with fail
      refine (implRankOfValue _ HU.out HV.out g1 g2 g3 fn).mono ?_
      rintro e w12 ⟨rfl, b12⟩
      rw [hro.out, hrn.out]
      have G12 := G.below b12 G.lt
      have m0 : (w12).cell? ⟨w11.heap.size, 0, none⟩ = some (.int .i64 u.kind) := G12.cell 0
      have m1 : (w12).cell? ⟨w11.heap.size, 1, none⟩ = some (.int .i64 u.field) := G12.cell 1
      have m2 : (w12).cell? ⟨w11.heap.size, 2, none⟩ = some (.int .i64 u.value) := G12.cell 2
      have m3 : (w12).cell? ⟨w11.heap.size, 3, none⟩ = some (.slice A3 u.list.length c3) := G12.cell 3
      have m4 : (w12).cell? ⟨w11.heap.size, 4, none⟩ = some (.slice E3 u.pairs.length d3) := G12.cell 4
      have lG := G12.lt
      have HU12 := Lib.hid (HU.out.on RI.keeps b12)
      have HV12 := Lib.hid (HV.out.on RP.keeps b12)
      clear HU HV G
      go_wp2_with fail
      refine (specRankOfValue _ HU12.out HV12.out g1 g2 g3 fn).mono ?_
      rintro e w13 ⟨rfl, b13⟩
      rw [hro.out, hrn.out]
      clear G12 m0 m1 m2 m3 m4 lG HU12 HV12 hro hrn
      have bb := b12.trans (b13.mono b12.size)
      have S0 := R0.out.below bb R0.out.lt
      have S1 := R1.out.below bb R1.out.lt
      have S2 := R2.out.below bb R2.out.lt
      have g0 : (w13).cell? ⟨w9.heap.size, 0, none⟩ = some (.int .i64 x.kind) := S0.cell 0
      have g1 : (w13).cell? ⟨w9.heap.size, 1, none⟩ = some (.int .i64 x.field) := S0.cell 1
      have g2 : (w13).cell? ⟨w9.heap.size, 2, none⟩ = some (.int .i64 x.value) := S0.cell 2
      have g3 : (w13).cell? ⟨w9.heap.size, 3, none⟩ = some (.slice A x.list.length c) := S0.cell 3
      have g4 : (w13).cell? ⟨w9.heap.size, 4, none⟩ = some (.slice E x.pairs.length d) := S0.cell 4
      have h0 : (w13).cell? ⟨w9.heap.size + 1, 0, none⟩ = some (.int .i64 y.id) := S1.cell 0
      have h1 : (w13).cell? ⟨w9.heap.size + 1, 1, none⟩ = some (.slice A1 y.vals.length c1) := S1.cell 1
      have i0 : (w13).cell? ⟨w9.heap.size + 1 + 1, 0, none⟩ = some (.int .i64 z.id) := S2.cell 0
      have i1 : (w13).cell? ⟨w9.heap.size + 1 + 1, 1, none⟩ = some (.slice A2 z.vals.length c2) := S2.cell 1
      have l0 := S0.lt
      have l1 := S1.lt
      have l2 := S2.lt
      have HX13 := Lib.hid (HX.on RI.keeps bb)
      have HP13 := Lib.hid (HP.on RP.keeps bb)
      have HY13 := Lib.hid (HY.on RI.keeps bb)
      have HZ13 := Lib.hid (HZ.on RI.keeps bb)
      have B13 := Lib.hid (B11.trans (bb.mono B11.size))
      have CA : Hid (∀ w : World, Sl RI 1 w w.heap.size A x.list.length c x.list → Sl RP 2 w w.heap.size E x.pairs.length d x.pairs → Sl RI 1 w w.heap.size A1 y.vals.length c1 y.vals → Sl RI 1 w w.heap.size A2 z.vals.length c2 z.vals → Calls Try.prog 15 #[.agg #[.int .i64 x.kind, .int .i64 x.field, .int .i64 x.value, .slice A x.list.length c, .slice E x.pairs.length d], .agg #[.int .i64 y.id, .slice A1 y.vals.length c1], .agg #[.int .i64 z.id, .slice A2 z.vals.length c2]] w fun e w' => e = .returned (.int .i64 ci) ∧ Below w.heap.size w w') := fun w h g h1 h2 => by rw [← hci.out]; exact implCompareItems w h g f1 f2 f3 h1 fy h2 fz
      have CB : Hid (∀ w : World, Sl RI 1 w w.heap.size A x.list.length c x.list → Sl RP 2 w w.heap.size E x.pairs.length d x.pairs → Sl RI 1 w w.heap.size A1 y.vals.length c1 y.vals → Sl RI 1 w w.heap.size A2 z.vals.length c2 z.vals → Calls Try.prog 16 #[.agg #[.int .i64 x.kind, .int .i64 x.field, .int .i64 x.value, .slice A x.list.length c, .slice E x.pairs.length d], .agg #[.int .i64 y.id, .slice A1 y.vals.length c1], .agg #[.int .i64 z.id, .slice A2 z.vals.length c2]] w fun e w' => e = .returned (.int .i64 ci) ∧ Below w.heap.size w w') := fun w h g h1 h2 => by rw [← hci.out]; exact specCompareItems w h g f1 f2 f3 h1 fy h2 fz
      have v1 : (ci == ci) = true := by simp
      have v2 : (rn == rn) = true := by simp
      have v3 : (ro == ro) = true := by simp
      clear bb b12 b13 B11 HX HP HY HZ S0 S1 S2 R0 R1 R2
      go_wp2_with fail
      refine wp_region_qb (by kernel_rfl) (by kernel_rfl) ?_; (repeat (go_big_quiet_step ((first | (go_at_call 15; with_reducible exact quietB (CA.out _ (HX13.out.gr RI.keeps _ _) (HP13.out.gr RP.keeps _ _) (HY13.out.gr RI.keeps _ _) (HZ13.out.gr RI.keeps _ _))) | (go_at_call 16; with_reducible exact quietB (CB.out _ (HX13.out.gr RI.keeps _ _) (HP13.out.gr RP.keeps _ _) (HY13.out.gr RI.keeps _ _) (HZ13.out.gr RI.keeps _ _))))))); refine wpQuiet_nil ?_; intro w14 hb14
      go_wp2
      go_ret
      exact ⟨rfl, B13.out.trans (hb14.mono B13.out.size)⟩
    · clear hoo WL
      go_wp2_with fail
      refine (drawCI _ (HS.out.on RB.keeps B8.out) hn0).mono ?_
      rintro e w9 ⟨x, A, c, E, d, y, A1, c1, z, A2, c2, rfl, hs, ht, HFX, ⟨hy, fy⟩, ⟨hz, fz⟩, b9⟩
      obtain ⟨f1, f2, f3, f4, f5⟩ := HFX.out
      have S0 := ((Row.new w9 27 [.int .i64 x.kind, .int .i64 x.field, .int .i64 x.value, .slice A x.list.length c, .slice E x.pairs.length d]).alloc (.cells #[.int .i64 y.id, .slice A1 y.vals.length c1] 36)).alloc (.cells #[.int .i64 z.id, .slice A2 z.vals.length c2] 36)
      have S1 := (Row.new (w9.alloc (.cells #[.int .i64 x.kind, .int .i64 x.field, .int .i64 x.value, .slice A x.list.length c, .slice E x.pairs.length d] 27)) 36 [.int .i64 y.id, .slice A1 y.vals.length c1]).alloc (.cells #[.int .i64 z.id, .slice A2 z.vals.length c2] 36)
      have S2 := Row.new ((w9.alloc (.cells #[.int .i64 x.kind, .int .i64 x.field, .int .i64 x.value, .slice A x.list.length c, .slice E x.pairs.length d] 27)).alloc (.cells #[.int .i64 y.id, .slice A1 y.vals.length c1] 36)) 36 [.int .i64 z.id, .slice A2 z.vals.length c2]
      have e1 : (w9.alloc (.cells #[.int .i64 x.kind, .int .i64 x.field, .int .i64 x.value, .slice A x.list.length c, .slice E x.pairs.length d] 27)).heap.size = w9.heap.size + 1 := by simp
      have e2 : ((w9.alloc (.cells #[.int .i64 x.kind, .int .i64 x.field, .int .i64 x.value, .slice A x.list.length c, .slice E x.pairs.length d] 27)).alloc (.cells #[.int .i64 y.id, .slice A1 y.vals.length c1] 36)).heap.size = w9.heap.size + 1 + 1 := by simp
      rw [e1] at S1
      rw [e2] at S2
      clear e1 e2
      have bt := ((((Below.refl w9.heap.size w9).alloc (Nat.le_refl _) (.cells #[.int .i64 x.kind, .int .i64 x.field, .int .i64 x.value, .slice A x.list.length c, .slice E x.pairs.length d] 27)).alloc (by simp) (.cells #[.int .i64 y.id, .slice A1 y.vals.length c1] 36)).alloc (by simp; try omega) (.cells #[.int .i64 z.id, .slice A2 z.vals.length c2] 36))
      have HX9 := Lib.hid (hs.on RI.keeps bt)
      have HP9 := Lib.hid (ht.on RP.keeps bt)
      have HY9 := Lib.hid (hy.on RI.keeps bt)
      have HZ9 := Lib.hid (hz.on RI.keeps bt)
      have B9 := B8.out.trans ((b9.trans (bt.mono b9.size)).mono B8.out.size)
      obtain ⟨w10, hw10⟩ : ∃ w10, ((w9.alloc (.cells #[.int .i64 x.kind, .int .i64 x.field, .int .i64 x.value, .slice A x.list.length c, .slice E x.pairs.length d] 27)).alloc (.cells #[.int .i64 y.id, .slice A1 y.vals.length c1] 36)).alloc (.cells #[.int .i64 z.id, .slice A2 z.vals.length c2] 36) = w10 := ⟨_, rfl⟩
      rw [hw10] at S0 S1 S2 HX9 HP9 HY9 HZ9 B9
      have HW10 := Lib.hid hw10
      clear hw10 hs ht hy hz b9 bt
      go_wp2_with fail
      rw [HW10.out]
      refine (drawRV _ (HS.out.on RB.keeps B9) hn0).mono ?_
      rintro e w11 ⟨u, A3, c3, E3, d3, n, rfl, hu, hv, HFU, fn, b11⟩
      have S0 := S0.below b11 S0.lt
      have S1 := S1.below b11 S1.lt
      have S2 := S2.below b11 S2.lt
      have HX := HX9.out.on RI.keeps b11
      have HP := HP9.out.on RP.keeps b11
      have HY := HY9.out.on RI.keeps b11
      have HZ := HZ9.out.on RI.keeps b11
      have B11 := B9.trans (b11.mono B9.size)
      clear HX9 HP9 HY9 HZ9 B9 b11
      have bu := (Below.refl w11.heap.size w11).alloc (Nat.le_refl _) (.cells #[.int .i64 u.kind, .int .i64 u.field, .int .i64 u.value, .slice A3 u.list.length c3, .slice E3 u.pairs.length d3] 27)
      have G := Row.new w11 27 [.int .i64 u.kind, .int .i64 u.field, .int .i64 u.value, .slice A3 u.list.length c3, .slice E3 u.pairs.length d3]
      have S0 := S0.below bu S0.lt
      have S1 := S1.below bu S1.lt
      have S2 := S2.below bu S2.lt
      have HX := HX.on RI.keeps bu
      have HP := HP.on RP.keeps bu
      have HY := HY.on RI.keeps bu
      have HZ := HZ.on RI.keeps bu
      have HU := Lib.hid (hu.on RI.keeps bu)
      have HV := Lib.hid (hv.on RP.keeps bu)
      have B11 := B11.trans (bu.mono B11.size)
      obtain ⟨g1, g2, g3, g4, g5⟩ := HFU.out
      obtain ⟨ro, hro⟩ : ∃ ro, Hid (rovB u n = ro) := ⟨_, rfl⟩
      obtain ⟨rn, hrn⟩ : ∃ rn, Hid (rovN u n = rn) := ⟨_, rfl⟩
      obtain ⟨ci, hci⟩ : ∃ ci, Hid (P.cmpIs x y z = ci) := ⟨_, rfl⟩
      clear hu hv bu
      have R0 := Lib.hid S0
      have R1 := Lib.hid S1
      have R2 := Lib.hid S2
      clear S0 S1 S2
      go_wp2_with fail
      refine (implRankOfValue _ HU.out HV.out g1 g2 g3 fn).mono ?_
      rintro e w12 ⟨rfl, b12⟩
      rw [hro.out, hrn.out]
      have G12 := G.below b12 G.lt
      have m0 : (w12).cell? ⟨w11.heap.size, 0, none⟩ = some (.int .i64 u.kind) := G12.cell 0
      have m1 : (w12).cell? ⟨w11.heap.size, 1, none⟩ = some (.int .i64 u.field) := G12.cell 1
      have m2 : (w12).cell? ⟨w11.heap.size, 2, none⟩ = some (.int .i64 u.value) := G12.cell 2
      have m3 : (w12).cell? ⟨w11.heap.size, 3, none⟩ = some (.slice A3 u.list.length c3) := G12.cell 3
      have m4 : (w12).cell? ⟨w11.heap.size, 4, none⟩ = some (.slice E3 u.pairs.length d3) := G12.cell 4
      have lG := G12.lt
      have HU12 := Lib.hid (HU.out.on RI.keeps b12)
      have HV12 := Lib.hid (HV.out.on RP.keeps b12)
      clear HU HV G
      go_wp2_with fail
      refine (specRankOfValue _ HU12.out HV12.out g1 g2 g3 fn).mono ?_
      rintro e w13 ⟨rfl, b13⟩
      rw [hro.out, hrn.out]
      clear G12 m0 m1 m2 m3 m4 lG HU12 HV12 hro hrn
      have bb := b12.trans (b13.mono b12.size)
      have S0 := R0.out.below bb R0.out.lt
      have S1 := R1.out.below bb R1.out.lt
      have S2 := R2.out.below bb R2.out.lt
      have g0 : (w13).cell? ⟨w9.heap.size, 0, none⟩ = some (.int .i64 x.kind) := S0.cell 0
      have g1 : (w13).cell? ⟨w9.heap.size, 1, none⟩ = some (.int .i64 x.field) := S0.cell 1
      have g2 : (w13).cell? ⟨w9.heap.size, 2, none⟩ = some (.int .i64 x.value) := S0.cell 2
      have g3 : (w13).cell? ⟨w9.heap.size, 3, none⟩ = some (.slice A x.list.length c) := S0.cell 3
      have g4 : (w13).cell? ⟨w9.heap.size, 4, none⟩ = some (.slice E x.pairs.length d) := S0.cell 4
      have h0 : (w13).cell? ⟨w9.heap.size + 1, 0, none⟩ = some (.int .i64 y.id) := S1.cell 0
      have h1 : (w13).cell? ⟨w9.heap.size + 1, 1, none⟩ = some (.slice A1 y.vals.length c1) := S1.cell 1
      have i0 : (w13).cell? ⟨w9.heap.size + 1 + 1, 0, none⟩ = some (.int .i64 z.id) := S2.cell 0
      have i1 : (w13).cell? ⟨w9.heap.size + 1 + 1, 1, none⟩ = some (.slice A2 z.vals.length c2) := S2.cell 1
      have l0 := S0.lt
      have l1 := S1.lt
      have l2 := S2.lt
      have HX13 := Lib.hid (HX.on RI.keeps bb)
      have HP13 := Lib.hid (HP.on RP.keeps bb)
      have HY13 := Lib.hid (HY.on RI.keeps bb)
      have HZ13 := Lib.hid (HZ.on RI.keeps bb)
      have B13 := Lib.hid (B11.trans (bb.mono B11.size))
      have CA : Hid (∀ w : World, Sl RI 1 w w.heap.size A x.list.length c x.list → Sl RP 2 w w.heap.size E x.pairs.length d x.pairs → Sl RI 1 w w.heap.size A1 y.vals.length c1 y.vals → Sl RI 1 w w.heap.size A2 z.vals.length c2 z.vals → Calls Try.prog 15 #[.agg #[.int .i64 x.kind, .int .i64 x.field, .int .i64 x.value, .slice A x.list.length c, .slice E x.pairs.length d], .agg #[.int .i64 y.id, .slice A1 y.vals.length c1], .agg #[.int .i64 z.id, .slice A2 z.vals.length c2]] w fun e w' => e = .returned (.int .i64 ci) ∧ Below w.heap.size w w') := fun w h g h1 h2 => by rw [← hci.out]; exact implCompareItems w h g f1 f2 f3 h1 fy h2 fz
      have CB : Hid (∀ w : World, Sl RI 1 w w.heap.size A x.list.length c x.list → Sl RP 2 w w.heap.size E x.pairs.length d x.pairs → Sl RI 1 w w.heap.size A1 y.vals.length c1 y.vals → Sl RI 1 w w.heap.size A2 z.vals.length c2 z.vals → Calls Try.prog 16 #[.agg #[.int .i64 x.kind, .int .i64 x.field, .int .i64 x.value, .slice A x.list.length c, .slice E x.pairs.length d], .agg #[.int .i64 y.id, .slice A1 y.vals.length c1], .agg #[.int .i64 z.id, .slice A2 z.vals.length c2]] w fun e w' => e = .returned (.int .i64 ci) ∧ Below w.heap.size w w') := fun w h g h1 h2 => by rw [← hci.out]; exact specCompareItems w h g f1 f2 f3 h1 fy h2 fz
      have v1 : (ci == ci) = true := by simp
      have v2 : (rn == rn) = true := by simp
      have v3 : (ro == ro) = true := by simp
      clear bb b12 b13 B11 HX HP HY HZ S0 S1 S2 R0 R1 R2
      go_wp2_with fail
      refine wp_region_qb (by kernel_rfl) (by kernel_rfl) ?_; (repeat (go_big_quiet_step ((first | (go_at_call 15; with_reducible exact quietB (CA.out _ (HX13.out.gr RI.keeps _ _) (HP13.out.gr RP.keeps _ _) (HY13.out.gr RI.keeps _ _) (HZ13.out.gr RI.keeps _ _))) | (go_at_call 16; with_reducible exact quietB (CB.out _ (HX13.out.gr RI.keeps _ _) (HP13.out.gr RP.keeps _ _) (HY13.out.gr RI.keeps _ _) (HZ13.out.gr RI.keeps _ _))))))); refine wpQuiet_nil ?_; intro w14 hb14
      go_wp2
      go_ret
      exact ⟨rfl, B13.out.trans (hb14.mono B13.out.size)⟩
    · cases hoo
  · have s1 : ¬ r1 = r2 := by omega
    have s2 : (r1 == r2) = false := by simp [s1]
    clear WL KEY
    go_wp2_with fail
    refine (drawCI _ (HS.out.on RB.keeps B8.out) hn0).mono ?_
    rintro e w9 ⟨x, A, c, E, d, y, A1, c1, z, A2, c2, rfl, hs, ht, HFX, ⟨hy, fy⟩, ⟨hz, fz⟩, b9⟩
    obtain ⟨f1, f2, f3, f4, f5⟩ := HFX.out
    have S0 := ((Row.new w9 27 [.int .i64 x.kind, .int .i64 x.field, .int .i64 x.value, .slice A x.list.length c, .slice E x.pairs.length d]).alloc (.cells #[.int .i64 y.id, .slice A1 y.vals.length c1] 36)).alloc (.cells #[.int .i64 z.id, .slice A2 z.vals.length c2] 36)
    have S1 := (Row.new (w9.alloc (.cells #[.int .i64 x.kind, .int .i64 x.field, .int .i64 x.value, .slice A x.list.length c, .slice E x.pairs.length d] 27)) 36 [.int .i64 y.id, .slice A1 y.vals.length c1]).alloc (.cells #[.int .i64 z.id, .slice A2 z.vals.length c2] 36)
    have S2 := Row.new ((w9.alloc (.cells #[.int .i64 x.kind, .int .i64 x.field, .int .i64 x.value, .slice A x.list.length c, .slice E x.pairs.length d] 27)).alloc (.cells #[.int .i64 y.id, .slice A1 y.vals.length c1] 36)) 36 [.int .i64 z.id, .slice A2 z.vals.length c2]
    have e1 : (w9.alloc (.cells #[.int .i64 x.kind, .int .i64 x.field, .int .i64 x.value, .slice A x.list.length c, .slice E x.pairs.length d] 27)).heap.size = w9.heap.size + 1 := by simp
    have e2 : ((w9.alloc (.cells #[.int .i64 x.kind, .int .i64 x.field, .int .i64 x.value, .slice A x.list.length c, .slice E x.pairs.length d] 27)).alloc (.cells #[.int .i64 y.id, .slice A1 y.vals.length c1] 36)).heap.size = w9.heap.size + 1 + 1 := by simp
    rw [e1] at S1
    rw [e2] at S2
    clear e1 e2
    have bt := ((((Below.refl w9.heap.size w9).alloc (Nat.le_refl _) (.cells #[.int .i64 x.kind, .int .i64 x.field, .int .i64 x.value, .slice A x.list.length c, .slice E x.pairs.length d] 27)).alloc (by simp) (.cells #[.int .i64 y.id, .slice A1 y.vals.length c1] 36)).alloc (by simp; try omega) (.cells #[.int .i64 z.id, .slice A2 z.vals.length c2] 36))
    have HX9 := Lib.hid (hs.on RI.keeps bt)
    have HP9 := Lib.hid (ht.on RP.keeps bt)
    have HY9 := Lib.hid (hy.on RI.keeps bt)
    have HZ9 := Lib.hid (hz.on RI.keeps bt)
    have B9 := B8.out.trans ((b9.trans (bt.mono b9.size)).mono B8.out.size)
    obtain ⟨w10, hw10⟩ : ∃ w10, ((w9.alloc (.cells #[.int .i64 x.kind, .int .i64 x.field, .int .i64 x.value, .slice A x.list.length c, .slice E x.pairs.length d] 27)).alloc (.cells #[.int .i64 y.id, .slice A1 y.vals.length c1] 36)).alloc (.cells #[.int .i64 z.id, .slice A2 z.vals.length c2] 36) = w10 := ⟨_, rfl⟩
    rw [hw10] at S0 S1 S2 HX9 HP9 HY9 HZ9 B9
    have HW10 := Lib.hid hw10
    clear hw10 hs ht hy hz b9 bt
    go_wp2_with fail
    rw [HW10.out]
    refine (drawRV _ (HS.out.on RB.keeps B9) hn0).mono ?_
    rintro e w11 ⟨u, A3, c3, E3, d3, n, rfl, hu, hv, HFU, fn, b11⟩
    have S0 := S0.below b11 S0.lt
    have S1 := S1.below b11 S1.lt
    have S2 := S2.below b11 S2.lt
    have HX := HX9.out.on RI.keeps b11
    have HP := HP9.out.on RP.keeps b11
    have HY := HY9.out.on RI.keeps b11
    have HZ := HZ9.out.on RI.keeps b11
    have B11 := B9.trans (b11.mono B9.size)
    clear HX9 HP9 HY9 HZ9 B9 b11
    have bu := (Below.refl w11.heap.size w11).alloc (Nat.le_refl _) (.cells #[.int .i64 u.kind, .int .i64 u.field, .int .i64 u.value, .slice A3 u.list.length c3, .slice E3 u.pairs.length d3] 27)
    have G := Row.new w11 27 [.int .i64 u.kind, .int .i64 u.field, .int .i64 u.value, .slice A3 u.list.length c3, .slice E3 u.pairs.length d3]
    have S0 := S0.below bu S0.lt
    have S1 := S1.below bu S1.lt
    have S2 := S2.below bu S2.lt
    have HX := HX.on RI.keeps bu
    have HP := HP.on RP.keeps bu
    have HY := HY.on RI.keeps bu
    have HZ := HZ.on RI.keeps bu
    have HU := Lib.hid (hu.on RI.keeps bu)
    have HV := Lib.hid (hv.on RP.keeps bu)
    have B11 := B11.trans (bu.mono B11.size)
    obtain ⟨g1, g2, g3, g4, g5⟩ := HFU.out
    obtain ⟨ro, hro⟩ : ∃ ro, Hid (rovB u n = ro) := ⟨_, rfl⟩
    obtain ⟨rn, hrn⟩ : ∃ rn, Hid (rovN u n = rn) := ⟨_, rfl⟩
    obtain ⟨ci, hci⟩ : ∃ ci, Hid (P.cmpIs x y z = ci) := ⟨_, rfl⟩
    clear hu hv bu
    have R0 := Lib.hid S0
    have R1 := Lib.hid S1
    have R2 := Lib.hid S2
    clear S0 S1 S2
    go_wp2_with fail
    refine (implRankOfValue _ HU.out HV.out g1 g2 g3 fn).mono ?_
    rintro e w12 ⟨rfl, b12⟩
    rw [hro.out, hrn.out]
    have G12 := G.below b12 G.lt
    have m0 : (w12).cell? ⟨w11.heap.size, 0, none⟩ = some (.int .i64 u.kind) := G12.cell 0
    have m1 : (w12).cell? ⟨w11.heap.size, 1, none⟩ = some (.int .i64 u.field) := G12.cell 1
    have m2 : (w12).cell? ⟨w11.heap.size, 2, none⟩ = some (.int .i64 u.value) := G12.cell 2
    have m3 : (w12).cell? ⟨w11.heap.size, 3, none⟩ = some (.slice A3 u.list.length c3) := G12.cell 3
    have m4 : (w12).cell? ⟨w11.heap.size, 4, none⟩ = some (.slice E3 u.pairs.length d3) := G12.cell 4
    have lG := G12.lt
    have HU12 := Lib.hid (HU.out.on RI.keeps b12)
    have HV12 := Lib.hid (HV.out.on RP.keeps b12)
    clear HU HV G
    go_wp2_with fail
    refine (specRankOfValue _ HU12.out HV12.out g1 g2 g3 fn).mono ?_
    rintro e w13 ⟨rfl, b13⟩
    rw [hro.out, hrn.out]
    clear G12 m0 m1 m2 m3 m4 lG HU12 HV12 hro hrn
    have bb := b12.trans (b13.mono b12.size)
    have S0 := R0.out.below bb R0.out.lt
    have S1 := R1.out.below bb R1.out.lt
    have S2 := R2.out.below bb R2.out.lt
    have g0 : (w13).cell? ⟨w9.heap.size, 0, none⟩ = some (.int .i64 x.kind) := S0.cell 0
    have g1 : (w13).cell? ⟨w9.heap.size, 1, none⟩ = some (.int .i64 x.field) := S0.cell 1
    have g2 : (w13).cell? ⟨w9.heap.size, 2, none⟩ = some (.int .i64 x.value) := S0.cell 2
    have g3 : (w13).cell? ⟨w9.heap.size, 3, none⟩ = some (.slice A x.list.length c) := S0.cell 3
    have g4 : (w13).cell? ⟨w9.heap.size, 4, none⟩ = some (.slice E x.pairs.length d) := S0.cell 4
    have h0 : (w13).cell? ⟨w9.heap.size + 1, 0, none⟩ = some (.int .i64 y.id) := S1.cell 0
    have h1 : (w13).cell? ⟨w9.heap.size + 1, 1, none⟩ = some (.slice A1 y.vals.length c1) := S1.cell 1
    have i0 : (w13).cell? ⟨w9.heap.size + 1 + 1, 0, none⟩ = some (.int .i64 z.id) := S2.cell 0
    have i1 : (w13).cell? ⟨w9.heap.size + 1 + 1, 1, none⟩ = some (.slice A2 z.vals.length c2) := S2.cell 1
    have l0 := S0.lt
    have l1 := S1.lt
    have l2 := S2.lt
    have HX13 := Lib.hid (HX.on RI.keeps bb)
    have HP13 := Lib.hid (HP.on RP.keeps bb)
    have HY13 := Lib.hid (HY.on RI.keeps bb)
    have HZ13 := Lib.hid (HZ.on RI.keeps bb)
    have B13 := Lib.hid (B11.trans (bb.mono B11.size))
    have CA : Hid (∀ w : World, Sl RI 1 w w.heap.size A x.list.length c x.list → Sl RP 2 w w.heap.size E x.pairs.length d x.pairs → Sl RI 1 w w.heap.size A1 y.vals.length c1 y.vals → Sl RI 1 w w.heap.size A2 z.vals.length c2 z.vals → Calls Try.prog 15 #[.agg #[.int .i64 x.kind, .int .i64 x.field, .int .i64 x.value, .slice A x.list.length c, .slice E x.pairs.length d], .agg #[.int .i64 y.id, .slice A1 y.vals.length c1], .agg #[.int .i64 z.id, .slice A2 z.vals.length c2]] w fun e w' => e = .returned (.int .i64 ci) ∧ Below w.heap.size w w') := fun w h g h1 h2 => by rw [← hci.out]; exact implCompareItems w h g f1 f2 f3 h1 fy h2 fz
    have CB : Hid (∀ w : World, Sl RI 1 w w.heap.size A x.list.length c x.list → Sl RP 2 w w.heap.size E x.pairs.length d x.pairs → Sl RI 1 w w.heap.size A1 y.vals.length c1 y.vals → Sl RI 1 w w.heap.size A2 z.vals.length c2 z.vals → Calls Try.prog 16 #[.agg #[.int .i64 x.kind, .int .i64 x.field, .int .i64 x.value, .slice A x.list.length c, .slice E x.pairs.length d], .agg #[.int .i64 y.id, .slice A1 y.vals.length c1], .agg #[.int .i64 z.id, .slice A2 z.vals.length c2]] w fun e w' => e = .returned (.int .i64 ci) ∧ Below w.heap.size w w') := fun w h g h1 h2 => by rw [← hci.out]; exact specCompareItems w h g f1 f2 f3 h1 fy h2 fz
    have v1 : (ci == ci) = true := by simp
    have v2 : (rn == rn) = true := by simp
    have v3 : (ro == ro) = true := by simp
    clear bb b12 b13 B11 HX HP HY HZ S0 S1 S2 R0 R1 R2
    go_wp2_with fail
    refine wp_region_qb (by kernel_rfl) (by kernel_rfl) ?_; (repeat (go_big_quiet_step ((first | (go_at_call 15; with_reducible exact quietB (CA.out _ (HX13.out.gr RI.keeps _ _) (HP13.out.gr RP.keeps _ _) (HY13.out.gr RI.keeps _ _) (HZ13.out.gr RI.keeps _ _))) | (go_at_call 16; with_reducible exact quietB (CB.out _ (HX13.out.gr RI.keeps _ _) (HP13.out.gr RP.keeps _ _) (HY13.out.gr RI.keeps _ _) (HZ13.out.gr RI.keeps _ _))))))); refine wpQuiet_nil ?_; intro w14 hb14
    go_wp2
    go_ret
    exact ⟨rfl, B13.out.trans (hb14.mono B13.out.size)⟩
  · have s1 : ¬ r1 < r1 := by omega
    have s2 : (r1 == r1) = true := by simp
    clear WL KEY
    go_wp2_with fail
    refine (drawCI _ (HS.out.on RB.keeps B8.out) hn0).mono ?_
    rintro e w9 ⟨x, A, c, E, d, y, A1, c1, z, A2, c2, rfl, hs, ht, HFX, ⟨hy, fy⟩, ⟨hz, fz⟩, b9⟩
    obtain ⟨f1, f2, f3, f4, f5⟩ := HFX.out
    have S0 := ((Row.new w9 27 [.int .i64 x.kind, .int .i64 x.field, .int .i64 x.value, .slice A x.list.length c, .slice E x.pairs.length d]).alloc (.cells #[.int .i64 y.id, .slice A1 y.vals.length c1] 36)).alloc (.cells #[.int .i64 z.id, .slice A2 z.vals.length c2] 36)
    have S1 := (Row.new (w9.alloc (.cells #[.int .i64 x.kind, .int .i64 x.field, .int .i64 x.value, .slice A x.list.length c, .slice E x.pairs.length d] 27)) 36 [.int .i64 y.id, .slice A1 y.vals.length c1]).alloc (.cells #[.int .i64 z.id, .slice A2 z.vals.length c2] 36)
    have S2 := Row.new ((w9.alloc (.cells #[.int .i64 x.kind, .int .i64 x.field, .int .i64 x.value, .slice A x.list.length c, .slice E x.pairs.length d] 27)).alloc (.cells #[.int .i64 y.id, .slice A1 y.vals.length c1] 36)) 36 [.int .i64 z.id, .slice A2 z.vals.length c2]
    have e1 : (w9.alloc (.cells #[.int .i64 x.kind, .int .i64 x.field, .int .i64 x.value, .slice A x.list.length c, .slice E x.pairs.length d] 27)).heap.size = w9.heap.size + 1 := by simp
    have e2 : ((w9.alloc (.cells #[.int .i64 x.kind, .int .i64 x.field, .int .i64 x.value, .slice A x.list.length c, .slice E x.pairs.length d] 27)).alloc (.cells #[.int .i64 y.id, .slice A1 y.vals.length c1] 36)).heap.size = w9.heap.size + 1 + 1 := by simp
    rw [e1] at S1
    rw [e2] at S2
    clear e1 e2
    have bt := ((((Below.refl w9.heap.size w9).alloc (Nat.le_refl _) (.cells #[.int .i64 x.kind, .int .i64 x.field, .int .i64 x.value, .slice A x.list.length c, .slice E x.pairs.length d] 27)).alloc (by simp) (.cells #[.int .i64 y.id, .slice A1 y.vals.length c1] 36)).alloc (by simp; try omega) (.cells #[.int .i64 z.id, .slice A2 z.vals.length c2] 36))
    have HX9 := Lib.hid (hs.on RI.keeps bt)
    have HP9 := Lib.hid (ht.on RP.keeps bt)
    have HY9 := Lib.hid (hy.on RI.keeps bt)
    have HZ9 := Lib.hid (hz.on RI.keeps bt)
    have B9 := B8.out.trans ((b9.trans (bt.mono b9.size)).mono B8.out.size)
    obtain ⟨w10, hw10⟩ : ∃ w10, ((w9.alloc (.cells #[.int .i64 x.kind, .int .i64 x.field, .int .i64 x.value, .slice A x.list.length c, .slice E x.pairs.length d] 27)).alloc (.cells #[.int .i64 y.id, .slice A1 y.vals.length c1] 36)).alloc (.cells #[.int .i64 z.id, .slice A2 z.vals.length c2] 36) = w10 := ⟨_, rfl⟩
    rw [hw10] at S0 S1 S2 HX9 HP9 HY9 HZ9 B9
    have HW10 := Lib.hid hw10
    clear hw10 hs ht hy hz b9 bt
    go_wp2_with fail
    rw [HW10.out]
    refine (drawRV _ (HS.out.on RB.keeps B9) hn0).mono ?_
    rintro e w11 ⟨u, A3, c3, E3, d3, n, rfl, hu, hv, HFU, fn, b11⟩
    have S0 := S0.below b11 S0.lt
    have S1 := S1.below b11 S1.lt
    have S2 := S2.below b11 S2.lt
    have HX := HX9.out.on RI.keeps b11
    have HP := HP9.out.on RP.keeps b11
    have HY := HY9.out.on RI.keeps b11
    have HZ := HZ9.out.on RI.keeps b11
    have B11 := B9.trans (b11.mono B9.size)
    clear HX9 HP9 HY9 HZ9 B9 b11
    have bu := (Below.refl w11.heap.size w11).alloc (Nat.le_refl _) (.cells #[.int .i64 u.kind, .int .i64 u.field, .int .i64 u.value, .slice A3 u.list.length c3, .slice E3 u.pairs.length d3] 27)
    have G := Row.new w11 27 [.int .i64 u.kind, .int .i64 u.field, .int .i64 u.value, .slice A3 u.list.length c3, .slice E3 u.pairs.length d3]
    have S0 := S0.below bu S0.lt
    have S1 := S1.below bu S1.lt
    have S2 := S2.below bu S2.lt
    have HX := HX.on RI.keeps bu
    have HP := HP.on RP.keeps bu
    have HY := HY.on RI.keeps bu
    have HZ := HZ.on RI.keeps bu
    have HU := Lib.hid (hu.on RI.keeps bu)
    have HV := Lib.hid (hv.on RP.keeps bu)
    have B11 := B11.trans (bu.mono B11.size)
    obtain ⟨g1, g2, g3, g4, g5⟩ := HFU.out
    obtain ⟨ro, hro⟩ : ∃ ro, Hid (rovB u n = ro) := ⟨_, rfl⟩
    obtain ⟨rn, hrn⟩ : ∃ rn, Hid (rovN u n = rn) := ⟨_, rfl⟩
    obtain ⟨ci, hci⟩ : ∃ ci, Hid (P.cmpIs x y z = ci) := ⟨_, rfl⟩
    clear hu hv bu
    have R0 := Lib.hid S0
    have R1 := Lib.hid S1
    have R2 := Lib.hid S2
    clear S0 S1 S2
    go_wp2_with fail
    refine (implRankOfValue _ HU.out HV.out g1 g2 g3 fn).mono ?_
    rintro e w12 ⟨rfl, b12⟩
    rw [hro.out, hrn.out]
    have G12 := G.below b12 G.lt
    have m0 : (w12).cell? ⟨w11.heap.size, 0, none⟩ = some (.int .i64 u.kind) := G12.cell 0
    have m1 : (w12).cell? ⟨w11.heap.size, 1, none⟩ = some (.int .i64 u.field) := G12.cell 1
    have m2 : (w12).cell? ⟨w11.heap.size, 2, none⟩ = some (.int .i64 u.value) := G12.cell 2
    have m3 : (w12).cell? ⟨w11.heap.size, 3, none⟩ = some (.slice A3 u.list.length c3) := G12.cell 3
    have m4 : (w12).cell? ⟨w11.heap.size, 4, none⟩ = some (.slice E3 u.pairs.length d3) := G12.cell 4
    have lG := G12.lt
    have HU12 := Lib.hid (HU.out.on RI.keeps b12)
    have HV12 := Lib.hid (HV.out.on RP.keeps b12)
    clear HU HV G
    go_wp2_with fail
    refine (specRankOfValue _ HU12.out HV12.out g1 g2 g3 fn).mono ?_
    rintro e w13 ⟨rfl, b13⟩
    rw [hro.out, hrn.out]
    clear G12 m0 m1 m2 m3 m4 lG HU12 HV12 hro hrn
    have bb := b12.trans (b13.mono b12.size)
    have S0 := R0.out.below bb R0.out.lt
    have S1 := R1.out.below bb R1.out.lt
    have S2 := R2.out.below bb R2.out.lt
    have g0 : (w13).cell? ⟨w9.heap.size, 0, none⟩ = some (.int .i64 x.kind) := S0.cell 0
    have g1 : (w13).cell? ⟨w9.heap.size, 1, none⟩ = some (.int .i64 x.field) := S0.cell 1
    have g2 : (w13).cell? ⟨w9.heap.size, 2, none⟩ = some (.int .i64 x.value) := S0.cell 2
    have g3 : (w13).cell? ⟨w9.heap.size, 3, none⟩ = some (.slice A x.list.length c) := S0.cell 3
    have g4 : (w13).cell? ⟨w9.heap.size, 4, none⟩ = some (.slice E x.pairs.length d) := S0.cell 4
    have h0 : (w13).cell? ⟨w9.heap.size + 1, 0, none⟩ = some (.int .i64 y.id) := S1.cell 0
    have h1 : (w13).cell? ⟨w9.heap.size + 1, 1, none⟩ = some (.slice A1 y.vals.length c1) := S1.cell 1
    have i0 : (w13).cell? ⟨w9.heap.size + 1 + 1, 0, none⟩ = some (.int .i64 z.id) := S2.cell 0
    have i1 : (w13).cell? ⟨w9.heap.size + 1 + 1, 1, none⟩ = some (.slice A2 z.vals.length c2) := S2.cell 1
    have l0 := S0.lt
    have l1 := S1.lt
    have l2 := S2.lt
    have HX13 := Lib.hid (HX.on RI.keeps bb)
    have HP13 := Lib.hid (HP.on RP.keeps bb)
    have HY13 := Lib.hid (HY.on RI.keeps bb)
    have HZ13 := Lib.hid (HZ.on RI.keeps bb)
    have B13 := Lib.hid (B11.trans (bb.mono B11.size))
    have CA : Hid (∀ w : World, Sl RI 1 w w.heap.size A x.list.length c x.list → Sl RP 2 w w.heap.size E x.pairs.length d x.pairs → Sl RI 1 w w.heap.size A1 y.vals.length c1 y.vals → Sl RI 1 w w.heap.size A2 z.vals.length c2 z.vals → Calls Try.prog 15 #[.agg #[.int .i64 x.kind, .int .i64 x.field, .int .i64 x.value, .slice A x.list.length c, .slice E x.pairs.length d], .agg #[.int .i64 y.id, .slice A1 y.vals.length c1], .agg #[.int .i64 z.id, .slice A2 z.vals.length c2]] w fun e w' => e = .returned (.int .i64 ci) ∧ Below w.heap.size w w') := fun w h g h1 h2 => by rw [← hci.out]; exact implCompareItems w h g f1 f2 f3 h1 fy h2 fz
    have CB : Hid (∀ w : World, Sl RI 1 w w.heap.size A x.list.length c x.list → Sl RP 2 w w.heap.size E x.pairs.length d x.pairs → Sl RI 1 w w.heap.size A1 y.vals.length c1 y.vals → Sl RI 1 w w.heap.size A2 z.vals.length c2 z.vals → Calls Try.prog 16 #[.agg #[.int .i64 x.kind, .int .i64 x.field, .int .i64 x.value, .slice A x.list.length c, .slice E x.pairs.length d], .agg #[.int .i64 y.id, .slice A1 y.vals.length c1], .agg #[.int .i64 z.id, .slice A2 z.vals.length c2]] w fun e w' => e = .returned (.int .i64 ci) ∧ Below w.heap.size w w') := fun w h g h1 h2 => by rw [← hci.out]; exact specCompareItems w h g f1 f2 f3 h1 fy h2 fz
    have v1 : (ci == ci) = true := by simp
    have v2 : (rn == rn) = true := by simp
    have v3 : (ro == ro) = true := by simp
    clear bb b12 b13 B11 HX HP HY HZ S0 S1 S2 R0 R1 R2
    go_wp2_with fail
    refine wp_region_qb (by kernel_rfl) (by kernel_rfl) ?_; (repeat (go_big_quiet_step ((first | (go_at_call 15; with_reducible exact quietB (CA.out _ (HX13.out.gr RI.keeps _ _) (HP13.out.gr RP.keeps _ _) (HY13.out.gr RI.keeps _ _) (HZ13.out.gr RI.keeps _ _))) | (go_at_call 16; with_reducible exact quietB (CB.out _ (HX13.out.gr RI.keeps _ _) (HP13.out.gr RP.keeps _ _) (HY13.out.gr RI.keeps _ _) (HZ13.out.gr RI.keeps _ _))))))); refine wpQuiet_nil ?_; intro w14 hb14
    go_wp2
    go_ret
    exact ⟨rfl, B13.out.trans (hb14.mono B13.out.size)⟩
  · have s0 : ¬ r1 < r2 := by omega
    have s1 : ¬ r1 = r2 := by omega
    have s2 : (r1 == r2) = false := by simp [s1]
    clear WL KEY
    go_wp2_with fail
    refine (drawCI _ (HS.out.on RB.keeps B8.out) hn0).mono ?_
    rintro e w9 ⟨x, A, c, E, d, y, A1, c1, z, A2, c2, rfl, hs, ht, HFX, ⟨hy, fy⟩, ⟨hz, fz⟩, b9⟩
    obtain ⟨f1, f2, f3, f4, f5⟩ := HFX.out
    have S0 := ((Row.new w9 27 [.int .i64 x.kind, .int .i64 x.field, .int .i64 x.value, .slice A x.list.length c, .slice E x.pairs.length d]).alloc (.cells #[.int .i64 y.id, .slice A1 y.vals.length c1] 36)).alloc (.cells #[.int .i64 z.id, .slice A2 z.vals.length c2] 36)
    have S1 := (Row.new (w9.alloc (.cells #[.int .i64 x.kind, .int .i64 x.field, .int .i64 x.value, .slice A x.list.length c, .slice E x.pairs.length d] 27)) 36 [.int .i64 y.id, .slice A1 y.vals.length c1]).alloc (.cells #[.int .i64 z.id, .slice A2 z.vals.length c2] 36)
    have S2 := Row.new ((w9.alloc (.cells #[.int .i64 x.kind, .int .i64 x.field, .int .i64 x.value, .slice A x.list.length c, .slice E x.pairs.length d] 27)).alloc (.cells #[.int .i64 y.id, .slice A1 y.vals.length c1] 36)) 36 [.int .i64 z.id, .slice A2 z.vals.length c2]
    have e1 : (w9.alloc (.cells #[.int .i64 x.kind, .int .i64 x.field, .int .i64 x.value, .slice A x.list.length c, .slice E x.pairs.length d] 27)).heap.size = w9.heap.size + 1 := by simp
    have e2 : ((w9.alloc (.cells #[.int .i64 x.kind, .int .i64 x.field, .int .i64 x.value, .slice A x.list.length c, .slice E x.pairs.length d] 27)).alloc (.cells #[.int .i64 y.id, .slice A1 y.vals.length c1] 36)).heap.size = w9.heap.size + 1 + 1 := by simp
    rw [e1] at S1
    rw [e2] at S2
    clear e1 e2
    have bt := ((((Below.refl w9.heap.size w9).alloc (Nat.le_refl _) (.cells #[.int .i64 x.kind, .int .i64 x.field, .int .i64 x.value, .slice A x.list.length c, .slice E x.pairs.length d] 27)).alloc (by simp) (.cells #[.int .i64 y.id, .slice A1 y.vals.length c1] 36)).alloc (by simp; try omega) (.cells #[.int .i64 z.id, .slice A2 z.vals.length c2] 36))
    have HX9 := Lib.hid (hs.on RI.keeps bt)
    have HP9 := Lib.hid (ht.on RP.keeps bt)
    have HY9 := Lib.hid (hy.on RI.keeps bt)
    have HZ9 := Lib.hid (hz.on RI.keeps bt)
    have B9 := B8.out.trans ((b9.trans (bt.mono b9.size)).mono B8.out.size)
    obtain ⟨w10, hw10⟩ : ∃ w10, ((w9.alloc (.cells #[.int .i64 x.kind, .int .i64 x.field, .int .i64 x.value, .slice A x.list.length c, .slice E x.pairs.length d] 27)).alloc (.cells #[.int .i64 y.id, .slice A1 y.vals.length c1] 36)).alloc (.cells #[.int .i64 z.id, .slice A2 z.vals.length c2] 36) = w10 := ⟨_, rfl⟩
    rw [hw10] at S0 S1 S2 HX9 HP9 HY9 HZ9 B9
    have HW10 := Lib.hid hw10
    clear hw10 hs ht hy hz b9 bt
    go_wp2_with fail
    rw [HW10.out]
    refine (drawRV _ (HS.out.on RB.keeps B9) hn0).mono ?_
    rintro e w11 ⟨u, A3, c3, E3, d3, n, rfl, hu, hv, HFU, fn, b11⟩
    have S0 := S0.below b11 S0.lt
    have S1 := S1.below b11 S1.lt
    have S2 := S2.below b11 S2.lt
    have HX := HX9.out.on RI.keeps b11
    have HP := HP9.out.on RP.keeps b11
    have HY := HY9.out.on RI.keeps b11
    have HZ := HZ9.out.on RI.keeps b11
    have B11 := B9.trans (b11.mono B9.size)
    clear HX9 HP9 HY9 HZ9 B9 b11
    have bu := (Below.refl w11.heap.size w11).alloc (Nat.le_refl _) (.cells #[.int .i64 u.kind, .int .i64 u.field, .int .i64 u.value, .slice A3 u.list.length c3, .slice E3 u.pairs.length d3] 27)
    have G := Row.new w11 27 [.int .i64 u.kind, .int .i64 u.field, .int .i64 u.value, .slice A3 u.list.length c3, .slice E3 u.pairs.length d3]
    have S0 := S0.below bu S0.lt
    have S1 := S1.below bu S1.lt
    have S2 := S2.below bu S2.lt
    have HX := HX.on RI.keeps bu
    have HP := HP.on RP.keeps bu
    have HY := HY.on RI.keeps bu
    have HZ := HZ.on RI.keeps bu
    have HU := Lib.hid (hu.on RI.keeps bu)
    have HV := Lib.hid (hv.on RP.keeps bu)
    have B11 := B11.trans (bu.mono B11.size)
    obtain ⟨g1, g2, g3, g4, g5⟩ := HFU.out
    obtain ⟨ro, hro⟩ : ∃ ro, Hid (rovB u n = ro) := ⟨_, rfl⟩
    obtain ⟨rn, hrn⟩ : ∃ rn, Hid (rovN u n = rn) := ⟨_, rfl⟩
    obtain ⟨ci, hci⟩ : ∃ ci, Hid (P.cmpIs x y z = ci) := ⟨_, rfl⟩
    clear hu hv bu
    have R0 := Lib.hid S0
    have R1 := Lib.hid S1
    have R2 := Lib.hid S2
    clear S0 S1 S2
    go_wp2_with fail
    refine (implRankOfValue _ HU.out HV.out g1 g2 g3 fn).mono ?_
    rintro e w12 ⟨rfl, b12⟩
    rw [hro.out, hrn.out]
    have G12 := G.below b12 G.lt
    have m0 : (w12).cell? ⟨w11.heap.size, 0, none⟩ = some (.int .i64 u.kind) := G12.cell 0
    have m1 : (w12).cell? ⟨w11.heap.size, 1, none⟩ = some (.int .i64 u.field) := G12.cell 1
    have m2 : (w12).cell? ⟨w11.heap.size, 2, none⟩ = some (.int .i64 u.value) := G12.cell 2
    have m3 : (w12).cell? ⟨w11.heap.size, 3, none⟩ = some (.slice A3 u.list.length c3) := G12.cell 3
    have m4 : (w12).cell? ⟨w11.heap.size, 4, none⟩ = some (.slice E3 u.pairs.length d3) := G12.cell 4
    have lG := G12.lt
    have HU12 := Lib.hid (HU.out.on RI.keeps b12)
    have HV12 := Lib.hid (HV.out.on RP.keeps b12)
    clear HU HV G
    go_wp2_with fail
    refine (specRankOfValue _ HU12.out HV12.out g1 g2 g3 fn).mono ?_
    rintro e w13 ⟨rfl, b13⟩
    rw [hro.out, hrn.out]
    clear G12 m0 m1 m2 m3 m4 lG HU12 HV12 hro hrn
    have bb := b12.trans (b13.mono b12.size)
    have S0 := R0.out.below bb R0.out.lt
    have S1 := R1.out.below bb R1.out.lt
    have S2 := R2.out.below bb R2.out.lt
    have g0 : (w13).cell? ⟨w9.heap.size, 0, none⟩ = some (.int .i64 x.kind) := S0.cell 0
    have g1 : (w13).cell? ⟨w9.heap.size, 1, none⟩ = some (.int .i64 x.field) := S0.cell 1
    have g2 : (w13).cell? ⟨w9.heap.size, 2, none⟩ = some (.int .i64 x.value) := S0.cell 2
    have g3 : (w13).cell? ⟨w9.heap.size, 3, none⟩ = some (.slice A x.list.length c) := S0.cell 3
    have g4 : (w13).cell? ⟨w9.heap.size, 4, none⟩ = some (.slice E x.pairs.length d) := S0.cell 4
    have h0 : (w13).cell? ⟨w9.heap.size + 1, 0, none⟩ = some (.int .i64 y.id) := S1.cell 0
    have h1 : (w13).cell? ⟨w9.heap.size + 1, 1, none⟩ = some (.slice A1 y.vals.length c1) := S1.cell 1
    have i0 : (w13).cell? ⟨w9.heap.size + 1 + 1, 0, none⟩ = some (.int .i64 z.id) := S2.cell 0
    have i1 : (w13).cell? ⟨w9.heap.size + 1 + 1, 1, none⟩ = some (.slice A2 z.vals.length c2) := S2.cell 1
    have l0 := S0.lt
    have l1 := S1.lt
    have l2 := S2.lt
    have HX13 := Lib.hid (HX.on RI.keeps bb)
    have HP13 := Lib.hid (HP.on RP.keeps bb)
    have HY13 := Lib.hid (HY.on RI.keeps bb)
    have HZ13 := Lib.hid (HZ.on RI.keeps bb)
    have B13 := Lib.hid (B11.trans (bb.mono B11.size))
    have CA : Hid (∀ w : World, Sl RI 1 w w.heap.size A x.list.length c x.list → Sl RP 2 w w.heap.size E x.pairs.length d x.pairs → Sl RI 1 w w.heap.size A1 y.vals.length c1 y.vals → Sl RI 1 w w.heap.size A2 z.vals.length c2 z.vals → Calls Try.prog 15 #[.agg #[.int .i64 x.kind, .int .i64 x.field, .int .i64 x.value, .slice A x.list.length c, .slice E x.pairs.length d], .agg #[.int .i64 y.id, .slice A1 y.vals.length c1], .agg #[.int .i64 z.id, .slice A2 z.vals.length c2]] w fun e w' => e = .returned (.int .i64 ci) ∧ Below w.heap.size w w') := fun w h g h1 h2 => by rw [← hci.out]; exact implCompareItems w h g f1 f2 f3 h1 fy h2 fz
    have CB : Hid (∀ w : World, Sl RI 1 w w.heap.size A x.list.length c x.list → Sl RP 2 w w.heap.size E x.pairs.length d x.pairs → Sl RI 1 w w.heap.size A1 y.vals.length c1 y.vals → Sl RI 1 w w.heap.size A2 z.vals.length c2 z.vals → Calls Try.prog 16 #[.agg #[.int .i64 x.kind, .int .i64 x.field, .int .i64 x.value, .slice A x.list.length c, .slice E x.pairs.length d], .agg #[.int .i64 y.id, .slice A1 y.vals.length c1], .agg #[.int .i64 z.id, .slice A2 z.vals.length c2]] w fun e w' => e = .returned (.int .i64 ci) ∧ Below w.heap.size w w') := fun w h g h1 h2 => by rw [← hci.out]; exact specCompareItems w h g f1 f2 f3 h1 fy h2 fz
    have v1 : (ci == ci) = true := by simp
    have v2 : (rn == rn) = true := by simp
    have v3 : (ro == ro) = true := by simp
    clear bb b12 b13 B11 HX HP HY HZ S0 S1 S2 R0 R1 R2
    go_wp2_with fail
    refine wp_region_qb (by kernel_rfl) (by kernel_rfl) ?_; (repeat (go_big_quiet_step ((first | (go_at_call 15; with_reducible exact quietB (CA.out _ (HX13.out.gr RI.keeps _ _) (HP13.out.gr RP.keeps _ _) (HY13.out.gr RI.keeps _ _) (HZ13.out.gr RI.keeps _ _))) | (go_at_call 16; with_reducible exact quietB (CB.out _ (HX13.out.gr RI.keeps _ _) (HP13.out.gr RP.keeps _ _) (HY13.out.gr RI.keeps _ _) (HZ13.out.gr RI.keeps _ _))))))); refine wpQuiet_nil ?_; intro w14 hb14
    go_wp2
    go_ret
    exact ⟨rfl, B13.out.trans (hb14.mono B13.out.size)⟩
end Go.Proofs.Ytpnbpjgnehcdbaa.Wk

namespace Go.Proofs.Ytpnbpjgnehcdbaa
open Go Go.RowKit Go.ChangeShapes Go.WideShapes Go.Deep Go.Proofs.Ytpnbpjgnehcdbaa.M

theorem cells_byte : Try.prog.cellsOf 5 = 1 := by kernel_rfl
section
variable {H : Type} {enc : TypeId × Value → H} {W : World} {b0 : Nat} {v : Value} {d : DataW H} {p : List MemPlace}
theorem op_byte {P : Program} {w : World} {base : Nat} {spare : Nat → Bool} {held : Bool} {e : TypeId} (he : P.underlying e = some (.int .u8)) {fuel : Nat} {cs : List Value} {x : DataW H × List MemPlace} (h : DataW.trod enc P w base spare held fuel e cs = some x) : ∃ a, RB w w.heap.size a cs := by
  obtain ⟨n, hcs, _, hw⟩ := DataW.trod_int he h
  simp [Lit.wf, IntKind.min, IntKind.max, IntKind.signed, IntKind.bits] at hw
  refine ⟨UInt8.ofNat n.toNat, ?_⟩
  show cs = [.int .u8 ((UInt8.ofNat n.toNat).toNat : Int)]
  have e : ((UInt8.ofNat n.toNat).toNat : Int) = n := by
    rw [UInt8.toNat_ofNat']
    omega
  rw [e]; exact hcs
set_option maxRecDepth 100000 in
theorem open_bytes (hv : Value.okWide Try.prog W .any b0 22 v) (h : DataW.Trod enc Try.prog W 0 (fun _ => true) true 22 v d p) : ∃ l, V RB 1 W W.heap.size v l :=
  trod_slice_V Try.underlying22 cells_byte (by omega) (fun _ _ _ hh => op_byte Try.underlying5 hh) hv h
end
end Go.Proofs.Ytpnbpjgnehcdbaa

namespace Go.Proofs.Ytpnbpjgnehcdbaa.LFnWishes
open Go.ChangeShapes Go.WideShapes Go.ChangeAt Go.RowKit
open Go.ChangeMaps (open_string shut_string)
set_option linter.unusedVariables false

theorem own : ownKnob Try.prog.godebug = none := by kernel_rfl
theorem laidOut : laidOutB Try.prog = true := by kernel_rfl

set_option maxRecDepth 100000 in
theorem lifted (os : Os) (started : os.Started) (H : Type) (enc : TypeId × Value → H) :
    ReturnsInHanded {} Try.checked os 3 .any (Rows.fnWishesSpec.pre6 enc Try.prog Try.f3 Rows.fnWishesRow.domain false) (Rows.fnWishesSpec.post enc Try.prog Try.f3 false true false false) := by
  refine returnsInHanded_of_change (C := Try.checked) own started (by kernel_rfl) Try.func3
    (ChangeSpec.witness6 (enc := enc) (C := Try.checked) false ⟨#[], #[.slice none 0 0], []⟩ 8 (by kernel_rfl) (by kernel_rfl) (by kernel_rfl) (by kernel_rfl)) ?_
  intro W base args ds gs before hval0 hW hcnd _
  have hval : ∀ (j : Nat) t v, Try.f3.params[j]? = some t → args[j]? = some v → Value.okWide Try.prog W .any base t v := hval0
  have hW' := hW
  obtain ⟨p, q, hA0, hV, rfl, hfz, hnd⟩ := hW
  have hA : DataW.TrodAll enc Try.prog W 0 (fun _ => true) true Try.f3.params.toList args.toList ds p := hA0
  rw [Try.params3] at hA hval
  obtain ⟨v0, vs0, d0, ds0, p0, q0, hargs, rfl, rfl, h0, r0⟩ := trodAll_cons hA
  obtain ⟨rfl, rfl, rfl⟩ := trodAll_nil r0
  obtain rfl : args = #[v0] := by cases args; simp_all
  obtain ⟨rfl, rfl⟩ := trodVars_none hV
  have k0 := h0
  have lt0 : ∀ x ∈ p0, x.block < W.heap.size := by obtain ⟨m, hm⟩ := k0; exact DataW.trod_lt m _ _ _ hm
  obtain ⟨l0, w0⟩ := open_bytes (hval 0 22 v0 rfl rfl) h0
  clear hA0 hval0
  refine (Wk.FnWishes (w := W) v0 l0 w0).mono fun e W' ⟨he, bel⟩ => ?_
  subst he
  exact ⟨_, rfl, _, _, _, [], _, [], hW', trodAll_mk1 (shut_bool Try.underlying4 _), (trodAll_cons_mk (Below.trod laidOut (by kernel_rfl) (of_decide_eq_true (by kernel_rfl)) k0 bel lt0) trodAll_mk0), rfl, bel.frame _, fun h => by cases h⟩

/-- The given statement. -/
theorem proved : Rows.FnWishesSaid :=
  OpenClaim.holds_of_wide 3 Try.f3 rfl rfl rfl rfl rfl rfl rfl ⟨rfl, rfl, rfl, rfl, rfl⟩ rfl rfl rfl rfl rfl (by as_aux_lemma => kernel_rfl) Try.func3 (by as_aux_lemma => kernel_rfl)
    (of_decide_eq_true (by as_aux_lemma => kernel_rfl)) (by unfold Func.isWrapper; first | (rw [if_pos (by decide +kernel)]; kernel_rfl) | (rw [if_neg (by decide +kernel)]; exact ⟨rfl, rfl⟩))
    (fun os started H enc _ => lifted os started H enc)
#print axioms proved
end Go.Proofs.Ytpnbpjgnehcdbaa.LFnWishes
