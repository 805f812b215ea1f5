/-
  Walks of chapter 4: ranks, values and items compared.
  Conditions: none beyond the bounds that each states.
-/
import Derived.Test.YtgjghpaenliliaaW41
import Derived.Test.YtgjghpaenliliaaW33
namespace Go.Proofs.Ytgjghpaenliliaa.Wk
open Go.RowKit Go.Proofs.Ytgjghpaenliliaa.M
set_option linter.unusedVariables false
attribute [local go_sem] cell_grow

theorem ret_two {a b : Int} {p q : Bool} (h : a = b ∧ p = q) : Ending.returned (.tuple #[.int .i64 a, .bool p]) = .returned (.tuple #[.int .i64 b, .bool q]) := by rw [h.1, h.2]
theorem indexInts {A : Option Addr} {n c : Nat} {xs : List Int} {x : Int} (w : World) (h : Sl RI 1 w w.heap.size A n c xs) : Calls Try.prog 114 #[.slice A n c, .int .i64 x] w fun e w' => e = .returned (.bool (decide (x ∈ xs))) ∧ w = w' := by
  have hIx : Calls Try.prog 115 #[.slice A n c, .int .i64 x] w fun e w' => (∃ k : Int, (0 ≤ k ↔ x ∈ xs) ∧ e = .returned (.int .i64 k)) ∧ w = w' := by
    have m1 := Nat.le_trans h.le h.max
    unfold maxLen at m1
    have HL := Lib.hid h.len
    go_enter Try.func115, Try.ntmps115
    go_wp2
    go_loop [5, 8] (fun va vk => ∃ k : Nat, k ≤ n ∧ vk = .int .i64 k ∧ Hid (∀ i y, i < k → xs[i]? = some y → x ≠ y)) (fun _ vk => n - (intOf vk).toNat)
    case atStart => exact ⟨0, Nat.zero_le _, rfl, fun i y hi => absurd hi (by omega)⟩
    case round =>
      obtain ⟨k, hk, rfl, hup⟩ := hrel
      by_cases hlt : k < n
      · obtain ⟨b, o, y, rfl, hb, hy, hf, hc⟩ := h.int hlt
        have HY := Lib.hid hy
        clear hy h
        by_cases hxy : x = y
        · have q : (x == y) = true := by simpa using hxy
          have HE : Hid (x ∈ xs) := by rw [hxy]; exact List.mem_of_getElem? HY.out
          clear hxy
          go_wp2
          go_ret
          exact ⟨⟨_, by simp [HE.out], rfl⟩, rfl⟩
        · have q : (x == y) = false := by simpa using hxy
          have HU := Lib.hid (P.before_step (Q := fun y => x ≠ y) hup.out HY.out hxy)
          clear hxy
          go_wp2
          go_round
          case rel => exact ⟨k + 1, by omega, by go_num, HU⟩
          case measure => simp [intOf]; omega
      · have HE : Hid (¬ x ∈ xs) := by
          intro hm
          obtain ⟨i, hi⟩ := List.getElem?_of_mem hm
          exact hup.out i x (by have := (List.getElem?_eq_some_iff.1 hi).1; have := HL.out; omega) hi rfl
        clear h
        go_wp2
        go_ret
        exact ⟨⟨_, by simp [HE.out], rfl⟩, rfl⟩
  go_enter Try.func114, Try.ntmps114
  go_wp2_with fail
  refine hIx.mono ?_
  rintro e w2 ⟨⟨k, hk, rfl⟩, rfl⟩
  by_cases h0 : 0 ≤ k
  · have q : decide (0 ≤ k) = true := by simpa using h0
    have HE : Hid (decide (x ∈ xs) = true) := decide_eq_true (hk.1 h0)
    clear hk h0 h hIx
    go_wp2
    go_ret
    exact ⟨ret_bool HE.out.symm, rfl⟩
  · have q : decide (0 ≤ k) = false := by simpa using h0
    have HE : Hid (decide (x ∈ xs) = false) := decide_eq_false (fun hm => h0 (hk.2 hm))
    clear hk h0 h hIx
    go_wp2
    go_ret
    exact ⟨ret_bool HE.out.symm, rfl⟩
set_option maxHeartbeats 1600000 in
theorem l4Rank {A E : Option Addr} {n c m d : Nat} {x : Wi} {v : Int} (w : World) (h : Sl RI 1 w w.heap.size A n c x.list) (hx : 0 ≤ x.value ∧ x.value ≤ 9) (hv : 0 ≤ v ∧ v ≤ 9) :
    Calls Try.prog 94 #[.agg #[.int .i64 x.kind, .int .i64 x.field, .int .i64 x.value, .slice A n c, .slice E m d], .int .i64 v] w fun e w' => e = .returned (.int .i64 (P.rank x v)) ∧ Below w.heap.size w w' := by
  have BW := (Below.refl w.heap.size w).alloc (Nat.le_refl _) (.cells #[.int .i64 x.kind, .int .i64 x.field, .int .i64 x.value, .slice A n c, .slice E m d] 53)
  have H := Lib.hid (h.on RI.keeps BW)
  obtain ⟨x0, x1⟩ := hx
  obtain ⟨v0, v1⟩ := hv
  clear h
  by_cases k0 : x.kind = 0
  · have t0 : (x.kind == 0) = true := by simpa using k0
    have HE : Hid (P.rank x v = v) := by show _ = _; unfold P.rank; rw [if_pos k0]
    clear k0
    go_enter Try.func94, Try.ntmps94
    go_wp2
    go_ret
    exact ⟨ret_int HE.out.symm, BW⟩
  · have t0 : (x.kind == 0) = false := by simpa using k0
    by_cases k1 : x.kind = 1
    · have t1 : (x.kind == 1) = true := by simpa using k1
      have HE : Hid (P.rank x v = 9 - v) := by show _ = _; unfold P.rank; rw [if_neg k0, if_pos k1]
      clear k0 k1
      go_enter Try.func94, Try.ntmps94
      go_wp2
      go_ret
      exact ⟨ret_int HE.out.symm, BW⟩
    · have t1 : (x.kind == 1) = false := by simpa using k1
      by_cases k2 : x.kind = 2
      · have t2 : (x.kind == 2) = true := by simpa using k2
        have HE : Hid (P.rank x v = max (v - x.value) (x.value - v)) := by show _ = _; unfold P.rank; rw [if_neg k0, if_neg k1, if_pos k2]
        clear k0 k1 k2
        go_enter Try.func94, Try.ntmps94
        go_wp2
        all_goals
          go_ret
          exact ⟨ret_int (by rw [HE.out]; omega), BW⟩
      · have t2 : (x.kind == 2) = false := by simpa using k2
        by_cases hm : v ∈ x.list
        · have q : decide (v ∈ x.list) = true := by simpa using hm
          have HE : Hid (P.rank x v = 0) := by show _ = _; unfold P.rank; rw [if_neg k0, if_neg k1, if_neg k2, if_pos hm]
          clear k0 k1 k2 hm
          go_enter Try.func94, Try.ntmps94
          go_wp2_with (go_at_call 109; refine (l2Has _ H.out).mono ?_; rintro e w' ⟨rfl, rfl⟩; rw [q])
          go_ret
          exact ⟨ret_int HE.out.symm, BW⟩
        · have q : decide (v ∈ x.list) = false := by simpa using hm
          have HE : Hid (P.rank x v = 1) := by show _ = _; unfold P.rank; rw [if_neg k0, if_neg k1, if_neg k2, if_neg hm]
          clear k0 k1 k2 hm
          go_enter Try.func94, Try.ntmps94
          go_wp2_with (go_at_call 109; refine (l2Has _ H.out).mono ?_; rintro e w' ⟨rfl, rfl⟩; rw [q])
          go_ret
          exact ⟨ret_int HE.out.symm, BW⟩
/-- What RankOfValue answers. -/
noncomputable def rovB (x : Wi) (v : Int) : Bool := P.okW x && !decide (x.kind = 4) && P.inR v 0 9
noncomputable def rovN (x : Wi) (v : Int) : Int := if rovB x v then P.rank x v else 0
theorem rov_no {x : Wi} {v : Int} (h : rovB x v = false) : (0 : Int) = rovN x v ∧ false = rovB x v := by unfold rovN; rw [h]; exact ⟨rfl, rfl⟩
theorem rov_yes {x : Wi} {v r : Int} (h : rovB x v = true) (hr : P.rank x v = r) : r = rovN x v ∧ true = rovB x v := by unfold rovN; rw [h, ← hr]; exact ⟨rfl, rfl⟩
theorem rovB_mk {x : Wi} {v : Int} (h1 : P.okW x = true) (h2 : x.kind ≠ 4) (h3 : P.inR v 0 9 = true) : rovB x v = true := by unfold rovB; rw [h1, h3]; simp [h2]
set_option maxHeartbeats 3200000 in
theorem implRankOfValue {A E : Option Addr} {n c m d : Nat} {x : Wi} {v : Int} (w : World) (h : Sl RI 1 w w.heap.size A n c x.list) (g : Sl RP 2 w w.heap.size E m d x.pairs) (f1 : Fit x.kind) (f2 : Fit x.field) (f3 : Fit x.value) (fv : Fit v) :
    Calls Try.prog 110 #[.agg #[.int .i64 x.kind, .int .i64 x.field, .int .i64 x.value, .slice A n c, .slice E m d], .int .i64 v] w fun e w' => e = .returned (.tuple #[.int .i64 (rovN x v), .bool (rovB x v)]) ∧ Below w.heap.size w w' := by
  have BW := (Below.refl w.heap.size w).alloc (Nat.le_refl _) (.cells #[.int .i64 x.kind, .int .i64 x.field, .int .i64 x.value, .slice A n c, .slice E m d] 53)
  have H := Lib.hid (h.on RI.keeps BW)
  have G := Lib.hid (g.on RP.keeps BW)
  have hsz := BW.size
  clear h g
  cases hok : P.okW x with
  | false =>
    have HE := Lib.hid (rov_no (x := x) (v := v) (by unfold rovB; rw [hok]; rfl))
    go_enter Try.func110, Try.ntmps110
    go_wp2_with (go_at_call 63; refine (implIsWish _ H.out G.out).mono ?_; rintro e w2 ⟨rfl, b2⟩; rw [hok])
    go_ret2
    exact ⟨ret_two HE.out, BW.trans (b2.mono hsz)⟩
  | true =>
    obtain ⟨x0, x1⟩ := P.okW_value hok
    cases hr : P.inR v 0 9 with
    | false =>
      have HE := Lib.hid (rov_no (x := x) (v := v) (by unfold rovB; rw [hr]; simp))
      clear x0
      go_enter Try.func110, Try.ntmps110
      go_wp2_with fail
      refine (implIsWish _ H.out G.out).mono ?_
      rintro e w2 ⟨rfl, b2⟩
      rw [hok]
      have hC := cell_of b2
      have z1 : w.heap.size < w2.heap.size := by have := b2.size; simp at this; omega
      have H2 := Lib.hid (H.out.on RI.keeps b2)
      go_wp2_with (first | (go_at_call 42; refine (within _ _ _ _).mono ?_; rintro e w' ⟨rfl, rfl⟩))
      go_ret2
      exact ⟨ret_two HE.out, BW.trans (b2.mono hsz)⟩
    | true =>
      obtain ⟨v0, v1⟩ := P.inR_t hr
      obtain ⟨kk0, kk4⟩ := P.okW_kind hok
      by_cases k0 : x.kind = 0
      · have t0 : (x.kind == 0) = true := by simpa using k0
        have HE := Lib.hid (rov_yes (r := v) (rovB_mk hok (by omega) hr) (by unfold P.rank; rw [if_pos k0]))
        clear k0
        go_enter Try.func110, Try.ntmps110
        go_wp2_with fail
        refine (implIsWish _ H.out G.out).mono ?_
        rintro e w2 ⟨rfl, b2⟩
        rw [hok]
        have hC := cell_of b2
        have z1 : w.heap.size < w2.heap.size := by have := b2.size; simp at this; omega
        have H2 := Lib.hid (H.out.on RI.keeps b2)
        go_wp2_with (first | (go_at_call 42; refine (within _ _ _ _).mono ?_; rintro e w' ⟨rfl, rfl⟩))
        go_ret2
        exact ⟨ret_two HE.out, BW.trans (b2.mono hsz)⟩
      · have t0 : (x.kind == 0) = false := by simpa using k0
        by_cases k1 : x.kind = 1
        · have t1 : (x.kind == 1) = true := by simpa using k1
          have HE := Lib.hid (rov_yes (r := 9 - v) (rovB_mk hok (by omega) hr) (by unfold P.rank; rw [if_neg k0, if_pos k1]))
          clear k0 k1
          go_enter Try.func110, Try.ntmps110
          go_wp2_with fail
          refine (implIsWish _ H.out G.out).mono ?_
          rintro e w2 ⟨rfl, b2⟩
          rw [hok]
          have hC := cell_of b2
          have z1 : w.heap.size < w2.heap.size := by have := b2.size; simp at this; omega
          have H2 := Lib.hid (H.out.on RI.keeps b2)
          go_wp2_with (first | (go_at_call 42; refine (within _ _ _ _).mono ?_; rintro e w' ⟨rfl, rfl⟩))
          go_ret2
          exact ⟨ret_two HE.out, BW.trans (b2.mono hsz)⟩
        · have t1 : (x.kind == 1) = false := by simpa using k1
          by_cases k2 : x.kind = 2
          · have t2 : (x.kind == 2) = true := by simpa using k2
            have HE := Lib.hid (rov_yes (r := max (v - x.value) (x.value - v)) (rovB_mk hok (by omega) hr) (by unfold P.rank; rw [if_neg k0, if_neg k1, if_pos k2]))
            clear k0 k1 k2
            go_enter Try.func110, Try.ntmps110
            go_wp2_with fail
            refine (implIsWish _ H.out G.out).mono ?_
            rintro e w2 ⟨rfl, b2⟩
            rw [hok]
            have hC := cell_of b2
            have z1 : w.heap.size < w2.heap.size := by have := b2.size; simp at this; omega
            have H2 := Lib.hid (H.out.on RI.keeps b2)
            go_wp2_with (first | (go_at_call 42; refine (within _ _ _ _).mono ?_; rintro e w' ⟨rfl, rfl⟩))
            all_goals
              go_ret2
              exact ⟨ret_two ⟨by rw [← HE.out.1]; omega, HE.out.2⟩, BW.trans (b2.mono hsz)⟩
          · have t2 : (x.kind == 2) = false := by simpa using k2
            by_cases k3 : x.kind = 3
            · have t3 : (x.kind == 3) = true := by simpa using k3
              by_cases hm : v ∈ x.list
              · have q : decide (v ∈ x.list) = true := by simpa using hm
                have HE := Lib.hid (rov_yes (r := 0) (rovB_mk hok (by omega) hr) (by unfold P.rank; rw [if_neg k0, if_neg k1, if_neg k2, if_pos hm]))
                clear k0 k1 k2 k3 hm
                go_enter Try.func110, Try.ntmps110
                go_wp2_with fail
                refine (implIsWish _ H.out G.out).mono ?_
                rintro e w2 ⟨rfl, b2⟩
                rw [hok]
                have hC := cell_of b2
                have z1 : w.heap.size < w2.heap.size := by have := b2.size; simp at this; omega
                have H2 := Lib.hid (H.out.on RI.keeps b2)
                go_wp2_with (first | (go_at_call 42; refine (within _ _ _ _).mono ?_; rintro e w' ⟨rfl, rfl⟩) | (go_at_call 114; refine (indexInts _ H2.out).mono ?_; rintro e w' ⟨rfl, rfl⟩; rw [q]))
                go_ret2
                exact ⟨ret_two HE.out, BW.trans (b2.mono hsz)⟩
              · have q : decide (v ∈ x.list) = false := by simpa using hm
                have HE := Lib.hid (rov_yes (r := 1) (rovB_mk hok (by omega) hr) (by unfold P.rank; rw [if_neg k0, if_neg k1, if_neg k2, if_neg hm]))
                clear k0 k1 k2 k3 hm
                go_enter Try.func110, Try.ntmps110
                go_wp2_with fail
                refine (implIsWish _ H.out G.out).mono ?_
                rintro e w2 ⟨rfl, b2⟩
                rw [hok]
                have hC := cell_of b2
                have z1 : w.heap.size < w2.heap.size := by have := b2.size; simp at this; omega
                have H2 := Lib.hid (H.out.on RI.keeps b2)
                go_wp2_with (first | (go_at_call 42; refine (within _ _ _ _).mono ?_; rintro e w' ⟨rfl, rfl⟩) | (go_at_call 114; refine (indexInts _ H2.out).mono ?_; rintro e w' ⟨rfl, rfl⟩; rw [q]))
                go_ret2
                exact ⟨ret_two HE.out, BW.trans (b2.mono hsz)⟩
            · have t3 : (x.kind == 3) = false := by simpa using k3
              have HE := Lib.hid (rov_no (x := x) (v := v) (by unfold rovB; simp [show x.kind = 4 by omega]))
              clear k0 k1 k2 k3
              go_enter Try.func110, Try.ntmps110
              go_wp2_with fail
              refine (implIsWish _ H.out G.out).mono ?_
              rintro e w2 ⟨rfl, b2⟩
              rw [hok]
              have hC := cell_of b2
              have z1 : w.heap.size < w2.heap.size := by have := b2.size; simp at this; omega
              have H2 := Lib.hid (H.out.on RI.keeps b2)
              go_wp2_with (first | (go_at_call 42; refine (within _ _ _ _).mono ?_; rintro e w' ⟨rfl, rfl⟩))
              go_ret2
              exact ⟨ret_two HE.out, BW.trans (b2.mono hsz)⟩
end Go.Proofs.Ytgjghpaenliliaa.Wk
