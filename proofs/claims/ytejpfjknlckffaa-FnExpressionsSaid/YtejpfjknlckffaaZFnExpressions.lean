/-
  The given statement on laws.FnExpressions: for every input that the row speaks of, the call returns true and the arguments read as before.
  Conditions: none beyond the row's own.
-/
import Derived.Test.YtejpfjknlckffaaZFnExpressionsA
import Derived.Test.YtejpfjknlckffaaW14
import Derived.Test.YtejpfjknlckffaaM13
import Derived.Test.YtejpfjknlckffaaM11
import Derived.Deep.AppendLies
import Derived.Maps.AppendAt
import Derived.Test.YtejpfjknlckffaaW83
import Derived.Deep.DeepCutAuto
import Derived.Test.YtejpfjknlckffaaO1
import Derived.Test.YtejpfjknlckffaaRows
import Derived.ProofKit
import Derived.OpenShut
import Derived.ShutString
import Derived.ChangeOld
import Derived.Below
namespace Go.Proofs.Ytejpfjknlckffaa.Wk
open Go.RowKit Go.Proofs.Ytejpfjknlckffaa.M
set_option linter.unusedVariables false
attribute [local go_sem] cell_grow

theorem ret_two {a b : Int} {p q : Bool} (h : a = b ∧ p = q) : Ending.returned (.tuple #[.int .i64 a, .bool p]) = .returned (.tuple #[.int .i64 b, .bool q]) := by rw [h.1, h.2]
theorem indexInts {A : Option Addr} {n c : Nat} {xs : List Int} {x : Int} (w : World) (h : Sl RI 1 w w.heap.size A n c xs) : Calls Try.prog 63 #[.slice A n c, .int .i64 x] w fun e w' => e = .returned (.bool (decide (x ∈ xs))) ∧ w = w' := by
  have hIx : Calls Try.prog 64 #[.slice A n c, .int .i64 x] w fun e w' => (∃ k : Int, (0 ≤ k ↔ x ∈ xs) ∧ e = .returned (.int .i64 k)) ∧ w = w' := by
    have m1 := Nat.le_trans h.le h.max
    unfold maxLen at m1
    have HL := Lib.hid h.len
    go_enter Try.func64, Try.ntmps64
    go_wp2
    go_loop [5, 8] (fun va vk => ∃ k : Nat, k ≤ n ∧ vk = .int .i64 k ∧ Hid (∀ i y, i < k → xs[i]? = some y → x ≠ y)) (fun _ vk => n - (intOf vk).toNat)
    case atStart => exact ⟨0, Nat.zero_le _, rfl, fun i y hi => absurd hi (by omega)⟩
    case round =>
      obtain ⟨k, hk, rfl, hup⟩ := hrel
      by_cases hlt : k < n
      · obtain ⟨b, o, y, rfl, hb, hy, hf, hc⟩ := h.int hlt
        have HY := Lib.hid hy
        clear hy h
        by_cases hxy : x = y
        · have q : (x == y) = true := by simpa using hxy
          have HE : Hid (x ∈ xs) := by rw [hxy]; exact List.mem_of_getElem? HY.out
          clear hxy
          go_wp2
          go_ret
          exact ⟨⟨_, by simp [HE.out], rfl⟩, rfl⟩
        · have q : (x == y) = false := by simpa using hxy
          have HU := Lib.hid (P.before_step (Q := fun y => x ≠ y) hup.out HY.out hxy)
          clear hxy
          go_wp2
          go_round
          case rel => exact ⟨k + 1, by omega, by go_num, HU⟩
          case measure => simp [intOf]; omega
      · have HE : Hid (¬ x ∈ xs) := by
          intro hm
          obtain ⟨i, hi⟩ := List.getElem?_of_mem hm
          exact hup.out i x (by have := (List.getElem?_eq_some_iff.1 hi).1; have := HL.out; omega) hi rfl
        clear h
        go_wp2
        go_ret
        exact ⟨⟨_, by simp [HE.out], rfl⟩, rfl⟩
  go_enter Try.func63, Try.ntmps63
  go_wp2_with fail
  refine hIx.mono ?_
  rintro e w2 ⟨⟨k, hk, rfl⟩, rfl⟩
  by_cases h0 : 0 ≤ k
  · have q : decide (0 ≤ k) = true := by simpa using h0
    have HE : Hid (decide (x ∈ xs) = true) := decide_eq_true (hk.1 h0)
    clear hk h0 h hIx
    go_wp2
    go_ret
    exact ⟨ret_bool HE.out.symm, rfl⟩
  · have q : decide (0 ≤ k) = false := by simpa using h0
    have HE : Hid (decide (x ∈ xs) = false) := decide_eq_false (fun hm => h0 (hk.2 hm))
    clear hk h0 h hIx
    go_wp2
    go_ret
    exact ⟨ret_bool HE.out.symm, rfl⟩
set_option maxHeartbeats 1600000 in
theorem l4Rank {A E : Option Addr} {n c m d : Nat} {x : Wi} {v : Int} (w : World) (h : Sl RI 1 w w.heap.size A n c x.list) (hx : 0 ≤ x.value ∧ x.value ≤ 9) (hv : 0 ≤ v ∧ v ≤ 9) :
    Calls Try.prog 55 #[.agg #[.int .i64 x.kind, .int .i64 x.field, .int .i64 x.value, .slice A n c, .slice E m d], .int .i64 v] w fun e w' => e = .returned (.int .i64 (P.rank x v)) ∧ Below w.heap.size w w' := by
  have BW := (Below.refl w.heap.size w).alloc (Nat.le_refl _) (.cells #[.int .i64 x.kind, .int .i64 x.field, .int .i64 x.value, .slice A n c, .slice E m d] 47)
  have H := Lib.hid (h.on RI.keeps BW)
  obtain ⟨x0, x1⟩ := hx
  obtain ⟨v0, v1⟩ := hv
  clear h
  by_cases k0 : x.kind = 0
  · have t0 : (x.kind == 0) = true := by simpa using k0
    have HE : Hid (P.rank x v = v) := by show _ = _; unfold P.rank; rw [if_pos k0]
    clear k0
    go_enter Try.func55, Try.ntmps55
    go_wp2
    go_ret
    exact ⟨ret_int HE.out.symm, BW⟩
  · have t0 : (x.kind == 0) = false := by simpa using k0
    by_cases k1 : x.kind = 1
    · have t1 : (x.kind == 1) = true := by simpa using k1
      have HE : Hid (P.rank x v = 9 - v) := by show _ = _; unfold P.rank; rw [if_neg k0, if_pos k1]
      clear k0 k1
      go_enter Try.func55, Try.ntmps55
      go_wp2
      go_ret
      exact ⟨ret_int HE.out.symm, BW⟩
    · have t1 : (x.kind == 1) = false := by simpa using k1
      by_cases k2 : x.kind = 2
      · have t2 : (x.kind == 2) = true := by simpa using k2
        have HE : Hid (P.rank x v = max (v - x.value) (x.value - v)) := by show _ = _; unfold P.rank; rw [if_neg k0, if_neg k1, if_pos k2]
        clear k0 k1 k2
        go_enter Try.func55, Try.ntmps55
        go_wp2
        all_goals
          go_ret
          exact ⟨ret_int (by rw [HE.out]; omega), BW⟩
      · have t2 : (x.kind == 2) = false := by simpa using k2
        by_cases hm : v ∈ x.list
        · have q : decide (v ∈ x.list) = true := by simpa using hm
          have HE : Hid (P.rank x v = 0) := by show _ = _; unfold P.rank; rw [if_neg k0, if_neg k1, if_neg k2, if_pos hm]
          clear k0 k1 k2 hm
          go_enter Try.func55, Try.ntmps55
          go_wp2_with (go_at_call 62; refine (l2Has _ H.out).mono ?_; rintro e w' ⟨rfl, rfl⟩; rw [q])
          go_ret
          exact ⟨ret_int HE.out.symm, BW⟩
        · have q : decide (v ∈ x.list) = false := by simpa using hm
          have HE : Hid (P.rank x v = 1) := by show _ = _; unfold P.rank; rw [if_neg k0, if_neg k1, if_neg k2, if_neg hm]
          clear k0 k1 k2 hm
          go_enter Try.func55, Try.ntmps55
          go_wp2_with (go_at_call 62; refine (l2Has _ H.out).mono ?_; rintro e w' ⟨rfl, rfl⟩; rw [q])
          go_ret
          exact ⟨ret_int HE.out.symm, BW⟩
/-- What RankOfValue answers. -/
noncomputable def rovB (x : Wi) (v : Int) : Bool := P.okW x && !decide (x.kind = 4) && P.inR v 0 9
noncomputable def rovN (x : Wi) (v : Int) : Int := if rovB x v then P.rank x v else 0
theorem rov_no {x : Wi} {v : Int} (h : rovB x v = false) : (0 : Int) = rovN x v ∧ false = rovB x v := by unfold rovN; rw [h]; exact ⟨rfl, rfl⟩
theorem rov_yes {x : Wi} {v r : Int} (h : rovB x v = true) (hr : P.rank x v = r) : r = rovN x v ∧ true = rovB x v := by unfold rovN; rw [h, ← hr]; exact ⟨rfl, rfl⟩
theorem rovB_mk {x : Wi} {v : Int} (h1 : P.okW x = true) (h2 : x.kind ≠ 4) (h3 : P.inR v 0 9 = true) : rovB x v = true := by unfold rovB; rw [h1, h3]; simp [h2]
set_option maxHeartbeats 3200000 in
theorem implRankOfValue {A E : Option Addr} {n c m d : Nat} {x : Wi} {v : Int} (w : World) (h : Sl RI 1 w w.heap.size A n c x.list) (g : Sl RP 2 w w.heap.size E m d x.pairs) (f1 : Fit x.kind) (f2 : Fit x.field) (f3 : Fit x.value) (fv : Fit v) :
    Calls Try.prog 61 #[.agg #[.int .i64 x.kind, .int .i64 x.field, .int .i64 x.value, .slice A n c, .slice E m d], .int .i64 v] w fun e w' => e = .returned (.tuple #[.int .i64 (rovN x v), .bool (rovB x v)]) ∧ Below w.heap.size w w' := by
  have BW := (Below.refl w.heap.size w).alloc (Nat.le_refl _) (.cells #[.int .i64 x.kind, .int .i64 x.field, .int .i64 x.value, .slice A n c, .slice E m d] 47)
  have H := Lib.hid (h.on RI.keeps BW)
  have G := Lib.hid (g.on RP.keeps BW)
  have hsz := BW.size
  clear h g
  cases hok : P.okW x with
  | false =>
    have HE := Lib.hid (rov_no (x := x) (v := v) (by unfold rovB; rw [hok]; rfl))
    go_enter Try.func61, Try.ntmps61
    go_wp2_with (go_at_call 25; refine (implIsWish _ H.out G.out).mono ?_; rintro e w2 ⟨rfl, b2⟩; rw [hok])
    go_ret2
    exact ⟨ret_two HE.out, BW.trans (b2.mono hsz)⟩
  | true =>
    obtain ⟨x0, x1⟩ := P.okW_value hok
    cases hr : P.inR v 0 9 with
    | false =>
      have HE := Lib.hid (rov_no (x := x) (v := v) (by unfold rovB; rw [hr]; simp))
      clear x0
      go_enter Try.func61, Try.ntmps61
      go_wp2_with fail
      refine (implIsWish _ H.out G.out).mono ?_
      rintro e w2 ⟨rfl, b2⟩
      rw [hok]
      have hC := cell_of b2
      have z1 : w.heap.size < w2.heap.size := by have := b2.size; simp at this; omega
      have H2 := Lib.hid (H.out.on RI.keeps b2)
      go_wp2_with (first | (go_at_call 23; refine (within _ _ _ _).mono ?_; rintro e w' ⟨rfl, rfl⟩))
      go_ret2
      exact ⟨ret_two HE.out, BW.trans (b2.mono hsz)⟩
    | true =>
      obtain ⟨v0, v1⟩ := P.inR_t hr
      obtain ⟨kk0, kk4⟩ := P.okW_kind hok
      by_cases k0 : x.kind = 0
      · have t0 : (x.kind == 0) = true := by simpa using k0
        have HE := Lib.hid (rov_yes (r := v) (rovB_mk hok (by omega) hr) (by unfold P.rank; rw [if_pos k0]))
        clear k0
        go_enter Try.func61, Try.ntmps61
        go_wp2_with fail
        refine (implIsWish _ H.out G.out).mono ?_
        rintro e w2 ⟨rfl, b2⟩
        rw [hok]
        have hC := cell_of b2
        have z1 : w.heap.size < w2.heap.size := by have := b2.size; simp at this; omega
        have H2 := Lib.hid (H.out.on RI.keeps b2)
        go_wp2_with (first | (go_at_call 23; refine (within _ _ _ _).mono ?_; rintro e w' ⟨rfl, rfl⟩))
        go_ret2
        exact ⟨ret_two HE.out, BW.trans (b2.mono hsz)⟩
      · have t0 : (x.kind == 0) = false := by simpa using k0
        by_cases k1 : x.kind = 1
        · have t1 : (x.kind == 1) = true := by simpa using k1
          have HE := Lib.hid (rov_yes (r := 9 - v) (rovB_mk hok (by omega) hr) (by unfold P.rank; rw [if_neg k0, if_pos k1]))
          clear k0 k1
          go_enter Try.func61, Try.ntmps61
          go_wp2_with fail
          refine (implIsWish _ H.out G.out).mono ?_
          rintro e w2 ⟨rfl, b2⟩
          rw [hok]
          have hC := cell_of b2
          have z1 : w.heap.size < w2.heap.size := by have := b2.size; simp at this; omega
          have H2 := Lib.hid (H.out.on RI.keeps b2)
          go_wp2_with (first | (go_at_call 23; refine (within _ _ _ _).mono ?_; rintro e w' ⟨rfl, rfl⟩))
          go_ret2
          exact ⟨ret_two HE.out, BW.trans (b2.mono hsz)⟩
        · have t1 : (x.kind == 1) = false := by simpa using k1
          by_cases k2 : x.kind = 2
          · have t2 : (x.kind == 2) = true := by simpa using k2
            have HE := Lib.hid (rov_yes (r := max (v - x.value) (x.value - v)) (rovB_mk hok (by omega) hr) (by unfold P.rank; rw [if_neg k0, if_neg k1, if_pos k2]))
            clear k0 k1 k2
            go_enter Try.func61, Try.ntmps61
            go_wp2_with fail
            refine (implIsWish _ H.out G.out).mono ?_
            rintro e w2 ⟨rfl, b2⟩
            rw [hok]
            have hC := cell_of b2
            have z1 : w.heap.size < w2.heap.size := by have := b2.size; simp at this; omega
            have H2 := Lib.hid (H.out.on RI.keeps b2)
            go_wp2_with (first | (go_at_call 23; refine (within _ _ _ _).mono ?_; rintro e w' ⟨rfl, rfl⟩))
            all_goals
              go_ret2
              exact ⟨ret_two ⟨by rw [← HE.out.1]; omega, HE.out.2⟩, BW.trans (b2.mono hsz)⟩
          · have t2 : (x.kind == 2) = false := by simpa using k2
            by_cases k3 : x.kind = 3
            · have t3 : (x.kind == 3) = true := by simpa using k3
              by_cases hm : v ∈ x.list
              · have q : decide (v ∈ x.list) = true := by simpa using hm
                have HE := Lib.hid (rov_yes (r := 0) (rovB_mk hok (by omega) hr) (by unfold P.rank; rw [if_neg k0, if_neg k1, if_neg k2, if_pos hm]))
                clear k0 k1 k2 k3 hm
                go_enter Try.func61, Try.ntmps61
                go_wp2_with fail
                refine (implIsWish _ H.out G.out).mono ?_
                rintro e w2 ⟨rfl, b2⟩
                rw [hok]
                have hC := cell_of b2
                have z1 : w.heap.size < w2.heap.size := by have := b2.size; simp at this; omega
                have H2 := Lib.hid (H.out.on RI.keeps b2)
                go_wp2_with (first | (go_at_call 23; refine (within _ _ _ _).mono ?_; rintro e w' ⟨rfl, rfl⟩) | (go_at_call 63; refine (indexInts _ H2.out).mono ?_; rintro e w' ⟨rfl, rfl⟩; rw [q]))
                go_ret2
                exact ⟨ret_two HE.out, BW.trans (b2.mono hsz)⟩
              · have q : decide (v ∈ x.list) = false := by simpa using hm
                have HE := Lib.hid (rov_yes (r := 1) (rovB_mk hok (by omega) hr) (by unfold P.rank; rw [if_neg k0, if_neg k1, if_neg k2, if_neg hm]))
                clear k0 k1 k2 k3 hm
                go_enter Try.func61, Try.ntmps61
                go_wp2_with fail
                refine (implIsWish _ H.out G.out).mono ?_
                rintro e w2 ⟨rfl, b2⟩
                rw [hok]
                have hC := cell_of b2
                have z1 : w.heap.size < w2.heap.size := by have := b2.size; simp at this; omega
                have H2 := Lib.hid (H.out.on RI.keeps b2)
                go_wp2_with (first | (go_at_call 23; refine (within _ _ _ _).mono ?_; rintro e w' ⟨rfl, rfl⟩) | (go_at_call 63; refine (indexInts _ H2.out).mono ?_; rintro e w' ⟨rfl, rfl⟩; rw [q]))
                go_ret2
                exact ⟨ret_two HE.out, BW.trans (b2.mono hsz)⟩
            · have t3 : (x.kind == 3) = false := by simpa using k3
              have HE := Lib.hid (rov_no (x := x) (v := v) (by unfold rovB; simp [show x.kind = 4 by omega]))
              clear k0 k1 k2 k3
              go_enter Try.func61, Try.ntmps61
              go_wp2_with fail
              refine (implIsWish _ H.out G.out).mono ?_
              rintro e w2 ⟨rfl, b2⟩
              rw [hok]
              have hC := cell_of b2
              have z1 : w.heap.size < w2.heap.size := by have := b2.size; simp at this; omega
              have H2 := Lib.hid (H.out.on RI.keeps b2)
              go_wp2_with (first | (go_at_call 23; refine (within _ _ _ _).mono ?_; rintro e w' ⟨rfl, rfl⟩))
              go_ret2
              exact ⟨ret_two HE.out, BW.trans (b2.mono hsz)⟩
end Go.Proofs.Ytejpfjknlckffaa.Wk

namespace Go.Proofs.Ytejpfjknlckffaa.Wk
open Go.RowKit Go.Proofs.Ytejpfjknlckffaa.M
set_option linter.unusedVariables false
attribute [local go_sem] cell_grow

set_option maxHeartbeats 3200000 in
theorem l4Compare {A E : Option Addr} {n c m d : Nat} {x : Wi} {a b : Int} (w : World) (h : Sl RI 1 w w.heap.size A n c x.list) (g : Sl RP 2 w w.heap.size E m d x.pairs) (hok : P.okW x = true) (ha : 0 ≤ a ∧ a ≤ 9) (hb : 0 ≤ b ∧ b ≤ 9) :
    Calls Try.prog 40 #[.agg #[.int .i64 x.kind, .int .i64 x.field, .int .i64 x.value, .slice A n c, .slice E m d], .int .i64 a, .int .i64 b] w fun e w' => e = .returned (.int .i64 (P.cmpV x a b)) ∧ Below w.heap.size w w' := by
  have BW := (Below.refl w.heap.size w).alloc (Nat.le_refl _) (.cells #[.int .i64 x.kind, .int .i64 x.field, .int .i64 x.value, .slice A n c, .slice E m d] 47)
  have H := Lib.hid (h.on RI.keeps BW)
  have G := Lib.hid (g.on RP.keeps BW)
  have hsz := BW.size
  have hval := P.okW_value hok
  have HOK := Lib.hid hok
  have HM := Lib.hid g.len
  clear h g hok
  by_cases k4 : x.kind = 4
  · have t4 : (x.kind == 4) = true := by simpa using k4
    have hm8 : m ≤ 8 := by have := P.okW_pairslen HOK.out; have := HM.out; omega
    have fa : Fit a := by unfold Fit; omega
    have fb : Fit b := by unfold Fit; omega
    by_cases hab : a = b
    · have q : (a == b) = true := by simpa using hab
      have HE : Hid (P.cmpV x a b = 0) := by show _ = _; unfold P.cmpV; rw [if_pos k4, if_pos hab]
      clear k4 hab
      go_enter Try.func40, Try.ntmps40
      go_wp2_with fail
      go_ret
      exact ⟨ret_int HE.out.symm, BW⟩
    · have q : (a == b) = false := by simpa using hab
      cases h1 : P.abv x.pairs a b with
      | true =>
        have HE : Hid (P.cmpV x a b = 1) := by show _ = _; unfold P.cmpV; rw [if_pos k4, if_neg hab, h1]; rfl
        clear k4 hab
        go_enter Try.func40, Try.ntmps40
        go_wp2_with (go_at_call 54; refine (l3Reach _ G.out hm8 fa).mono ?_; rintro e w2 ⟨rfl, b2⟩; rw [h1])
        go_ret
        exact ⟨ret_int HE.out.symm, BW.trans (b2.mono hsz)⟩
      | false =>
        cases h2 : P.abv x.pairs b a with
        | true =>
          have HE : Hid (P.cmpV x a b = -1) := by show _ = _; unfold P.cmpV; rw [if_pos k4, if_neg hab, h1, h2]; rfl
          clear k4 hab
          go_enter Try.func40, Try.ntmps40
          go_wp2_with fail
          refine (l3Reach _ G.out hm8 fa).mono ?_
          rintro e w2 ⟨rfl, b2⟩
          rw [h1]
          have hC := cell_of b2
          have z1 : w.heap.size < w2.heap.size := Nat.lt_of_lt_of_le (by simp) b2.size
          have G2 := Lib.hid (G.out.on RP.keeps b2)
          go_wp2_with fail
          refine (l3Reach _ G2.out hm8 fb).mono ?_
          rintro e w3 ⟨rfl, b3⟩
          rw [h2]
          go_wp2_with fail
          go_ret
          exact ⟨ret_int HE.out.symm, (BW.trans (b2.mono hsz)).trans (b3.mono (BW.trans (b2.mono hsz)).size)⟩
        | false =>
          have HE : Hid (P.cmpV x a b = 2) := by show _ = _; unfold P.cmpV; rw [if_pos k4, if_neg hab, h1, h2]; rfl
          clear k4 hab
          go_enter Try.func40, Try.ntmps40
          go_wp2_with fail
          refine (l3Reach _ G.out hm8 fa).mono ?_
          rintro e w2 ⟨rfl, b2⟩
          rw [h1]
          have hC := cell_of b2
          have z1 : w.heap.size < w2.heap.size := Nat.lt_of_lt_of_le (by simp) b2.size
          have G2 := Lib.hid (G.out.on RP.keeps b2)
          go_wp2_with fail
          refine (l3Reach _ G2.out hm8 fb).mono ?_
          rintro e w3 ⟨rfl, b3⟩
          rw [h2]
          go_wp2_with fail
          go_ret
          exact ⟨ret_int HE.out.symm, (BW.trans (b2.mono hsz)).trans (b3.mono (BW.trans (b2.mono hsz)).size)⟩
  · have t4 : (x.kind == 4) = false := by simpa using k4
    have r1 := P.rank_bd hval ha
    have r2 := P.rank_bd hval hb
    have HE0 : Hid (P.cmpV x a b = if P.rank x a < P.rank x b then 1 else if P.rank x b < P.rank x a then -1 else 0) := by show _ = _; unfold P.cmpV; rw [if_neg k4]
    clear k4
    by_cases lt : P.rank x a < P.rank x b
    ·
      have HE : Hid (P.cmpV x a b = 1) := by show _ = _; rw [HE0.out, if_pos lt]
      go_enter Try.func40, Try.ntmps40
      go_wp2_with fail
      refine (l4Rank _ H.out hval ha).mono ?_
      rintro e w2 ⟨rfl, b2⟩
      have hC := cell_of b2
      have z1 : w.heap.size < w2.heap.size := Nat.lt_of_lt_of_le (by simp) b2.size
      have H2 := Lib.hid (H.out.on RI.keeps b2)
      go_wp2_with fail
      refine (l4Rank _ H2.out hval hb).mono ?_
      rintro e w3 ⟨rfl, b3⟩
      go_wp2_with fail
      go_ret
      exact ⟨ret_int HE.out.symm, (BW.trans (b2.mono hsz)).trans (b3.mono (BW.trans (b2.mono hsz)).size)⟩
    · by_cases gt : P.rank x b < P.rank x a
      ·
        have HE : Hid (P.cmpV x a b = -1) := by show _ = _; rw [HE0.out, if_neg lt, if_pos gt]
        go_enter Try.func40, Try.ntmps40
        go_wp2_with fail
        refine (l4Rank _ H.out hval ha).mono ?_
        rintro e w2 ⟨rfl, b2⟩
        have hC := cell_of b2
        have z1 : w.heap.size < w2.heap.size := Nat.lt_of_lt_of_le (by simp) b2.size
        have H2 := Lib.hid (H.out.on RI.keeps b2)
        go_wp2_with fail
        refine (l4Rank _ H2.out hval hb).mono ?_
        rintro e w3 ⟨rfl, b3⟩
        go_wp2_with fail
        go_ret
        exact ⟨ret_int HE.out.symm, (BW.trans (b2.mono hsz)).trans (b3.mono (BW.trans (b2.mono hsz)).size)⟩
      ·
        have HE : Hid (P.cmpV x a b = 0) := by show _ = _; rw [HE0.out, if_neg lt, if_neg gt]
        go_enter Try.func40, Try.ntmps40
        go_wp2_with fail
        refine (l4Rank _ H.out hval ha).mono ?_
        rintro e w2 ⟨rfl, b2⟩
        have hC := cell_of b2
        have z1 : w.heap.size < w2.heap.size := Nat.lt_of_lt_of_le (by simp) b2.size
        have H2 := Lib.hid (H.out.on RI.keeps b2)
        go_wp2_with fail
        refine (l4Rank _ H2.out hval hb).mono ?_
        rintro e w3 ⟨rfl, b3⟩
        go_wp2_with fail
        go_ret
        exact ⟨ret_int HE.out.symm, (BW.trans (b2.mono hsz)).trans (b3.mono (BW.trans (b2.mono hsz)).size)⟩
set_option maxHeartbeats 3200000 in
theorem implCompareValues {A E : Option Addr} {n c m d : Nat} {x : Wi} {a b : Int} (w : World) (h : Sl RI 1 w w.heap.size A n c x.list) (g : Sl RP 2 w w.heap.size E m d x.pairs) (f1 : Fit x.kind) (f2 : Fit x.field) (f3 : Fit x.value) (fa : Fit a) (fb : Fit b) :
    Calls Try.prog 53 #[.agg #[.int .i64 x.kind, .int .i64 x.field, .int .i64 x.value, .slice A n c, .slice E m d], .int .i64 a, .int .i64 b] w fun e w' => e = .returned (.int .i64 (P.cmpVals x a b)) ∧ Below w.heap.size w w' := by
  have BW := (Below.refl w.heap.size w).alloc (Nat.le_refl _) (.cells #[.int .i64 x.kind, .int .i64 x.field, .int .i64 x.value, .slice A n c, .slice E m d] 47)
  have H := Lib.hid (h.on RI.keeps BW)
  have G := Lib.hid (g.on RP.keeps BW)
  have hsz := BW.size
  clear h g
  cases hok : P.okW x with
  | false =>
    have HE : Hid (P.cmpVals x a b = 2) := by show _ = _; unfold P.cmpVals; rw [hok]; rfl
    go_enter Try.func53, Try.ntmps53
    go_wp2_with (go_at_call 25; refine (implIsWish _ H.out G.out).mono ?_; rintro e w2 ⟨rfl, b2⟩; rw [hok])
    go_ret
    exact ⟨ret_int HE.out.symm, BW.trans (b2.mono hsz)⟩
  | true =>
    cases ra : P.inR a 0 9 with
    | false =>
      have HE : Hid (P.cmpVals x a b = 2) := by show _ = _; unfold P.cmpVals; rw [hok, ra]; rfl
      go_enter Try.func53, Try.ntmps53
      go_wp2_with (first | (go_at_call 25; refine (implIsWish _ H.out G.out).mono ?_; rintro e w2 ⟨rfl, b2⟩; rw [hok]) | (go_at_call 23; refine (within _ _ _ _).mono ?_; rintro e w' ⟨rfl, rfl⟩))
      go_ret
      exact ⟨ret_int HE.out.symm, BW.trans (b2.mono hsz)⟩
    | true =>
      cases rb : P.inR b 0 9 with
      | false =>
        have HE : Hid (P.cmpVals x a b = 2) := by show _ = _; unfold P.cmpVals; rw [hok, ra, rb]; rfl
        go_enter Try.func53, Try.ntmps53
        go_wp2_with (first | (go_at_call 25; refine (implIsWish _ H.out G.out).mono ?_; rintro e w2 ⟨rfl, b2⟩; rw [hok]) | (go_at_call 23; refine (within _ _ _ _).mono ?_; rintro e w' ⟨rfl, rfl⟩))
        go_ret
        exact ⟨ret_int HE.out.symm, BW.trans (b2.mono hsz)⟩
      | true =>
        have ha := P.inR_t ra
        have hb := P.inR_t rb
        by_cases k4 : x.kind = 4
        · have t4 : (x.kind == 4) = true := by simpa using k4
          have hin := P.okP_in (P.okW_pairs hok k4)
          obtain ⟨a0, a1⟩ := ha
          obtain ⟨b0, b1⟩ := hb
          obtain ⟨i, rfl⟩ := Int.eq_ofNat_of_zero_le a0
          obtain ⟨j, rfl⟩ := Int.eq_ofNat_of_zero_le b0
          have i10 : i < 10 := by omega
          have j10 : j < 10 := by omega
          have HV : Hid (P.cmpVals x i j = if (i : Int) = j then 0 else if P.abv x.pairs i j then 1 else if P.abv x.pairs j i then -1 else 2) := by show _ = _; unfold P.cmpVals; rw [hok, ra, rb]; unfold P.cmpV; rw [if_pos k4]; rfl
          have HIN := Lib.hid hin
          clear k4 hin
          by_cases hij : (i : Int) = j
          · have t : ((i : Int) == (j : Int)) = true := by simpa using hij
            have t' : (i == j) = true := by simp; omega
            have h1 : True := trivial
            have h2 : True := trivial
            have HE : Hid (P.cmpVals x i j = 0) := by show _ = _; rw [HV.out, if_pos hij]
            have hzero := zero_tab
            have HOK := Lib.hid hok
            go_enter Try.func53, Try.ntmps53
            go_wp2_with fail
            refine (implIsWish _ H.out G.out).mono ?_
            rintro e w2 ⟨rfl, b2⟩
            rw [hok]
            clear hok
            have hC := cell_of b2
            have z1 : w.heap.size < w2.heap.size := Nat.lt_of_lt_of_le (by simp) b2.size
            have H2 := Lib.hid (H.out.on RI.keeps b2)
            have G2 := Lib.hid (G.out.on RP.keeps b2)
            have B2 := BW.trans (b2.mono hsz)
            go_wp2_with (go_at_call 23; refine (within _ _ _ _).mono ?_; rintro e w' ⟨rfl, rfl⟩)
            refine (above _ G2.out HIN.out).mono ?_
            rintro e w3 ⟨rfl, b3⟩
            have B3 := B2.trans (b3.mono B2.size)
            have r0 := Row.new w3 79 (matC fun _ _ => false)
            have hgz : w.heap.size ≤ w3.heap.size := B3.size
            have HB0 := B3.alloc hgz (.cells (matC fun _ _ => false).toArray 79)
            clear b3 B3 B2 hC
            have q1 : (i : Int) < 10 := by omega
            have q2 : (0 : Int) ≤ (i : Int) := by omega
            have q3 : (j : Int) < 10 := by omega
            have q4 : (0 : Int) ≤ (j : Int) := by omega
            clear hij
            go_wp2_with (refine store_row (by rfl) 79 _ _ (by rfl) w3.heap.size (matC fun x' y => P.abv x.pairs x' y) _ 79 (by rfl) (by rfl) r0 (sz_tab _) (by rw [matC_len, matC_len]) (matC_one _) ?_; intro w9 r9 hg9; have c1 := (r9.cell (i * 10 + j)).trans (matC_at _ i10 j10); have c2 := (r9.cell (j * 10 + i)).trans (matC_at _ j10 i10); (try rw [h1] at c1); (try rw [h2] at c2))
            go_ret
            exact ⟨ret_int HE.out.symm, HB0.grown hg9 HB0.size (fun k hk => by injection hk with hk; omega)⟩
          · have t : ((i : Int) == (j : Int)) = false := by simp; omega
            have t' : (i == j) = false := by simp; omega
            cases h1 : P.abv x.pairs i j with
            | true =>
              have h2 : True := trivial
              have HE : Hid (P.cmpVals x i j = 1) := by show _ = _; rw [HV.out, if_neg hij, h1]; rfl
              have hzero := zero_tab
              have HOK := Lib.hid hok
              go_enter Try.func53, Try.ntmps53
              go_wp2_with fail
              refine (implIsWish _ H.out G.out).mono ?_
              rintro e w2 ⟨rfl, b2⟩
              rw [hok]
              clear hok
              have hC := cell_of b2
              have z1 : w.heap.size < w2.heap.size := Nat.lt_of_lt_of_le (by simp) b2.size
              have H2 := Lib.hid (H.out.on RI.keeps b2)
              have G2 := Lib.hid (G.out.on RP.keeps b2)
              have B2 := BW.trans (b2.mono hsz)
              go_wp2_with (go_at_call 23; refine (within _ _ _ _).mono ?_; rintro e w' ⟨rfl, rfl⟩)
              refine (above _ G2.out HIN.out).mono ?_
              rintro e w3 ⟨rfl, b3⟩
              have B3 := B2.trans (b3.mono B2.size)
              have r0 := Row.new w3 79 (matC fun _ _ => false)
              have hgz : w.heap.size ≤ w3.heap.size := B3.size
              have HB0 := B3.alloc hgz (.cells (matC fun _ _ => false).toArray 79)
              clear b3 B3 B2 hC
              have q1 : (i : Int) < 10 := by omega
              have q2 : (0 : Int) ≤ (i : Int) := by omega
              have q3 : (j : Int) < 10 := by omega
              have q4 : (0 : Int) ≤ (j : Int) := by omega
              clear hij
              go_wp2_with (refine store_row (by rfl) 79 _ _ (by rfl) w3.heap.size (matC fun x' y => P.abv x.pairs x' y) _ 79 (by rfl) (by rfl) r0 (sz_tab _) (by rw [matC_len, matC_len]) (matC_one _) ?_; intro w9 r9 hg9; have c1 := (r9.cell (i * 10 + j)).trans (matC_at _ i10 j10); have c2 := (r9.cell (j * 10 + i)).trans (matC_at _ j10 i10); (try rw [h1] at c1); (try rw [h2] at c2))
              go_ret
              exact ⟨ret_int HE.out.symm, HB0.grown hg9 HB0.size (fun k hk => by injection hk with hk; omega)⟩
            | false =>
              cases h2 : P.abv x.pairs j i with
              | true =>
                have HE : Hid (P.cmpVals x i j = -1) := by show _ = _; rw [HV.out, if_neg hij, h1, h2]; rfl
                have hzero := zero_tab
                have HOK := Lib.hid hok
                go_enter Try.func53, Try.ntmps53
                go_wp2_with fail
                refine (implIsWish _ H.out G.out).mono ?_
                rintro e w2 ⟨rfl, b2⟩
                rw [hok]
                clear hok
                have hC := cell_of b2
                have z1 : w.heap.size < w2.heap.size := Nat.lt_of_lt_of_le (by simp) b2.size
                have H2 := Lib.hid (H.out.on RI.keeps b2)
                have G2 := Lib.hid (G.out.on RP.keeps b2)
                have B2 := BW.trans (b2.mono hsz)
                go_wp2_with (go_at_call 23; refine (within _ _ _ _).mono ?_; rintro e w' ⟨rfl, rfl⟩)
                refine (above _ G2.out HIN.out).mono ?_
                rintro e w3 ⟨rfl, b3⟩
                have B3 := B2.trans (b3.mono B2.size)
                have r0 := Row.new w3 79 (matC fun _ _ => false)
                have hgz : w.heap.size ≤ w3.heap.size := B3.size
                have HB0 := B3.alloc hgz (.cells (matC fun _ _ => false).toArray 79)
                clear b3 B3 B2 hC
                have q1 : (i : Int) < 10 := by omega
                have q2 : (0 : Int) ≤ (i : Int) := by omega
                have q3 : (j : Int) < 10 := by omega
                have q4 : (0 : Int) ≤ (j : Int) := by omega
                clear hij
                go_wp2_with (refine store_row (by rfl) 79 _ _ (by rfl) w3.heap.size (matC fun x' y => P.abv x.pairs x' y) _ 79 (by rfl) (by rfl) r0 (sz_tab _) (by rw [matC_len, matC_len]) (matC_one _) ?_; intro w9 r9 hg9; have c1 := (r9.cell (i * 10 + j)).trans (matC_at _ i10 j10); have c2 := (r9.cell (j * 10 + i)).trans (matC_at _ j10 i10); (try rw [h1] at c1); (try rw [h2] at c2))
                go_ret
                exact ⟨ret_int HE.out.symm, HB0.grown hg9 HB0.size (fun k hk => by injection hk with hk; omega)⟩
              | false =>
                have HE : Hid (P.cmpVals x i j = 2) := by show _ = _; rw [HV.out, if_neg hij, h1, h2]; rfl
                have hzero := zero_tab
                have HOK := Lib.hid hok
                go_enter Try.func53, Try.ntmps53
                go_wp2_with fail
                refine (implIsWish _ H.out G.out).mono ?_
                rintro e w2 ⟨rfl, b2⟩
                rw [hok]
                clear hok
                have hC := cell_of b2
                have z1 : w.heap.size < w2.heap.size := Nat.lt_of_lt_of_le (by simp) b2.size
                have H2 := Lib.hid (H.out.on RI.keeps b2)
                have G2 := Lib.hid (G.out.on RP.keeps b2)
                have B2 := BW.trans (b2.mono hsz)
                go_wp2_with (go_at_call 23; refine (within _ _ _ _).mono ?_; rintro e w' ⟨rfl, rfl⟩)
                refine (above _ G2.out HIN.out).mono ?_
                rintro e w3 ⟨rfl, b3⟩
                have B3 := B2.trans (b3.mono B2.size)
                have r0 := Row.new w3 79 (matC fun _ _ => false)
                have hgz : w.heap.size ≤ w3.heap.size := B3.size
                have HB0 := B3.alloc hgz (.cells (matC fun _ _ => false).toArray 79)
                clear b3 B3 B2 hC
                have q1 : (i : Int) < 10 := by omega
                have q2 : (0 : Int) ≤ (i : Int) := by omega
                have q3 : (j : Int) < 10 := by omega
                have q4 : (0 : Int) ≤ (j : Int) := by omega
                clear hij
                go_wp2_with (refine store_row (by rfl) 79 _ _ (by rfl) w3.heap.size (matC fun x' y => P.abv x.pairs x' y) _ 79 (by rfl) (by rfl) r0 (sz_tab _) (by rw [matC_len, matC_len]) (matC_one _) ?_; intro w9 r9 hg9; have c1 := (r9.cell (i * 10 + j)).trans (matC_at _ i10 j10); have c2 := (r9.cell (j * 10 + i)).trans (matC_at _ j10 i10); (try rw [h1] at c1); (try rw [h2] at c2))
                go_ret
                exact ⟨ret_int HE.out.symm, HB0.grown hg9 HB0.size (fun k hk => by injection hk with hk; omega)⟩
        · have t4 : (x.kind == 4) = false := by simpa using k4
          have HE0 : Hid (P.cmpVals x a b = if P.rank x a < P.rank x b then 1 else if P.rank x b < P.rank x a then -1 else 0) := by show _ = _; unfold P.cmpVals; rw [hok, ra, rb]; unfold P.cmpV; rw [if_neg k4]; rfl
          have e1 : rovN x a = P.rank x a := by unfold rovN; rw [rovB_mk hok k4 ra]; rfl
          have e2 : rovN x b = P.rank x b := by unfold rovN; rw [rovB_mk hok k4 rb]; rfl
          have HF := Lib.hid (And.intro f1 (And.intro f2 f3))
          have r1 := P.rank_bd (P.okW_value hok) ha
          have r2 := P.rank_bd (P.okW_value hok) hb
          clear k4
          by_cases lt : P.rank x a < P.rank x b
          ·
            have HE : Hid (P.cmpVals x a b = 1) := by show _ = _; rw [HE0.out, if_pos lt]
            have HOK := Lib.hid hok
            go_enter Try.func53, Try.ntmps53
            go_wp2_with fail
            refine (implIsWish _ H.out G.out).mono ?_
            rintro e w2 ⟨rfl, b2⟩
            rw [hok]
            clear hok
            have hC := cell_of b2
            have z1 : w.heap.size < w2.heap.size := Nat.lt_of_lt_of_le (by simp) b2.size
            have H2 := Lib.hid (H.out.on RI.keeps b2)
            have G2 := Lib.hid (G.out.on RP.keeps b2)
            have B2 := BW.trans (b2.mono hsz)
            go_wp2_with (go_at_call 23; refine (within _ _ _ _).mono ?_; rintro e w' ⟨rfl, rfl⟩)
            refine (implRankOfValue _ H2.out G2.out f1 f2 f3 fa).mono ?_
            rintro e w3 ⟨rfl, b3⟩
            rw [e1]
            have B3 := B2.trans (b3.mono B2.size)
            have hC3 := cell_of b3
            have z2 : w.heap.size < w3.heap.size := Nat.lt_of_lt_of_le z1 b3.size
            have H3 := Lib.hid (H2.out.on RI.keeps b3)
            have G3 := Lib.hid (G2.out.on RP.keeps b3)
            go_wp2_with fail
            refine (implRankOfValue _ H3.out G3.out f1 f2 f3 fb).mono ?_
            rintro e w4 ⟨rfl, b4⟩
            rw [e2]
            go_wp2_with fail
            go_ret
            exact ⟨ret_int HE.out.symm, B3.trans (b4.mono B3.size)⟩
          · by_cases gt : P.rank x b < P.rank x a
            ·
              have HE : Hid (P.cmpVals x a b = -1) := by show _ = _; rw [HE0.out, if_neg lt, if_pos gt]
              have HOK := Lib.hid hok
              go_enter Try.func53, Try.ntmps53
              go_wp2_with fail
              refine (implIsWish _ H.out G.out).mono ?_
              rintro e w2 ⟨rfl, b2⟩
              rw [hok]
              clear hok
              have hC := cell_of b2
              have z1 : w.heap.size < w2.heap.size := Nat.lt_of_lt_of_le (by simp) b2.size
              have H2 := Lib.hid (H.out.on RI.keeps b2)
              have G2 := Lib.hid (G.out.on RP.keeps b2)
              have B2 := BW.trans (b2.mono hsz)
              go_wp2_with (go_at_call 23; refine (within _ _ _ _).mono ?_; rintro e w' ⟨rfl, rfl⟩)
              refine (implRankOfValue _ H2.out G2.out f1 f2 f3 fa).mono ?_
              rintro e w3 ⟨rfl, b3⟩
              rw [e1]
              have B3 := B2.trans (b3.mono B2.size)
              have hC3 := cell_of b3
              have z2 : w.heap.size < w3.heap.size := Nat.lt_of_lt_of_le z1 b3.size
              have H3 := Lib.hid (H2.out.on RI.keeps b3)
              have G3 := Lib.hid (G2.out.on RP.keeps b3)
              go_wp2_with fail
              refine (implRankOfValue _ H3.out G3.out f1 f2 f3 fb).mono ?_
              rintro e w4 ⟨rfl, b4⟩
              rw [e2]
              go_wp2_with fail
              go_ret
              exact ⟨ret_int HE.out.symm, B3.trans (b4.mono B3.size)⟩
            ·
              have HE : Hid (P.cmpVals x a b = 0) := by show _ = _; rw [HE0.out, if_neg lt, if_neg gt]
              have HOK := Lib.hid hok
              go_enter Try.func53, Try.ntmps53
              go_wp2_with fail
              refine (implIsWish _ H.out G.out).mono ?_
              rintro e w2 ⟨rfl, b2⟩
              rw [hok]
              clear hok
              have hC := cell_of b2
              have z1 : w.heap.size < w2.heap.size := Nat.lt_of_lt_of_le (by simp) b2.size
              have H2 := Lib.hid (H.out.on RI.keeps b2)
              have G2 := Lib.hid (G.out.on RP.keeps b2)
              have B2 := BW.trans (b2.mono hsz)
              go_wp2_with (go_at_call 23; refine (within _ _ _ _).mono ?_; rintro e w' ⟨rfl, rfl⟩)
              refine (implRankOfValue _ H2.out G2.out f1 f2 f3 fa).mono ?_
              rintro e w3 ⟨rfl, b3⟩
              rw [e1]
              have B3 := B2.trans (b3.mono B2.size)
              have hC3 := cell_of b3
              have z2 : w.heap.size < w3.heap.size := Nat.lt_of_lt_of_le z1 b3.size
              have H3 := Lib.hid (H2.out.on RI.keeps b3)
              have G3 := Lib.hid (G2.out.on RP.keeps b3)
              go_wp2_with fail
              refine (implRankOfValue _ H3.out G3.out f1 f2 f3 fb).mono ?_
              rintro e w4 ⟨rfl, b4⟩
              rw [e2]
              go_wp2_with fail
              go_ret
              exact ⟨ret_int HE.out.symm, B3.trans (b4.mono B3.size)⟩
end Go.Proofs.Ytejpfjknlckffaa.Wk

namespace Go.Proofs.Ytejpfjknlckffaa.Wk
open Go.RowKit Go.Proofs.Ytejpfjknlckffaa.M
set_option linter.unusedVariables false
attribute [local go_sem] cell_grow

theorem okI_val {x : It} (h : P.okI x = true) {f : Nat} (hf : f ≤ 2) : x.vals.length = 3 ∧ ∃ v, x.vals[f]? = some v ∧ 0 ≤ v ∧ v ≤ 9 := by
  simp only [P.okI, Bool.and_eq_true, decide_eq_true_eq] at h
  obtain ⟨⟨_, hl⟩, hv⟩ := h
  refine ⟨hl, x.vals[f]'(by omega), List.getElem?_eq_getElem (by omega), ?_⟩
  exact P.inR_t (List.all_eq_true.1 hv _ (List.getElem_mem _))
set_option maxHeartbeats 1000000 in
set_option maxRecDepth 100000 in
theorem implCompareItems {A E A1 A2 : Option Addr} {n c m d n1 c1 n2 c2 : Nat} {x : Wi} {y z : It} (w : World) (h : Sl RI 1 w w.heap.size A n c x.list) (g : Sl RP 2 w w.heap.size E m d x.pairs) (f1 : Fit x.kind) (f2 : Fit x.field) (f3 : Fit x.value)
    (k : Sl RI 1 w w.heap.size A1 n1 c1 y.vals) (f4 : Fit y.id) (j : Sl RI 1 w w.heap.size A2 n2 c2 z.vals) (f5 : Fit z.id) :
    Calls Try.prog 38 #[.agg #[.int .i64 x.kind, .int .i64 x.field, .int .i64 x.value, .slice A n c, .slice E m d], .agg #[.int .i64 y.id, .slice A1 n1 c1], .agg #[.int .i64 z.id, .slice A2 n2 c2]] w fun e w' => e = .returned (.int .i64 (P.cmpIs x y z)) ∧ Below w.heap.size w w' := by
  have BW := (((Below.refl w.heap.size w).alloc (Nat.le_refl _) (.cells #[.int .i64 x.kind, .int .i64 x.field, .int .i64 x.value, .slice A n c, .slice E m d] 47)).alloc (by simp) (.cells #[.int .i64 y.id, .slice A1 n1 c1] 27)).alloc (by simp; omega) (.cells #[.int .i64 z.id, .slice A2 n2 c2] 27)
  have H := Lib.hid (h.on RI.keeps BW)
  have G := Lib.hid (g.on RP.keeps BW)
  have K := Lib.hid (k.on RI.keeps BW)
  have J := Lib.hid (j.on RI.keeps BW)
  have hsz := BW.size
  have ww0 : w.heap.size < (((w.alloc (.cells #[.int .i64 x.kind, .int .i64 x.field, .int .i64 x.value, .slice A n c, .slice E m d] 47)).alloc (.cells #[.int .i64 y.id, .slice A1 n1 c1] 27)).alloc (.cells #[.int .i64 z.id, .slice A2 n2 c2] 27)).heap.size := by simp; omega
  have ww1 : w.heap.size + 1 < (((w.alloc (.cells #[.int .i64 x.kind, .int .i64 x.field, .int .i64 x.value, .slice A n c, .slice E m d] 47)).alloc (.cells #[.int .i64 y.id, .slice A1 n1 c1] 27)).alloc (.cells #[.int .i64 z.id, .slice A2 n2 c2] 27)).heap.size := by simp
  have ww2 : w.heap.size + 1 + 1 < (((w.alloc (.cells #[.int .i64 x.kind, .int .i64 x.field, .int .i64 x.value, .slice A n c, .slice E m d] 47)).alloc (.cells #[.int .i64 y.id, .slice A1 n1 c1] 27)).alloc (.cells #[.int .i64 z.id, .slice A2 n2 c2] 27)).heap.size := by simp
  have HK0 := Lib.hid k
  have HJ0 := Lib.hid j
  clear h g k j
  cases hok : P.okW x with
  | false =>
    have HE : Hid (P.cmpIs x y z = 2) := by show _ = _; unfold P.cmpIs; rw [hok]; rfl
    go_enter Try.func38, Try.ntmps38
    go_wp2_with (go_at_call 25; refine (implIsWish _ H.out G.out).mono ?_; rintro e w2 ⟨rfl, b2⟩; rw [hok])
    go_ret
    exact ⟨ret_int HE.out.symm, BW.trans (b2.mono hsz)⟩
  | true =>
    cases h1 : P.okI y with
    | false =>
      have HE : Hid (P.cmpIs x y z = 2) := by show _ = _; unfold P.cmpIs; rw [hok, h1]; rfl
      go_enter Try.func38, Try.ntmps38
      go_wp2_with fail
      refine (implIsWish _ H.out G.out).mono ?_
      rintro e w2 ⟨rfl, b2⟩
      rw [hok]
      have hC2 := cell_of b2
      have z0 : w.heap.size < w2.heap.size := Nat.lt_of_lt_of_le (by simp; omega) b2.size
      have z1 : w.heap.size + 1 < w2.heap.size := Nat.lt_of_lt_of_le (by simp) b2.size
      have z2 : w.heap.size + 1 + 1 < w2.heap.size := Nat.lt_of_lt_of_le (by simp) b2.size
      have B2 := BW.trans (b2.mono hsz)
      have K2 := Lib.hid (K.out.on RI.keeps b2)
      go_wp2_with fail
      refine (implIsItem (id := y.id) (xs := y.vals) _ K2.out (Nat.le_refl _)).mono ?_
      rintro e w3 ⟨rfl, b3⟩
      rw [h1]
      go_wp2_with fail
      go_ret
      exact ⟨ret_int HE.out.symm, B2.trans (b3.mono B2.size)⟩
    | true =>
      cases h2 : P.okI z with
      | false =>
        have HE : Hid (P.cmpIs x y z = 2) := by show _ = _; unfold P.cmpIs; rw [hok, h1, h2]; rfl
        go_enter Try.func38, Try.ntmps38
        go_wp2_with fail
        refine (implIsWish _ H.out G.out).mono ?_
        rintro e w2 ⟨rfl, b2⟩
        rw [hok]
        have hC2 := cell_of b2
        have z0 : w.heap.size < w2.heap.size := Nat.lt_of_lt_of_le (by simp; omega) b2.size
        have z1 : w.heap.size + 1 < w2.heap.size := Nat.lt_of_lt_of_le (by simp) b2.size
        have z2 : w.heap.size + 1 + 1 < w2.heap.size := Nat.lt_of_lt_of_le (by simp) b2.size
        have B2 := BW.trans (b2.mono hsz)
        have K2 := Lib.hid (K.out.on RI.keeps b2)
        go_wp2_with fail
        refine (implIsItem (id := y.id) (xs := y.vals) _ K2.out (Nat.le_refl _)).mono ?_
        rintro e w3 ⟨rfl, b3⟩
        rw [h1]
        have hC3 := cell_of b3
        have y0 : w.heap.size < w3.heap.size := Nat.lt_of_lt_of_le z0 b3.size
        have y1 : w.heap.size + 1 < w3.heap.size := Nat.lt_of_lt_of_le z1 b3.size
        have y2 : w.heap.size + 1 + 1 < w3.heap.size := Nat.lt_of_lt_of_le z2 b3.size
        have B3 := B2.trans (b3.mono B2.size)
        have J3 := Lib.hid ((J.out.on RI.keeps b2).on RI.keeps b3)
        go_wp2_with fail
        refine (implIsItem (id := z.id) (xs := z.vals) _ J3.out (Nat.le_refl _)).mono ?_
        rintro e w4 ⟨rfl, b4⟩
        rw [h2]
        go_wp2_with fail
        go_ret
        exact ⟨ret_int HE.out.symm, B3.trans (b4.mono B3.size)⟩
      | true =>
        have HE : Hid (P.cmpIs x y z = P.cmpV x (y.vals.getD x.field.toNat 0) (z.vals.getD x.field.toNat 0)) := by show _ = _; unfold P.cmpIs; rw [hok, h1, h2]; rfl
        have HOK := Lib.hid hok
        obtain ⟨p0, p2⟩ := P.okW_field hok
        have hf2 : x.field.toNat ≤ 2 := by omega
        obtain ⟨L1, v1, hx1, hv1⟩ := okI_val h1 hf2
        obtain ⟨L2, v2, hx2, hv2⟩ := okI_val h2 hf2
        have n13 : n1 = 3 := by have := HK0.out.len; omega
        have n23 : n2 = 3 := by have := HJ0.out.len; omega
        obtain ⟨ba, oa, va, ea, hba, hxa, _, ca⟩ := HK0.out.int (k := x.field.toNat) (by omega)
        obtain ⟨bb, ob, vb, eb, hbb, hxb, _, cb⟩ := HJ0.out.int (k := x.field.toNat) (by omega)
        obtain rfl : va = v1 := by rw [hx1] at hxa; injection hxa with hxa; exact hxa.symm
        obtain rfl : vb = v2 := by rw [hx2] at hxb; injection hxb with hxb; exact hxb.symm
        have HE2 : Hid (P.cmpIs x y z = P.cmpV x va vb ∧ P.cmpVals x va vb = P.cmpV x va vb) := by
          refine Lib.hid ⟨?_, ?_⟩
          · rw [HE.out]
            have e1 : y.vals.getD x.field.toNat 0 = va := by simp [List.getD, hx1]
            have e2 : z.vals.getD x.field.toNat 0 = vb := by simp [List.getD, hx2]
            rw [e1, e2]
          · unfold P.cmpVals
            rw [hok, P.inR_mk hv1, P.inR_mk hv2]; rfl
        have fa : Fit va := by unfold Fit; omega
        have fb : Fit vb := by unfold Fit; omega
        have HN := Lib.hid (And.intro n13 n23)
        subst ea eb
        have l1 := HK0.out.le
        have l2 := HJ0.out.le
        have q1 : x.field < (n1 : Int) := by omega
        have q2 : x.field < (n2 : Int) := by omega
        have q3 : (0 : Int) ≤ x.field := by omega
        have q4 : (n1 : Int) ≤ (c1 : Int) := by omega
        have q5 : (n2 : Int) ≤ (c2 : Int) := by omega
        clear n13 n23 L1 L2 hx1 hx2 hxa hxb p0 p2 HK0 HJ0 hf2
        go_enter Try.func38, Try.ntmps38
        go_wp2_with fail
        refine (implIsWish _ H.out G.out).mono ?_
        rintro e w2 ⟨rfl, b2⟩
        rw [hok]
        have hC2 := cell_of b2
        have z0 : w.heap.size < w2.heap.size := Nat.lt_of_lt_of_le (by simp; omega) b2.size
        have z1 : w.heap.size + 1 < w2.heap.size := Nat.lt_of_lt_of_le (by simp) b2.size
        have z2 : w.heap.size + 1 + 1 < w2.heap.size := Nat.lt_of_lt_of_le (by simp) b2.size
        have B2 := BW.trans (b2.mono hsz)
        have K2 := Lib.hid (K.out.on RI.keeps b2)
        go_wp2_with fail
        refine (implIsItem (id := y.id) (xs := y.vals) _ K2.out (Nat.le_refl _)).mono ?_
        rintro e w3 ⟨rfl, b3⟩
        rw [h1]
        have hC3 := cell_of b3
        have y0 : w.heap.size < w3.heap.size := Nat.lt_of_lt_of_le z0 b3.size
        have y1 : w.heap.size + 1 < w3.heap.size := Nat.lt_of_lt_of_le z1 b3.size
        have y2 : w.heap.size + 1 + 1 < w3.heap.size := Nat.lt_of_lt_of_le z2 b3.size
        have B3 := B2.trans (b3.mono B2.size)
        have J3 := Lib.hid ((J.out.on RI.keeps b2).on RI.keeps b3)
        go_wp2_with fail
        refine (implIsItem (id := z.id) (xs := z.vals) _ J3.out (Nat.le_refl _)).mono ?_
        rintro e w4 ⟨rfl, b4⟩
        rw [h2]
        have hC4 := cell_of b4
        have x0 : w.heap.size < w4.heap.size := Nat.lt_of_lt_of_le y0 b4.size
        have x1 : w.heap.size + 1 < w4.heap.size := Nat.lt_of_lt_of_le y1 b4.size
        have x2 : w.heap.size + 1 + 1 < w4.heap.size := Nat.lt_of_lt_of_le y2 b4.size
        have B4 := B3.trans (b4.mono B3.size)
        have ua : ba < w4.heap.size := by have := B4.size; omega
        have ub : bb < w4.heap.size := by have := B4.size; omega
        have da : w4.cell? ⟨ba, oa + x.field.toNat, none⟩ = some (.int .i64 va) := (B4.cell (p := ⟨ba, oa + x.field.toNat, none⟩) hba).trans ca
        have db : w4.cell? ⟨bb, ob + x.field.toNat, none⟩ = some (.int .i64 vb) := (B4.cell (p := ⟨bb, ob + x.field.toNat, none⟩) hbb).trans cb
        have H3 := Lib.hid (((H.out.on RI.keeps b2).on RI.keeps b3).on RI.keeps b4)
        have G3 := Lib.hid (((G.out.on RP.keeps b2).on RP.keeps b3).on RP.keeps b4)
        have S0 := ((((((Row.new w 47 [.int .i64 x.kind, .int .i64 x.field, .int .i64 x.value, .slice A n c, .slice E m d]).alloc (.cells #[.int .i64 y.id, .slice (some ⟨ba, oa, none⟩) n1 c1] 27)).alloc (.cells #[.int .i64 z.id, .slice (some ⟨bb, ob, none⟩) n2 c2] 27)).below b2 ww0).below b3 z0).below b4 y0)
        have S1 := (Row.new (w.alloc (.cells #[.int .i64 x.kind, .int .i64 x.field, .int .i64 x.value, .slice A n c, .slice E m d] 47)) 27 [.int .i64 y.id, .slice (some ⟨ba, oa, none⟩) n1 c1]).alloc (.cells #[.int .i64 z.id, .slice (some ⟨bb, ob, none⟩) n2 c2] 27)
        have S2 := Row.new ((w.alloc (.cells #[.int .i64 x.kind, .int .i64 x.field, .int .i64 x.value, .slice A n c, .slice E m d] 47)).alloc (.cells #[.int .i64 y.id, .slice (some ⟨ba, oa, none⟩) n1 c1] 27)) 27 [.int .i64 z.id, .slice (some ⟨bb, ob, none⟩) n2 c2]
        rw [World.size_alloc] at S1
        rw [World.size_alloc, World.size_alloc] at S2
        have S1 := ((S1.below b2 ww1).below b3 z1).below b4 y1
        have S2 := ((S2.below b2 ww2).below b3 z2).below b4 y2
        have d0 := S0.cell 0
        have d1 := S0.cell 1
        have d2 := S0.cell 2
        have d3 := S0.cell 3
        have d4 := S0.cell 4
        have d5 := S1.cell 1
        have d6 := S2.cell 1
        simp at d0 d1 d2 d3 d4 d5 d6
        clear S0 S1 S2
        clear hC2 hC3 hC4 hok h1 h2 ca cb
        go_wp2_with fail
        refine wp_region_qb (by kernel_rfl) (by kernel_rfl) ?_; (repeat (go_big_quiet_step ((go_at_call 53; exact quietB (implCompareValues _ (H3.out.gr RI.keeps _ _) (G3.out.gr RP.keeps _ _) f1 f2 f3 fa fb))))); refine wpQuiet_nil ?_; intro w8 hb8
        go_wp2
        go_ret
        exact ⟨ret_int (HE2.out.2.trans HE2.out.1.symm), B4.trans (hb8.mono B4.size)⟩
end Go.Proofs.Ytejpfjknlckffaa.Wk

namespace Go.Proofs.Ytejpfjknlckffaa.P
open Go.Proofs.Ytejpfjknlckffaa.M
set_option linter.unusedVariables false

def negV (a : Int) : Int := if a ≠ 2 then -a else a
/-- What a node does to the stack; the top stands last. -/
noncomputable def stepE (x y : It) (n : Nd) (s : List Int) : List Int :=
  if n.op = 0 then s ++ [cmpIs n.wish x y]
  else if n.op = 3 then s.set (s.length - 1) (negV (s.getD (s.length - 1) 0))
  else s.take (s.length - 2) ++ [comb n.op (s.getD (s.length - 2) 0) (s.getD (s.length - 1) 0)]
noncomputable def runE (x y : It) (l : List Nd) : Nat → List Int
  | 0 => []
  | k + 1 => match l[k]? with
    | some n => stepE x y n (runE x y l k)
    | none => runE x y l k
theorem runE_succ {x y : It} {l : List Nd} {k : Nat} {n : Nd} (h : l[k]? = some n) : runE x y l (k + 1) = stepE x y n (runE x y l k) := by rw [runE, h]
/-- What a valid expression answers on valid items. -/
noncomputable def evE (l : List Nd) (x y : It) : Int := (runE x y l l.length).getD 0 0
noncomputable def cmpE (l : List Nd) (x y : It) : Int := if okE l && okI x && okI y then evE l x y else 2
def InV (s : List Int) : Prop := ∀ a ∈ s, -1 ≤ a ∧ a ≤ 2
theorem cmpV_bd (w : Wi) (a b : Int) : -1 ≤ cmpV w a b ∧ cmpV w a b ≤ 2 := by
  unfold cmpV
  repeat' split
  all_goals omega
theorem cmpIs_bd (w : Wi) (x y : It) : -1 ≤ cmpIs w x y ∧ cmpIs w x y ≤ 2 := by
  unfold cmpIs
  split
  · exact cmpV_bd _ _ _
  · omega
theorem comb_bd (op : Int) {a b : Int} (ha : -1 ≤ a ∧ a ≤ 2) (hb : -1 ≤ b ∧ b ≤ 2) : -1 ≤ comb op a b ∧ comb op a b ≤ 2 := by
  unfold comb
  repeat' split
  all_goals omega
theorem negV_bd {a : Int} (ha : -1 ≤ a ∧ a ≤ 2) : -1 ≤ negV a ∧ negV a ≤ 2 := by
  unfold negV
  split <;> omega
theorem InV.at_ {s : List Int} (h : InV s) (i : Nat) : -1 ≤ s.getD i 0 ∧ s.getD i 0 ≤ 2 := by
  simp only [List.getD]
  cases e : s[i]? with
  | none => simp
  | some a => exact h a (List.mem_of_getElem? e)
theorem InV.step {s : List Int} (h : InV s) (x y : It) (n : Nd) : InV (stepE x y n s) := by
  intro a ha
  unfold stepE at ha
  split at ha
  · rcases List.mem_append.1 ha with ha | ha
    · exact h a ha
    · simp at ha; subst ha; exact cmpIs_bd _ _ _
  · split at ha
    · rcases List.mem_or_eq_of_mem_set ha with ha | ha
      · exact h a ha
      · subst ha; exact negV_bd (h.at_ _)
    · rcases List.mem_append.1 ha with ha | ha
      · exact h a (List.mem_of_mem_take ha)
      · simp at ha; subst ha; exact comb_bd _ (h.at_ _) (h.at_ _)
theorem InV.run (x y : It) (l : List Nd) : ∀ k, InV (runE x y l k)
  | 0 => by intro a ha; simp [runE] at ha
  | k + 1 => by
    rw [runE]
    split
    · exact (InV.run x y l k).step _ _ _
    · exact InV.run x y l k
theorem dep_unique {l : List Nd} {k d d' : Nat} (h : Dep l k d) (h' : Dep l k d') : d = d' := by
  unfold Dep at h h'
  rw [h] at h'
  injection h'
theorem stepE_len {x y : It} {n : Nd} {s : List Int} (h : opnds n.op ≤ s.length) (hop : 0 ≤ n.op ∧ n.op ≤ 4) : (stepE x y n s).length = s.length + 1 - opnds n.op := by
  unfold stepE opnds at *
  by_cases h0 : n.op = 0
  · simp [h0]
  · by_cases h3 : n.op = 3
    · simp [h3]
    · simp only [h0, h3, if_false] at h ⊢
      rw [List.length_append, List.length_take, List.length_singleton]; omega
theorem runE_len {x y : It} {l : List Nd} : ∀ {k d : Nat}, k ≤ l.length → Dep l k d → okE l = true → (runE x y l k).length = d
  | 0, d, _, h, _ => by
    have := dep_unique h (dep_zero l)
    subst this; rfl
  | k + 1, d, hk, h, hE => by
    have hx : l[k]? = some l[k] := List.getElem?_eq_getElem (by omega)
    obtain ⟨hok, d', hd', ho⟩ := okE_at hE hx
    have hop : 0 ≤ l[k].op ∧ l[k].op ≤ 4 := by
      unfold okN at hok
      rw [Bool.and_eq_true] at hok
      exact inR_t hok.1
    have ih := runE_len (x := x) (y := y) (by omega : k ≤ l.length) hd' hE
    have h2 := dep_unique h (dep_step hd' hx hok ho)
    rw [runE_succ hx, stepE_len (by omega) hop, ih, h2]
theorem stepE_0 {x y : It} {n : Nd} (h : n.op = 0) (s : List Int) : stepE x y n s = s ++ [cmpIs n.wish x y] := by unfold stepE; rw [if_pos h]
theorem stepE_3 {x y : It} {n : Nd} (h : n.op = 3) (s : List Int) : stepE x y n s = s.set (s.length - 1) (negV (s.getD (s.length - 1) 0)) := by unfold stepE; rw [if_neg (by omega), if_pos h]
theorem stepE_2 {x y : It} {n : Nd} (h : n.op ≠ 0) (h' : n.op ≠ 3) (s : List Int) : stepE x y n s = s.take (s.length - 2) ++ [comb n.op (s.getD (s.length - 2) 0) (s.getD (s.length - 1) 0)] := by unfold stepE; rw [if_neg h, if_neg h']
theorem set_take (s : List Int) (v : Int) (h : 2 ≤ s.length) : (s.set (s.length - 2) v).take (s.length - 1) = s.take (s.length - 2) ++ [v] := by
  apply List.ext_getElem?
  intro i
  rw [List.getElem?_take]
  by_cases h1 : i < s.length - 1
  · rw [if_pos h1, List.getElem?_set]
    by_cases h2 : s.length - 2 = i
    · subst h2
      rw [if_pos rfl, if_pos (by omega), List.getElem?_append_right (by rw [List.length_take]; omega), List.length_take]
      rw [show s.length - 2 - min (s.length - 2) s.length = 0 by omega]; rfl
    · rw [if_neg h2, List.getElem?_append_left (by rw [List.length_take]; omega), List.getElem?_take, if_pos (by omega)]
  · rw [if_neg h1, List.getElem?_eq_none]
    rw [List.length_append, List.length_take, List.length_singleton]; omega
end Go.Proofs.Ytejpfjknlckffaa.P

namespace Go.Proofs.Ytejpfjknlckffaa.Wk
open Go.RowKit Go.Proofs.Ytejpfjknlckffaa.M
set_option linter.unusedVariables false
attribute [local go_sem] cell_grow

theorem info_i3 : (Try.prog.info? 3).map (fun i => (i.zero, i.size, i.bytes)) = some (some (.int .i64 0), 1, 8) := by kernel_rfl
theorem set_sameL {α : Type} {l : List α} {i : Nat} {x : α} (h : l[i]? = some x) : l.set i x = l := by
  apply List.ext_getElem?
  intro t
  rw [List.getElem?_set]
  by_cases e : i = t
  · subst e
    rw [if_pos rfl, if_pos (List.getElem?_eq_some_iff.1 h).1, h]
  · rw [if_neg e]
/-- The first m elements of a row of the call's own. -/
theorem own_take {w : World} {base E n c m : Nat} {A : Option Addr} {xs : List Value} (h : w.ownsRow base E 1 (.slice A n c) n xs) (hm : m ≤ n) (hn : 0 < n) : w.ownsRow base E 1 (.slice A m c) m (xs.take m) := by
  obtain ⟨g, c', cs, e, hb, h1, h2, hR, hL⟩ := own_row h hn
  injection e with e1 _ e3
  subst e1 e3
  have hxl : xs.length = n := by have := h.1; omega
  have e2 : xs ++ cs = xs.take m ++ (xs.drop m ++ cs) := by rw [← List.append_assoc, List.take_append_drop]
  rw [e2] at hR hL
  exact row_own hR (by rw [List.length_take]; omega) hb (by omega) h2 hL
set_option maxHeartbeats 1600000 in
theorem l5Pareto {a b : Int} (w : World) (ha : -1 ≤ a ∧ a ≤ 2) (hb : -1 ≤ b ∧ b ≤ 2) : Calls Try.prog 56 #[.int .i64 a, .int .i64 b] w fun e w' => e = .returned (.int .i64 (P.comb 1 a b)) ∧ w = w' := by
  rcases (by omega : a = -1 ∨ a = 0 ∨ a = 1 ∨ a = 2) with rfl | rfl | rfl | rfl <;> rcases (by omega : b = -1 ∨ b = 0 ∨ b = 1 ∨ b = 2) with rfl | rfl | rfl | rfl <;>
  · go_enter Try.func56, Try.ntmps56
    go_wp2
    go_ret
    exact ⟨rfl, rfl⟩
set_option maxHeartbeats 1600000 in
theorem l5Meet {a b : Int} (w : World) (ha : -1 ≤ a ∧ a ≤ 2) (hb : -1 ≤ b ∧ b ≤ 2) : Calls Try.prog 57 #[.int .i64 a, .int .i64 b] w fun e w' => e = .returned (.int .i64 (P.comb 4 a b)) ∧ w = w' := by
  rcases (by omega : a = -1 ∨ a = 0 ∨ a = 1 ∨ a = 2) with rfl | rfl | rfl | rfl <;> rcases (by omega : b = -1 ∨ b = 0 ∨ b = 1 ∨ b = 2) with rfl | rfl | rfl | rfl <;>
  · go_enter Try.func57, Try.ntmps57
    go_wp2
    go_ret
    exact ⟨rfl, rfl⟩
set_option maxHeartbeats 1600000 in
theorem l5Op {op a b : Int} (w : World) (hop : op = 1 ∨ op = 2 ∨ op = 4) (ha : -1 ≤ a ∧ a ≤ 2) (hb : -1 ≤ b ∧ b ≤ 2) : Calls Try.prog 41 #[.int .i64 op, .int .i64 a, .int .i64 b] w fun e w' => e = .returned (.int .i64 (P.comb op a b)) ∧ w = w' := by
  rcases hop with rfl | rfl | rfl
  · go_enter Try.func41, Try.ntmps41
    go_wp2_with (go_at_call 56; refine (l5Pareto _ ha hb).mono ?_; rintro e w' ⟨rfl, rfl⟩)
    go_ret
    exact ⟨rfl, rfl⟩
  · by_cases h : a = 0
    · have q : (a != 0) = false := by simpa using h
      have HE : Hid (P.comb 2 a b = b) := by show _ = _; unfold P.comb; simp [h]
      clear h
      go_enter Try.func41, Try.ntmps41
      go_wp2
      go_ret
      exact ⟨ret_int HE.out.symm, rfl⟩
    · have q : (a != 0) = true := by simpa using h
      have HE : Hid (P.comb 2 a b = a) := by show _ = _; unfold P.comb; simp [h]
      clear h
      go_enter Try.func41, Try.ntmps41
      go_wp2
      go_ret
      exact ⟨ret_int HE.out.symm, rfl⟩
  · go_enter Try.func41, Try.ntmps41
    go_wp2_with (go_at_call 57; refine (l5Meet _ ha hb).mono ?_; rintro e w' ⟨rfl, rfl⟩)
    go_ret
    exact ⟨rfl, rfl⟩
set_option maxHeartbeats 3200000 in
theorem combined {op a b : Int} (w : World) (hop : op = 1 ∨ op = 2 ∨ op = 4) (ha : -1 ≤ a ∧ a ≤ 2) (hb : -1 ≤ b ∧ b ≤ 2) : Calls Try.prog 39 #[.int .i64 op, .int .i64 a, .int .i64 b] w fun e w' => e = .returned (.int .i64 (P.comb op a b)) ∧ w = w' := by
  rcases hop with rfl | rfl | rfl <;> rcases (by omega : a = -1 ∨ a = 0 ∨ a = 1 ∨ a = 2) with rfl | rfl | rfl | rfl <;> rcases (by omega : b = -1 ∨ b = 0 ∨ b = 1 ∨ b = 2) with rfl | rfl | rfl | rfl <;>
  · go_enter Try.func39, Try.ntmps39
    go_wp2
    go_ret
    exact ⟨rfl, rfl⟩
set_option maxHeartbeats 6400000 in
set_option maxRecDepth 100000 in
theorem specWalk {A A1 A2 : Option Addr} {n c n1 c1 n2 c2 : Nat} {l : List Nd} {x y : It} (w : World) (h : Sl RN 6 w w.heap.size A n c l) (hx1 : Sl RI 1 w w.heap.size A1 n1 c1 x.vals) (fx : Fit x.id) (hy1 : Sl RI 1 w w.heap.size A2 n2 c2 y.vals) (fy : Fit y.id) (hE : P.okE l = true) (hox : P.okI x = true) (hoy : P.okI y = true) :
    Calls Try.prog 22 #[.slice A n c, .agg #[.int .i64 x.id, .slice A1 n1 c1], .agg #[.int .i64 y.id, .slice A2 n2 c2]] w fun e w' => e = .returned (.int .i64 (P.evE l x y)) ∧ Below w.heap.size w w' := by
  obtain ⟨i0, hi, hz0, hz1, hz2⟩ := info_parts info_i3
  have HL := Lib.hid h.len
  have HE := Lib.hid hE
  have hn9 : n ≤ 9 := by have := (P.okE_len hE).1; have := HL.out; omega
  have hle := h.le
  have hmx := h.max
  unfold maxLen at hmx
  have B2 := ((Below.refl w.heap.size w).alloc (Nat.le_refl _) (.cells #[.int .i64 x.id, .slice A1 n1 c1] 27)).alloc (by simp) (.cells #[.int .i64 y.id, .slice A2 n2 c2] 27)
  have R0 := Lib.hid ((Row.new w 27 [.int .i64 x.id, .slice A1 n1 c1]).alloc (.cells #[.int .i64 y.id, .slice A2 n2 c2] 27))
  have R1 : Hid (Row ((w.alloc (.cells #[.int .i64 x.id, .slice A1 n1 c1] 27)).alloc (.cells #[.int .i64 y.id, .slice A2 n2 c2] 27)) (w.heap.size + 1) 27 [.int .i64 y.id, .slice A2 n2 c2]) := by
    have := Row.new (w.alloc (.cells #[.int .i64 x.id, .slice A1 n1 c1] 27)) 27 [.int .i64 y.id, .slice A2 n2 c2]
    rw [World.size_alloc] at this
    exact this
  have hs2 : ((w.alloc (.cells #[.int .i64 x.id, .slice A1 n1 c1] 27)).alloc (.cells #[.int .i64 y.id, .slice A2 n2 c2] 27)).heap.size = w.heap.size + 1 + 1 := by simp
  have HOX := Lib.hid hox
  have HOY := Lib.hid hoy
  have HXS := Lib.hid hx1
  have HYS := Lib.hid hy1
  clear hE hox hoy hx1 hy1
  obtain ⟨W2, hW2⟩ : ∃ W2, (w.alloc (.cells #[.int .i64 x.id, .slice A1 n1 c1] 27)).alloc (.cells #[.int .i64 y.id, .slice A2 n2 c2] 27) = W2 := ⟨_, rfl⟩
  have HB2 : Hid (Below w.heap.size w W2) := by rw [← hW2]; exact B2
  have HR0 : Hid (Row W2 w.heap.size 27 [.int .i64 x.id, .slice A1 n1 c1]) := by rw [← hW2]; exact R0.out
  have HR1 : Hid (Row W2 (w.heap.size + 1) 27 [.int .i64 y.id, .slice A2 n2 c2]) := by rw [← hW2]; exact R1.out
  have hs3 : W2.heap.size = w.heap.size + 1 + 1 := by rw [← hW2]; exact hs2
  have HOWN : Hid ((W2.alloc (.cells #[] 3)).ownsRow (w.heap.size + 1 + 1) 3 1 (.slice (some ⟨w.heap.size + 1 + 1, 0, none⟩) 0 0) 0 []) := by
    have := own_emptyS W2 3 1
    rw [hs3] at this; exact this
  have HBE : Hid (Below (w.heap.size + 1 + 1) W2 (W2.alloc (.cells #[] 3))) := (Below.refl _ _).alloc (by omega) _
  clear B2 R0 R1 hs2
  go_enter Try.func22, Try.ntmps22
  go_wp2
  go_loopw [7, 8, 9, 10, 11] (fun vs vi v9 v10 v11 wr => ∃ (k d : Nat) (s : List Int), k ≤ n ∧ vi = .int .i64 k ∧ Hid (P.Dep l k d) ∧ Hid (P.runE x y l k = s) ∧ d ≤ k ∧ wr.ownsRow (w.heap.size + 1 + 1) 3 1 vs d (s.map (Value.int .i64)) ∧ Below (w.heap.size + 1 + 1) W2 wr) (fun _ vi _ _ _ _ => n - (intOf vi).toNat)
  case atStart => exact ⟨0, 0, [], Nat.zero_le _, rfl, P.dep_zero l, rfl, Nat.le_refl _, HOWN.out, HBE.out⟩
  case round =>
    clear HOWN HBE hW2
    obtain ⟨k, d, s, hk, rfl, HD, HS, hdk, hown, hb2⟩ := hrel
    have hsz2 := hb2.size
    have hbw := HB2.out.trans (hb2.mono (by omega))
    have hsz : w.heap.size + 1 + 1 ≤ wr.heap.size := by omega
    by_cases hlt : k < n
    · obtain ⟨b, o, nd, A3, n3, c3, E3, m3, d3, rfl, hb, hx, hf, hs, ht1, g0, g1, g2, g3, g4, g5⟩ := nodeAt h hlt
      obtain ⟨hokn, d', hd', hopd⟩ := P.okE_at HE.out hx
      obtain rfl := P.dep_unique HD.out hd'
      have hsl : s.length = d := by rw [← HS.out]; exact P.runE_len (by have := HL.out; omega) HD.out HE.out
      have HIV : Hid (P.InV s) := by rw [← HS.out]; exact P.InV.run x y l k
      have HD2 := Lib.hid (P.dep_step HD.out hx hokn hopd)
      have HS2 : Hid (P.runE x y l (k + 1) = P.stepE x y nd s) := by show _ = _; rw [P.runE_succ hx, HS.out]
      obtain ⟨f0, f1, f2, f3⟩ := hf
      have i1 : b < wr.heap.size := by omega
      have q1 : (k : Int) < (n : Int) := by omega
      have q2 : (n : Int) ≤ (c : Int) := by omega
      have e0 := ((cell_of hbw) b (o + k * 6) hb).trans g0
      have e1 := ((cell_of hbw) b (o + k * 6 + 1) hb).trans g1
      have e2 := ((cell_of hbw) b (o + k * 6 + 2) hb).trans g2
      have e3 := ((cell_of hbw) b (o + k * 6 + 3) hb).trans g3
      have e4 := ((cell_of hbw) b (o + k * 6 + 4) hb).trans g4
      have e5 := ((cell_of hbw) b (o + k * 6 + 5) hb).trans g5
      have hop := P.okE_at HE.out hx |>.1
      have hop4 : 0 ≤ nd.op ∧ nd.op ≤ 4 := by
        unfold P.okN at hop
        rw [Bool.and_eq_true] at hop
        exact P.inR_t hop.1
      have HN1 := Lib.hid (hs.on RI.keeps hbw)
      have HN2 := Lib.hid (ht1.on RP.keeps hbw)
      have HO := Lib.hid hown
      have HB3 := Lib.hid hb2
      have HBW := Lib.hid hbw
      obtain ⟨A', c', hv, hdc, hcm⟩ := own_form hown
      subst hv
      clear g0 g1 g2 g3 g4 g5 hs ht1
      by_cases hp0 : nd.op = 0
      · have q0 : (nd.op == 0) = true := by simpa using hp0
        have HST : Hid (P.stepE x y nd s = s ++ [P.cmpIs nd.wish x y]) := P.stepE_0 hp0 s
        have hdd : d + 1 - P.opnds nd.op = d + 1 := by rw [hp0]; rfl
        rw [hdd] at HD2
        have HW : Hid (P.okW nd.wish = true) := by
          show _ = _
          rw [← P.okN_0 hp0]; exact hop
        obtain ⟨p0, p2⟩ := P.okW_field HW.out
        obtain ⟨L1, va, hxa, hva⟩ := okI_val HOX.out (show nd.wish.field.toNat ≤ 2 by omega)
        obtain ⟨L2, vb, hxb, hvb⟩ := okI_val HOY.out (show nd.wish.field.toNat ≤ 2 by omega)
        have hC : Hid (P.cmpIs nd.wish x y = P.cmpV nd.wish va vb) := by
          show _ = _
          unfold P.cmpIs
          rw [HW.out, HOX.out, HOY.out]
          simp [List.getD, hxa, hxb]
        obtain ⟨ba, oa, va', ea, hba, hxa', _, ca⟩ := HXS.out.int (k := nd.wish.field.toNat) (by have := HXS.out.len; omega)
        obtain ⟨bb, ob, vb', eb, hbb, hxb', _, cb⟩ := HYS.out.int (k := nd.wish.field.toNat) (by have := HYS.out.len; omega)
        obtain rfl : va' = va := by rw [hxa] at hxa'; injection hxa' with hxa'; exact hxa'.symm
        obtain rfl : vb' = vb := by rw [hxb] at hxb'; injection hxb' with hxb'; exact hxb'.symm
        have n13 : n1 = 3 := by have := HXS.out.len; omega
        have n23 : n2 = 3 := by have := HYS.out.len; omega
        have d0 := (HR0.out.below hb2 (by omega)).cell 1
        have d1 := (HR1.out.below hb2 (by omega)).cell 1
        simp at d0 d1
        rw [ea] at d0
        rw [eb] at d1
        have da := ((cell_of hbw) ba (oa + nd.wish.field.toNat) hba).trans ca
        have db := ((cell_of hbw) bb (ob + nd.wish.field.toNat) hbb).trans cb
        have ua : ba < wr.heap.size := by omega
        have ub : bb < wr.heap.size := by omega
        have uc : w.heap.size < wr.heap.size := by omega
        have ud : w.heap.size + 1 < wr.heap.size := by omega
        have q4 : nd.wish.field < (n1 : Int) := by omega
        have q5 : nd.wish.field < (n2 : Int) := by omega
        have q6 : (0 : Int) ≤ nd.wish.field := by omega
        have q7 : (n1 : Int) ≤ (c1 : Int) := by have := HXS.out.le; omega
        have q8 : (n2 : Int) ≤ (c2 : Int) := by have := HYS.out.le; omega
        clear hx hxa hxb hxa' hxb' hp0 hop hopd hokn hd' L1 L2 ca cb p0 p2 hown ea eb n13 n23
        go_wp2_with fail
        refine wp_region_mt 16 _ (by kernel_rfl) rfl rfl (fun _ _ _ _ h => h) (by kernel_rfl) ?_; simp only [List.take_succ_cons, List.take_zero, List.drop_succ_cons, List.drop_zero, Act.put, Act.eval, List.setIfInBounds_toArray, List.set_cons_zero, List.set_cons_succ, Array.getD_eq_getD_getElem?, List.getElem?_toArray, List.getElem?_cons_succ, List.getElem?_cons_zero, Option.getD_some]; (repeat (go_big_quiet_step ((go_at_call 40; exact quietB (l4Compare _ (HN1.out.gr RI.keeps _ _) (HN2.out.gr RP.keeps _ _) HW.out hva hvb))))); refine wpQuiet_nil ?_; intro w8 hb8
        have hown8 := own_below HO.out hb8
        have hb28 := HB3.out.trans (hb8.mono hsz)
        have hsz8 : w.heap.size + 1 + 1 ≤ w8.heap.size := by have := hb8.size; omega
        clear hb8
        go_wp2_with (at_builtin; refine wpList_append_own _ rfl _ _ 25 rfl (w.heap.size + 1 + 1) 3 i0 (.int .i64 0) 1 8 Try.underlying25 hi hz0 hz1 hz2 rfl (by decide) _ _ _ rfl (hown8.alloc _) ⟨w8.heap.size, 0, none⟩ 1 1 [_] rfl rfl (one_new _ _ _) (by simp [Value.oneCell']) (by unfold maxLen; omega) (by omega) (by simp; omega) ?_)
        intro v' w4 hown4 hgrow _
        have hb24 := Lib.hid ((hb28.alloc hsz8 (.cells #[.int .i64 (P.cmpV nd.wish va' vb')] 3)).grown hgrow (by simp; omega) (fun k hk => (hown8.lt k hk).1))
        have hown5 : Hid (w4.ownsRow (w.heap.size + 1 + 1) 3 1 v' (d + 1) ((P.stepE x y nd s).map (Value.int .i64))) := by
          refine Lib.hid ?_
          rw [HST.out, hC.out]
          simpa using hown4
        clear hown4 hgrow hown8 hb28
        go_wp2
        go_roundw
        case rel =>
          exact ⟨k + 1, d + 1, _, by omega, by go_num, HD2, HS2, by omega, hown5.out, hb24.out⟩
        case measure => simp [intOf]; omega
      · have q0 : (nd.op == 0) = false := by simpa using hp0
        have hd0 : 0 < d := by
          have : 0 < P.opnds nd.op := by unfold P.opnds; rw [if_neg hp0]; split <;> omega
          omega
        obtain ⟨g, c'', cs, ee, hgb, hn1, hn2, hR, hLL⟩ := own_row hown hd0
        injection ee with ee1 ee2 ee3
        subst ee1 ee3
        have hgl : g < wr.heap.size := hR.lt
        have hgl0 : g < wr.heap.size := (hown.lt g rfl).2
        have hmx2 := hn2
        unfold maxLen at hmx2
        have lz : s.length - 1 = d - 1 := by omega
        have ly : s.length - 2 = d - 2 := by omega
        obtain ⟨a1, ha1⟩ : ∃ a, s[d - 1]? = some a := ⟨_, List.getElem?_eq_getElem (by omega)⟩
        have hA1 : s.getD (s.length - 1) 0 = a1 := by rw [lz]; simp [List.getD, ha1]
        have r1 := HIV.out a1 (List.mem_of_getElem? ha1)
        have hc1 : wr.cell? ⟨g, d - 1, none⟩ = some (.int .i64 a1) := by
          rw [hR.cell, List.getElem?_append_left (by rw [List.length_map]; omega), List.getElem?_map, ha1]; rfl
        have hf1 := hR.free (d - 1)
        have w1 : IntKind.i64.wrap ((d : Int) - 1) = (d : Int) - 1 := IntWalk.i64_in _ (by omega)
        have w2 : ((d : Int) - 1).toNat = d - 1 := by omega
        have w3 : (d : Int) - 1 < (d : Int) := by omega
        have w4 : (0 : Int) ≤ (d : Int) - 1 := by omega
        have w5 : (d : Int) ≤ (c' : Int) := by omega
        by_cases hp3 : nd.op = 3
        · have q3 : (nd.op == 3) = true := by simpa using hp3
          have hdd : d + 1 - P.opnds nd.op = d := by rw [hp3]; show d + 1 - 1 = d; omega
          rw [hdd] at HD2
          have HST : Hid (P.stepE x y nd s = s.set (d - 1) (P.negV a1)) := by show _ = _; rw [P.stepE_3 hp3, hA1, lz]
          by_cases h2 : a1 = 2
          · have q5 : (a1 != 2) = false := by simpa using h2
            have HSS : Hid (P.stepE x y nd s = s) := by
              show _ = _
              rw [HST.out, h2]
              exact set_sameL (by rw [ha1, h2]; rfl)
            have HO2 := Lib.hid HO.out
            clear hx hp0 hp3 hop hopd hokn hd' hown hR h2 ha1 hA1
            go_wp2
            go_roundw
            case rel => exact ⟨k + 1, d, _, by omega, by go_num, HD2, HS2, by omega, by rw [HSS.out]; exact HO2.out, HB3.out⟩
            case measure => simp [intOf]; omega
          · have q5 : (a1 != 2) = true := by simpa using h2
            have q6 : IntKind.i64.wrap (-a1) = -a1 := IntWalk.i64_in _ (by omega)
            have hng : P.negV a1 = -a1 := if_pos h2
            have R2 : Row (wr.setCell ⟨g, d - 1, none⟩ (.int .i64 (-a1))) g 3 ((s.set (d - 1) (-a1)).map (Value.int .i64) ++ cs) := by
              have := hR.set (d - 1) (.int .i64 (-a1))
              rwa [map_set_app _ _ _ (by omega)] at this
            have HO2 := Lib.hid ((row_own (base := w.heap.size + 1 + 1) (n := d) (sz := 1) R2 (by rw [List.length_map, List.length_set]; omega) hgb hn1 hn2 (by rw [List.length_append, List.length_map] at hLL ⊢; rw [List.length_set]; exact hLL)))
            have HB4 := Lib.hid ((hb2.setCell (p := ⟨g, d - 1, none⟩) hgb (.int .i64 (-a1))))
            have HSS : Hid (P.stepE x y nd s = s.set (d - 1) (-a1)) := by show _ = _; rw [HST.out, hng]
            clear hx hp0 hp3 hop hopd hokn hd' hown hR R2 h2 ha1 hA1
            go_wp2
            go_roundw
            case rel => exact ⟨k + 1, d, _, by omega, by go_num, HD2, HS2, by omega, by rw [HSS.out]; exact HO2.out, HB4.out⟩
            case measure => simp [intOf]; omega
        · have q3 : (nd.op == 3) = false := by simpa using hp3
          have h124 : nd.op = 1 ∨ nd.op = 2 ∨ nd.op = 4 := by omega
          have hop2 : P.opnds nd.op = 2 := by unfold P.opnds; rw [if_neg hp0, if_neg hp3]
          have hd2 : 2 ≤ d := by omega
          have hdd : d + 1 - P.opnds nd.op = d - 1 := by rw [hop2]; omega
          rw [hdd] at HD2
          obtain ⟨a2, ha2⟩ : ∃ a, s[d - 2]? = some a := ⟨_, List.getElem?_eq_getElem (by omega)⟩
          have hA2 : s.getD (s.length - 2) 0 = a2 := by rw [ly]; simp [List.getD, ha2]
          have r2 := HIV.out a2 (List.mem_of_getElem? ha2)
          have HST : Hid (P.stepE x y nd s = s.take (d - 2) ++ [P.comb nd.op a2 a1]) := by show _ = _; rw [P.stepE_2 hp0 hp3, hA1, hA2, ly]
          have hc2 : wr.cell? ⟨g, d - 2, none⟩ = some (.int .i64 a2) := by
            rw [hR.cell, List.getElem?_append_left (by rw [List.length_map]; omega), List.getElem?_map, ha2]; rfl
          have hf2 := hR.free (d - 2)
          have x1 : IntKind.i64.wrap ((d : Int) - 2) = (d : Int) - 2 := IntWalk.i64_in _ (by omega)
          have x2 : ((d : Int) - 2).toNat = d - 2 := by omega
          have x3 : (d : Int) - 2 < (d : Int) := by omega
          have x4 : (0 : Int) ≤ (d : Int) - 2 := by omega
          have hcb := P.comb_bd nd.op r2 r1
          obtain ⟨cv, hcv⟩ : ∃ cv, P.comb nd.op a2 a1 = cv := ⟨_, rfl⟩
          rw [hcv] at hcb
          have HST2 : Hid (P.stepE x y nd s = s.take (d - 2) ++ [cv]) := by show _ = _; rw [HST.out, hcv]
          have HT := Lib.hid (own_take HO.out (m := d - 2) (by omega) hd0)
          clear hx hp0 hp3 hop hopd hokn hd' hown hR HST hA1 hA2 ha1 ha2
          go_wp2_with fail
          refine wp_region_qb (by kernel_rfl) (by kernel_rfl) ?_; (repeat (go_big_quiet_step ((go_at_call 41; (try rw [← hcv]); exact quietS rfl (l5Op _ h124 r2 r1))))); refine wpQuiet_nil ?_; intro w8 hb8
          have hown8 := own_below HT.out hb8
          have hb28 := HB3.out.trans (hb8.mono hsz)
          have hsz8 : w.heap.size + 1 + 1 ≤ w8.heap.size := by have := hb8.size; omega
          clear hb8
          (try rw [hcv])
          go_wp2_with (at_builtin; refine wpList_append_own _ rfl _ _ 25 rfl (w.heap.size + 1 + 1) 3 i0 (.int .i64 0) 1 8 Try.underlying25 hi hz0 hz1 hz2 rfl (by decide) _ _ _ rfl (hown8.alloc _) ⟨w8.heap.size, 0, none⟩ 1 1 [_] rfl rfl (one_new _ _ _) (by simp [Value.oneCell']) (by unfold maxLen; omega) (by omega) (by simp; omega) ?_)
          intro v' w4 hown4 hgrow _
          have hb24 := Lib.hid ((hb28.alloc hsz8 (.cells #[.int .i64 cv] 3)).grown hgrow (by simp; omega) (fun k hk => (hown8.lt k hk).1))
          have hown5 : Hid (w4.ownsRow (w.heap.size + 1 + 1) 3 1 v' (d - 1) ((P.stepE x y nd s).map (Value.int .i64))) := by
            refine Lib.hid ?_
            rw [HST2.out]
            rw [show d - 2 + 1 = d - 1 by omega] at hown4
            simpa [List.map_take] using hown4
          clear hown4 hgrow hown8 hb28
          go_wp2
          go_roundw
          case rel => exact ⟨k + 1, d - 1, _, by omega, by go_num, HD2, HS2, by omega, hown5.out, hb24.out⟩
          case measure => simp [intOf]; omega
    · have hkn : k = n := by omega
      have hd1 : d = 1 := by
        have h3 := HD.out
        unfold P.Dep at h3
        rw [List.take_of_length_le (by have := HL.out; omega), (P.okE_len HE.out).2] at h3
        injection h3 with h3
        exact h3.symm
      subst hd1
      have hsl : s.length = 1 := by rw [← HS.out]; exact P.runE_len (by have := HL.out; omega) HD.out HE.out
      obtain ⟨a1, ha1⟩ : ∃ a, s[0]? = some a := ⟨_, List.getElem?_eq_getElem (by omega)⟩
      obtain ⟨g, c'', cs, ee, hgb, hn1, hn2, hR, hLL⟩ := own_row hown (by omega)
      subst ee
      have hc1 : wr.cell? ⟨g, 0, none⟩ = some (.int .i64 a1) := by
        rw [hR.cell, List.getElem?_append_left (by rw [List.length_map]; omega), List.getElem?_map, ha1]; rfl
      have HV : Hid (P.evE l x y = a1) := by
        show _ = _
        unfold P.evE
        rw [HL.out, ← hkn, HS.out]
        simp [List.getD, ha1]
      have hgl := hR.lt
      clear h hown hR
      go_wp2
      go_ret
      exact ⟨ret_int HV.out.symm, hbw⟩
set_option maxHeartbeats 6400000 in
set_option maxRecDepth 100000 in
theorem implWalk {A A1 A2 : Option Addr} {n c n1 c1 n2 c2 : Nat} {l : List Nd} {x y : It} (w : World) (h : Sl RN 6 w w.heap.size A n c l) (hx1 : Sl RI 1 w w.heap.size A1 n1 c1 x.vals) (fx : Fit x.id) (hy1 : Sl RI 1 w w.heap.size A2 n2 c2 y.vals) (fy : Fit y.id) (hE : P.okE l = true) (hox : P.okI x = true) (hoy : P.okI y = true) :
    Calls Try.prog 21 #[.slice A n c, .agg #[.int .i64 x.id, .slice A1 n1 c1], .agg #[.int .i64 y.id, .slice A2 n2 c2]] w fun e w' => e = .returned (.int .i64 (P.evE l x y)) ∧ Below w.heap.size w w' := by
  obtain ⟨i0, hi, hz0, hz1, hz2⟩ := info_parts info_i3
  have HL := Lib.hid h.len
  have HE := Lib.hid hE
  have hn9 : n ≤ 9 := by have := (P.okE_len hE).1; have := HL.out; omega
  have hle := h.le
  have hmx := h.max
  unfold maxLen at hmx
  have B2 := ((Below.refl w.heap.size w).alloc (Nat.le_refl _) (.cells #[.int .i64 x.id, .slice A1 n1 c1] 27)).alloc (by simp) (.cells #[.int .i64 y.id, .slice A2 n2 c2] 27)
  have R0 := Lib.hid ((Row.new w 27 [.int .i64 x.id, .slice A1 n1 c1]).alloc (.cells #[.int .i64 y.id, .slice A2 n2 c2] 27))
  have R1 : Hid (Row ((w.alloc (.cells #[.int .i64 x.id, .slice A1 n1 c1] 27)).alloc (.cells #[.int .i64 y.id, .slice A2 n2 c2] 27)) (w.heap.size + 1) 27 [.int .i64 y.id, .slice A2 n2 c2]) := by
    have := Row.new (w.alloc (.cells #[.int .i64 x.id, .slice A1 n1 c1] 27)) 27 [.int .i64 y.id, .slice A2 n2 c2]
    rw [World.size_alloc] at this
    exact this
  have hs2 : ((w.alloc (.cells #[.int .i64 x.id, .slice A1 n1 c1] 27)).alloc (.cells #[.int .i64 y.id, .slice A2 n2 c2] 27)).heap.size = w.heap.size + 1 + 1 := by simp
  have HOX := Lib.hid hox
  have HOY := Lib.hid hoy
  have HXS := Lib.hid hx1
  have HYS := Lib.hid hy1
  clear hE hox hoy hx1 hy1
  obtain ⟨W2, hW2⟩ : ∃ W2, (w.alloc (.cells #[.int .i64 x.id, .slice A1 n1 c1] 27)).alloc (.cells #[.int .i64 y.id, .slice A2 n2 c2] 27) = W2 := ⟨_, rfl⟩
  have HB2 : Hid (Below w.heap.size w W2) := by rw [← hW2]; exact B2
  have HR0 : Hid (Row W2 w.heap.size 27 [.int .i64 x.id, .slice A1 n1 c1]) := by rw [← hW2]; exact R0.out
  have HR1 : Hid (Row W2 (w.heap.size + 1) 27 [.int .i64 y.id, .slice A2 n2 c2]) := by rw [← hW2]; exact R1.out
  have hs3 : W2.heap.size = w.heap.size + 1 + 1 := by rw [← hW2]; exact hs2
  have HOWN : Hid ((W2.alloc (.cells #[] 3)).ownsRow (w.heap.size + 1 + 1) 3 1 (.slice (some ⟨w.heap.size + 1 + 1, 0, none⟩) 0 0) 0 []) := by
    have := own_emptyS W2 3 1
    rw [hs3] at this; exact this
  have HBE : Hid (Below (w.heap.size + 1 + 1) W2 (W2.alloc (.cells #[] 3))) := (Below.refl _ _).alloc (by omega) _
  clear B2 R0 R1 hs2
  go_enter Try.func21, Try.ntmps21
  go_wp2
  go_loopw [7, 9, 10, 14] (fun vs v9 v10 vi wr => ∃ (k d : Nat) (s : List Int), k ≤ n ∧ vi = .int .i64 k ∧ Hid (P.Dep l k d) ∧ Hid (P.runE x y l k = s) ∧ d ≤ k ∧ wr.ownsRow (w.heap.size + 1 + 1) 3 1 vs d (s.map (Value.int .i64)) ∧ Below (w.heap.size + 1 + 1) W2 wr) (fun _ _ _ vi _ => n - (intOf vi).toNat)
  case atStart => exact ⟨0, 0, [], Nat.zero_le _, rfl, P.dep_zero l, rfl, Nat.le_refl _, HOWN.out, HBE.out⟩
  case round =>
    clear HOWN HBE hW2
    obtain ⟨k, d, s, hk, rfl, HD, HS, hdk, hown, hb2⟩ := hrel
    have hsz2 := hb2.size
    have hbw := HB2.out.trans (hb2.mono (by omega))
    have hsz : w.heap.size + 1 + 1 ≤ wr.heap.size := by omega
    by_cases hlt : k < n
    · obtain ⟨b, o, nd, A3, n3, c3, E3, m3, d3, rfl, hb, hx, hf, hs, ht1, g0, g1, g2, g3, g4, g5⟩ := nodeAt h hlt
      obtain ⟨hokn, d', hd', hopd⟩ := P.okE_at HE.out hx
      obtain rfl := P.dep_unique HD.out hd'
      have hsl : s.length = d := by rw [← HS.out]; exact P.runE_len (by have := HL.out; omega) HD.out HE.out
      have HIV : Hid (P.InV s) := by rw [← HS.out]; exact P.InV.run x y l k
      have HD2 := Lib.hid (P.dep_step HD.out hx hokn hopd)
      have HS2 : Hid (P.runE x y l (k + 1) = P.stepE x y nd s) := by show _ = _; rw [P.runE_succ hx, HS.out]
      obtain ⟨f0, f1, f2, f3⟩ := hf
      have i1 : b < wr.heap.size := by omega
      have q1 : (k : Int) < (n : Int) := by omega
      have q2 : (n : Int) ≤ (c : Int) := by omega
      have e0 := ((cell_of hbw) b (o + k * 6) hb).trans g0
      have e1 := ((cell_of hbw) b (o + k * 6 + 1) hb).trans g1
      have e2 := ((cell_of hbw) b (o + k * 6 + 2) hb).trans g2
      have e3 := ((cell_of hbw) b (o + k * 6 + 3) hb).trans g3
      have e4 := ((cell_of hbw) b (o + k * 6 + 4) hb).trans g4
      have e5 := ((cell_of hbw) b (o + k * 6 + 5) hb).trans g5
      have hop := P.okE_at HE.out hx |>.1
      have hop4 : 0 ≤ nd.op ∧ nd.op ≤ 4 := by
        unfold P.okN at hop
        rw [Bool.and_eq_true] at hop
        exact P.inR_t hop.1
      have BN := (Below.refl wr.heap.size wr).alloc (Nat.le_refl _) (.cells #[.int .i64 nd.op, .int .i64 nd.wish.kind, .int .i64 nd.wish.field, .int .i64 nd.wish.value, .slice A3 n3 c3, .slice E3 m3 d3] 49)
      have HN1 := Lib.hid ((hs.on RI.keeps hbw).on RI.keeps BN)
      have HN2 := Lib.hid ((ht1.on RP.keeps hbw).on RP.keeps BN)
      have HO := Lib.hid (own_below hown BN)
      have HB3 := Lib.hid (hb2.trans (BN.mono hsz))
      have HBW := Lib.hid (hbw.trans (BN.mono hbw.size))
      have HR0' := HR0.out.below HB3.out (by omega)
      have HR1' := HR1.out.below HB3.out (by omega)
      have hw1 : (wr.alloc (.cells #[.int .i64 nd.op, .int .i64 nd.wish.kind, .int .i64 nd.wish.field, .int .i64 nd.wish.value, .slice A3 n3 c3, .slice E3 m3 d3] 49)).heap.size = wr.heap.size + 1 := by simp
      obtain ⟨A', c', hv, hdc, hcm⟩ := own_form hown
      subst hv
      clear g0 g1 g2 g3 g4 g5 hs ht1
      by_cases hp0 : nd.op = 0
      · have q0 : (nd.op == 0) = true := by simpa using hp0
        have HST : Hid (P.stepE x y nd s = s ++ [P.cmpIs nd.wish x y]) := P.stepE_0 hp0 s
        have hdd : d + 1 - P.opnds nd.op = d + 1 := by rw [hp0]; rfl
        rw [hdd] at HD2
        have HW : Hid (P.okW nd.wish = true) := by
          show _ = _
          rw [← P.okN_0 hp0]; exact hop
        have d0 := HR0'.cell 0
        have d1 := HR0'.cell 1
        have d2 := HR1'.cell 0
        have d3 := HR1'.cell 1
        simp at d0 d1 d2 d3
        have uc : w.heap.size < wr.heap.size := by omega
        have ud : w.heap.size + 1 < wr.heap.size := by omega
        have HX3 := Lib.hid (HXS.out.on RI.keeps HBW.out)
        have HY3 := Lib.hid (HYS.out.on RI.keeps HBW.out)
        have hszB := HB3.out.size
        rw [hw1] at hszB
        clear hx hp0 hop hopd hokn hd' hown HR0' HR1' BN
        go_wp2_with fail
        refine (implCompareItems (x := nd.wish) (y := x) (z := y) _ HN1.out HN2.out f1 f2 f3 HX3.out fx HY3.out fy).mono ?_
        rintro e w8 ⟨rfl, hb8⟩
        have hown8 := own_below HO.out hb8
        have hb28 := HB3.out.trans (hb8.mono (by simp; omega))
        have hsz8 : w.heap.size + 1 + 1 ≤ w8.heap.size := by have := hb8.size; simp at this; omega
        clear hb8
        go_wp2_with (at_builtin; refine wpList_append_own _ rfl _ _ 25 rfl (w.heap.size + 1 + 1) 3 i0 (.int .i64 0) 1 8 Try.underlying25 hi hz0 hz1 hz2 rfl (by decide) _ _ _ rfl (hown8.alloc _) ⟨w8.heap.size, 0, none⟩ 1 1 [_] rfl rfl (one_new _ _ _) (by simp [Value.oneCell']) (by unfold maxLen; omega) (by omega) (by simp; omega) ?_)
        intro v' w4 hown4 hgrow _
        have hb24 := Lib.hid ((hb28.alloc hsz8 (.cells #[.int .i64 (P.cmpIs nd.wish x y)] 3)).grown hgrow (by simp; omega) (fun k hk => (hown8.lt k hk).1))
        have hown5 : Hid (w4.ownsRow (w.heap.size + 1 + 1) 3 1 v' (d + 1) ((P.stepE x y nd s).map (Value.int .i64))) := by
          refine Lib.hid ?_
          rw [HST.out]
          simpa using hown4
        clear hown4 hgrow hown8 hb28
        go_wp2
        go_roundw
        case rel => exact ⟨k + 1, d + 1, _, by omega, by go_num, HD2, HS2, by omega, hown5.out, hb24.out⟩
        case measure => simp [intOf]; omega
      · have q0 : (nd.op == 0) = false := by simpa using hp0
        have hd0 : 0 < d := by
          have : 0 < P.opnds nd.op := by unfold P.opnds; rw [if_neg hp0]; split <;> omega
          omega
        obtain ⟨g, c'', cs, ee, hgb, hn1, hn2, hR, hLL⟩ := own_row hown hd0
        injection ee with ee1 ee2 ee3
        subst ee1 ee3
        have hgl : g < wr.heap.size := hR.lt
        have hgl0 : g < wr.heap.size := (hown.lt g rfl).2
        have hmx2 := hn2
        unfold maxLen at hmx2
        have lz : s.length - 1 = d - 1 := by omega
        have ly : s.length - 2 = d - 2 := by omega
        obtain ⟨a1, ha1⟩ : ∃ a, s[d - 1]? = some a := ⟨_, List.getElem?_eq_getElem (by omega)⟩
        have hA1 : s.getD (s.length - 1) 0 = a1 := by rw [lz]; simp [List.getD, ha1]
        have r1 := HIV.out a1 (List.mem_of_getElem? ha1)
        have hc1 : wr.cell? ⟨g, d - 1, none⟩ = some (.int .i64 a1) := by
          rw [hR.cell, List.getElem?_append_left (by rw [List.length_map]; omega), List.getElem?_map, ha1]; rfl
        have hf1 := hR.free (d - 1)
        have w1 : IntKind.i64.wrap ((d : Int) - 1) = (d : Int) - 1 := IntWalk.i64_in _ (by omega)
        have w2 : ((d : Int) - 1).toNat = d - 1 := by omega
        have w3 : (d : Int) - 1 < (d : Int) := by omega
        have w4 : (0 : Int) ≤ (d : Int) - 1 := by omega
        have w5 : (d : Int) ≤ (c' : Int) := by omega
        by_cases hp3 : nd.op = 3
        · have q3 : (nd.op == 3) = true := by simpa using hp3
          have hdd : d + 1 - P.opnds nd.op = d := by rw [hp3]; show d + 1 - 1 = d; omega
          rw [hdd] at HD2
          have HST : Hid (P.stepE x y nd s = s.set (d - 1) (P.negV a1)) := by show _ = _; rw [P.stepE_3 hp3, hA1, lz]
          by_cases h2 : a1 = 2
          · have q5 : (a1 != 2) = false := by simpa using h2
            have HSS : Hid (P.stepE x y nd s = s) := by
              show _ = _
              rw [HST.out, h2]
              exact set_sameL (by rw [ha1, h2]; rfl)
            have HO2 := Lib.hid HO.out
            clear hx hp0 hp3 hop hopd hokn hd' hown hR h2 ha1 hA1
            go_wp2
            go_roundw
            case rel => exact ⟨k + 1, d, _, by omega, by go_num, HD2, HS2, by omega, by rw [HSS.out]; exact HO2.out, HB3.out⟩
            case measure => simp [intOf]; omega
          · have q5 : (a1 != 2) = true := by simpa using h2
            have q6 : IntKind.i64.wrap (-a1) = -a1 := IntWalk.i64_in _ (by omega)
            have hng : P.negV a1 = -a1 := if_pos h2
            have R2 : Row (wr.setCell ⟨g, d - 1, none⟩ (.int .i64 (-a1))) g 3 ((s.set (d - 1) (-a1)).map (Value.int .i64) ++ cs) := by
              have := hR.set (d - 1) (.int .i64 (-a1))
              rwa [map_set_app _ _ _ (by omega)] at this
            have HO2 := Lib.hid ((row_own (base := w.heap.size + 1 + 1) (n := d) (sz := 1) R2 (by rw [List.length_map, List.length_set]; omega) hgb hn1 hn2 (by rw [List.length_append, List.length_map] at hLL ⊢; rw [List.length_set]; exact hLL)).alloc (.cells #[.int .i64 nd.op, .int .i64 nd.wish.kind, .int .i64 nd.wish.field, .int .i64 nd.wish.value, .slice A3 n3 c3, .slice E3 m3 d3] 49))
            have HB4 := Lib.hid ((hb2.setCell (p := ⟨g, d - 1, none⟩) hgb (.int .i64 (-a1))).alloc (by have := hb2.size; simp; omega) (.cells #[.int .i64 nd.op, .int .i64 nd.wish.kind, .int .i64 nd.wish.field, .int .i64 nd.wish.value, .slice A3 n3 c3, .slice E3 m3 d3] 49))
            have HSS : Hid (P.stepE x y nd s = s.set (d - 1) (-a1)) := by show _ = _; rw [HST.out, hng]
            clear hx hp0 hp3 hop hopd hokn hd' hown hR R2 h2 ha1 hA1
            go_wp2
            go_roundw
            case rel => exact ⟨k + 1, d, _, by omega, by go_num, HD2, HS2, by omega, by rw [HSS.out]; exact HO2.out, HB4.out⟩
            case measure => simp [intOf]; omega
        · have q3 : (nd.op == 3) = false := by simpa using hp3
          have h124 : nd.op = 1 ∨ nd.op = 2 ∨ nd.op = 4 := by omega
          have hop2 : P.opnds nd.op = 2 := by unfold P.opnds; rw [if_neg hp0, if_neg hp3]
          have hd2 : 2 ≤ d := by omega
          have hdd : d + 1 - P.opnds nd.op = d - 1 := by rw [hop2]; omega
          rw [hdd] at HD2
          obtain ⟨a2, ha2⟩ : ∃ a, s[d - 2]? = some a := ⟨_, List.getElem?_eq_getElem (by omega)⟩
          have hA2 : s.getD (s.length - 2) 0 = a2 := by rw [ly]; simp [List.getD, ha2]
          have r2 := HIV.out a2 (List.mem_of_getElem? ha2)
          have HST : Hid (P.stepE x y nd s = s.take (d - 2) ++ [P.comb nd.op a2 a1]) := by show _ = _; rw [P.stepE_2 hp0 hp3, hA1, hA2, ly]
          have hc2 : wr.cell? ⟨g, d - 2, none⟩ = some (.int .i64 a2) := by
            rw [hR.cell, List.getElem?_append_left (by rw [List.length_map]; omega), List.getElem?_map, ha2]; rfl
          have hf2 := hR.free (d - 2)
          have x1 : IntKind.i64.wrap ((d : Int) - 2) = (d : Int) - 2 := IntWalk.i64_in _ (by omega)
          have x2 : ((d : Int) - 2).toNat = d - 2 := by omega
          have x3 : (d : Int) - 2 < (d : Int) := by omega
          have x4 : (0 : Int) ≤ (d : Int) - 2 := by omega
          have hcb := P.comb_bd nd.op r2 r1
          obtain ⟨cv, hcv⟩ : ∃ cv, P.comb nd.op a2 a1 = cv := ⟨_, rfl⟩
          rw [hcv] at hcb
          have HST2 : Hid (P.stepE x y nd s = s.take (d - 2) ++ [cv]) := by show _ = _; rw [HST.out, hcv]
          have HRA := Lib.hid (hR.alloc (.cells #[.int .i64 nd.op, .int .i64 nd.wish.kind, .int .i64 nd.wish.field, .int .i64 nd.wish.value, .slice A3 n3 c3, .slice E3 m3 d3] 49))
          have hgA : g < (wr.alloc (.cells #[.int .i64 nd.op, .int .i64 nd.wish.kind, .int .i64 nd.wish.field, .int .i64 nd.wish.value, .slice A3 n3 c3, .slice E3 m3 d3] 49)).heap.size := by simp; omega
          have hszA : w.heap.size + 1 + 1 ≤ (wr.alloc (.cells #[.int .i64 nd.op, .int .i64 nd.wish.kind, .int .i64 nd.wish.field, .int .i64 nd.wish.value, .slice A3 n3 c3, .slice E3 m3 d3] 49)).heap.size := by simp; omega
          clear hx hp0 hp3 hop hopd hokn hd' hown hR HST hA1 hA2 ha1 ha2
          go_wp2_with fail
          refine wp_region_bt 17 (by kernel_rfl) (by kernel_rfl) ?_; simp only [List.take_succ_cons, List.take_zero, List.drop_succ_cons, List.drop_zero]; (repeat (go_big_quiet_step ((go_at_call 39; (try rw [← hcv]); exact quietS rfl (combined _ h124 r2 r1))))); refine wpQuiet_nil ?_; intro w8 hb8
          (try rw [hcv])
          have R8 := HRA.out.below hb8 hgA
          have hb28 := HB3.out.trans (hb8.mono hszA)
          have hc8 := R8.cell (d - 2)
          rw [List.getElem?_append_left (by rw [List.length_map]; omega)] at hc8
          obtain ⟨a8, ha8⟩ : ∃ a8 : Value, (s.map (Value.int .i64))[d - 2]? = some a8 := ⟨_, List.getElem?_eq_getElem (by rw [List.length_map]; omega)⟩
          rw [ha8] at hc8
          have hf8 := R8.free (d - 2)
          have hl8 := R8.lt
          have R9 : Row (w8.setCell ⟨g, d - 2, none⟩ (.int .i64 cv)) g 3 ((s.set (d - 2) cv).map (Value.int .i64) ++ cs) := by
            have := R8.set (d - 2) (.int .i64 cv)
            rwa [map_set_app _ _ _ (by omega)] at this
          have hO3 := own_take (row_own (base := w.heap.size + 1 + 1) (n := d) (sz := 1) R9 (by rw [List.length_map, List.length_set]; omega) hgb hn1 hn2 (by rw [List.length_append, List.length_map] at hLL ⊢; rw [List.length_set]; exact hLL)) (m := d - 1) (by omega) hd0
          rw [← List.map_take] at hO3
          have hst3 : (s.set (d - 2) cv).take (d - 1) = P.stepE x y nd s := by
            rw [HST2.out]
            have := P.set_take s cv (by omega)
            rw [hsl] at this
            exact this
          rw [hst3] at hO3
          have HO3 := Lib.hid hO3
          have HB9 := Lib.hid (hb28.setCell (p := ⟨g, d - 2, none⟩) hgb (.int .i64 cv))
          clear R8 R9 hO3 hst3 ha8 hb8 hb28 hc1 hc2 hf1 hf2
          go_wp2
          go_roundw
          case rel => exact ⟨k + 1, d - 1, _, by omega, by go_num, HD2, HS2, by omega, HO3.out, HB9.out⟩
          case measure => simp [intOf]; omega
    · have hkn : k = n := by omega
      have hd1 : d = 1 := by
        have h3 := HD.out
        unfold P.Dep at h3
        rw [List.take_of_length_le (by have := HL.out; omega), (P.okE_len HE.out).2] at h3
        injection h3 with h3
        exact h3.symm
      subst hd1
      have hsl : s.length = 1 := by rw [← HS.out]; exact P.runE_len (by have := HL.out; omega) HD.out HE.out
      obtain ⟨a1, ha1⟩ : ∃ a, s[0]? = some a := ⟨_, List.getElem?_eq_getElem (by omega)⟩
      obtain ⟨g, c'', cs, ee, hgb, hn1, hn2, hR, hLL⟩ := own_row hown (by omega)
      subst ee
      have hc1 : wr.cell? ⟨g, 0, none⟩ = some (.int .i64 a1) := by
        rw [hR.cell, List.getElem?_append_left (by rw [List.length_map]; omega), List.getElem?_map, ha1]; rfl
      have HV : Hid (P.evE l x y = a1) := by
        show _ = _
        unfold P.evE
        rw [HL.out, ← hkn, HS.out]
        simp [List.getD, ha1]
      have hgl := hR.lt
      clear h hown hR
      go_wp2
      go_ret
      exact ⟨ret_int HV.out.symm, hbw⟩
end Go.Proofs.Ytejpfjknlckffaa.Wk

namespace Go.Proofs.Ytejpfjknlckffaa.Wk
open Go.RowKit Go.Proofs.Ytejpfjknlckffaa.M
set_option linter.unusedVariables false
attribute [local go_sem] cell_grow

set_option maxHeartbeats 3200000 in
set_option maxRecDepth 100000 in
theorem specCompareBy {A A1 A2 : Option Addr} {n c n1 c1 n2 c2 : Nat} {l : List Nd} {x y : It} (w : World) (h : Sl RN 6 w w.heap.size A n c l) (hx1 : Sl RI 1 w w.heap.size A1 n1 c1 x.vals) (fx : Fit x.id) (hy1 : Sl RI 1 w w.heap.size A2 n2 c2 y.vals) (fy : Fit y.id) :
    Calls Try.prog 7 #[.slice A n c, .agg #[.int .i64 x.id, .slice A1 n1 c1], .agg #[.int .i64 y.id, .slice A2 n2 c2]] w fun e w' => e = .returned (.int .i64 (P.cmpE l x y)) ∧ Below w.heap.size w w' := by
  have BW := ((Below.refl w.heap.size w).alloc (Nat.le_refl _) (.cells #[.int .i64 x.id, .slice A1 n1 c1] 27)).alloc (by simp) (.cells #[.int .i64 y.id, .slice A2 n2 c2] 27)
  have H := Lib.hid (h.on RN.keeps BW)
  have K := Lib.hid (hx1.on RI.keeps BW)
  have J := Lib.hid (hy1.on RI.keeps BW)
  have hsz := BW.size
  have ww0 : w.heap.size < ((w.alloc (.cells #[.int .i64 x.id, .slice A1 n1 c1] 27)).alloc (.cells #[.int .i64 y.id, .slice A2 n2 c2] 27)).heap.size := by simp; omega
  have ww1 : w.heap.size + 1 < ((w.alloc (.cells #[.int .i64 x.id, .slice A1 n1 c1] 27)).alloc (.cells #[.int .i64 y.id, .slice A2 n2 c2] 27)).heap.size := by simp
  clear h hx1 hy1
  cases hok : P.okE l with
  | false =>
    have HE : Hid (P.cmpE l x y = 2) := by show _ = _; unfold P.cmpE; rw [hok]; rfl
    go_enter Try.func7, Try.ntmps7
    go_wp2_with fail
    refine (specIsExpression _ H.out).mono ?_
    rintro e w2 ⟨rfl, b2⟩
    rw [hok]
    go_wp2_with fail
    go_ret
    exact ⟨ret_int HE.out.symm, BW.trans (b2.mono hsz)⟩
  | true =>
    cases h1 : P.okI x with
    | false =>
      have HE : Hid (P.cmpE l x y = 2) := by show _ = _; unfold P.cmpE; rw [hok, h1]; rfl
      go_enter Try.func7, Try.ntmps7
      go_wp2_with fail
      refine (specIsExpression _ H.out).mono ?_
      rintro e w2 ⟨rfl, b2⟩
      rw [hok]
      have hC2 := cell_of b2
      have z0 : w.heap.size < w2.heap.size := Nat.lt_of_lt_of_le ww0 b2.size
      have z1 : w.heap.size + 1 < w2.heap.size := Nat.lt_of_lt_of_le ww1 b2.size
      have B2 := BW.trans (b2.mono hsz)
      have K2 := Lib.hid (K.out.on RI.keeps b2)
      go_wp2_with fail
      refine (specIsItem (id := x.id) (xs := x.vals) _ K2.out (Nat.le_refl _)).mono ?_
      rintro e w3 ⟨rfl, b3⟩
      rw [h1]
      go_wp2_with fail
      go_ret
      exact ⟨ret_int HE.out.symm, B2.trans (b3.mono B2.size)⟩
    | true =>
      cases h2 : P.okI y with
      | false =>
        have HE : Hid (P.cmpE l x y = 2) := by show _ = _; unfold P.cmpE; rw [hok, h1, h2]; rfl
        go_enter Try.func7, Try.ntmps7
        go_wp2_with fail
        refine (specIsExpression _ H.out).mono ?_
        rintro e w2 ⟨rfl, b2⟩
        rw [hok]
        have hC2 := cell_of b2
        have z0 : w.heap.size < w2.heap.size := Nat.lt_of_lt_of_le ww0 b2.size
        have z1 : w.heap.size + 1 < w2.heap.size := Nat.lt_of_lt_of_le ww1 b2.size
        have B2 := BW.trans (b2.mono hsz)
        have K2 := Lib.hid (K.out.on RI.keeps b2)
        go_wp2_with fail
        refine (specIsItem (id := x.id) (xs := x.vals) _ K2.out (Nat.le_refl _)).mono ?_
        rintro e w3 ⟨rfl, b3⟩
        rw [h1]
        have hC3 := cell_of b3
        have y0 : w.heap.size < w3.heap.size := Nat.lt_of_lt_of_le z0 b3.size
        have y1 : w.heap.size + 1 < w3.heap.size := Nat.lt_of_lt_of_le z1 b3.size
        have B3 := B2.trans (b3.mono B2.size)
        have J3 := Lib.hid ((J.out.on RI.keeps b2).on RI.keeps b3)
        go_wp2_with fail
        refine (specIsItem (id := y.id) (xs := y.vals) _ J3.out (Nat.le_refl _)).mono ?_
        rintro e w4 ⟨rfl, b4⟩
        rw [h2]
        go_wp2_with fail
        go_ret
        exact ⟨ret_int HE.out.symm, B3.trans (b4.mono B3.size)⟩
      | true =>
        have HE : Hid (P.cmpE l x y = P.evE l x y) := by show _ = _; unfold P.cmpE; rw [hok, h1, h2]; rfl
        have HOK := Lib.hid hok
        have HO1 := Lib.hid h1
        have HO2 := Lib.hid h2
        go_enter Try.func7, Try.ntmps7
        go_wp2_with fail
        refine (specIsExpression _ H.out).mono ?_
        rintro e w2 ⟨rfl, b2⟩
        rw [hok]
        have hC2 := cell_of b2
        have z0 : w.heap.size < w2.heap.size := Nat.lt_of_lt_of_le ww0 b2.size
        have z1 : w.heap.size + 1 < w2.heap.size := Nat.lt_of_lt_of_le ww1 b2.size
        have B2 := BW.trans (b2.mono hsz)
        have K2 := Lib.hid (K.out.on RI.keeps b2)
        go_wp2_with fail
        refine (specIsItem (id := x.id) (xs := x.vals) _ K2.out (Nat.le_refl _)).mono ?_
        rintro e w3 ⟨rfl, b3⟩
        rw [h1]
        have hC3 := cell_of b3
        have y0 : w.heap.size < w3.heap.size := Nat.lt_of_lt_of_le z0 b3.size
        have y1 : w.heap.size + 1 < w3.heap.size := Nat.lt_of_lt_of_le z1 b3.size
        have B3 := B2.trans (b3.mono B2.size)
        have J3 := Lib.hid ((J.out.on RI.keeps b2).on RI.keeps b3)
        go_wp2_with fail
        refine (specIsItem (id := y.id) (xs := y.vals) _ J3.out (Nat.le_refl _)).mono ?_
        rintro e w4 ⟨rfl, b4⟩
        rw [h2]
        have hC4 := cell_of b4
        have x0 : w.heap.size < w4.heap.size := Nat.lt_of_lt_of_le y0 b4.size
        have x1 : w.heap.size + 1 < w4.heap.size := Nat.lt_of_lt_of_le y1 b4.size
        have B4 := B3.trans (b4.mono B3.size)
        have H4 := Lib.hid (((H.out.on RN.keeps b2).on RN.keeps b3).on RN.keeps b4)
        have K4 := Lib.hid (((K.out.on RI.keeps b2).on RI.keeps b3).on RI.keeps b4)
        have J4 := Lib.hid (((J.out.on RI.keeps b2).on RI.keeps b3).on RI.keeps b4)
        go_wp2_with fail
        refine (specWalk _ H4.out K4.out fx J4.out fy HOK.out HO1.out HO2.out).mono ?_
        rintro e w5 ⟨rfl, b5⟩
        clear hC2 hC3 hC4
        go_wp2_with fail
        go_ret
        exact ⟨ret_int HE.out.symm, B4.trans (b5.mono B4.size)⟩
set_option maxHeartbeats 3200000 in
set_option maxRecDepth 100000 in
theorem implCompareBy {A A1 A2 : Option Addr} {n c n1 c1 n2 c2 : Nat} {l : List Nd} {x y : It} (w : World) (h : Sl RN 6 w w.heap.size A n c l) (hx1 : Sl RI 1 w w.heap.size A1 n1 c1 x.vals) (fx : Fit x.id) (hy1 : Sl RI 1 w w.heap.size A2 n2 c2 y.vals) (fy : Fit y.id) :
    Calls Try.prog 6 #[.slice A n c, .agg #[.int .i64 x.id, .slice A1 n1 c1], .agg #[.int .i64 y.id, .slice A2 n2 c2]] w fun e w' => e = .returned (.int .i64 (P.cmpE l x y)) ∧ Below w.heap.size w w' := by
  have BW := ((Below.refl w.heap.size w).alloc (Nat.le_refl _) (.cells #[.int .i64 x.id, .slice A1 n1 c1] 27)).alloc (by simp) (.cells #[.int .i64 y.id, .slice A2 n2 c2] 27)
  have H := Lib.hid (h.on RN.keeps BW)
  have K := Lib.hid (hx1.on RI.keeps BW)
  have J := Lib.hid (hy1.on RI.keeps BW)
  have hsz := BW.size
  have ww0 : w.heap.size < ((w.alloc (.cells #[.int .i64 x.id, .slice A1 n1 c1] 27)).alloc (.cells #[.int .i64 y.id, .slice A2 n2 c2] 27)).heap.size := by simp; omega
  have ww1 : w.heap.size + 1 < ((w.alloc (.cells #[.int .i64 x.id, .slice A1 n1 c1] 27)).alloc (.cells #[.int .i64 y.id, .slice A2 n2 c2] 27)).heap.size := by simp
  clear h hx1 hy1
  cases hok : P.okE l with
  | false =>
    have HE : Hid (P.cmpE l x y = 2) := by show _ = _; unfold P.cmpE; rw [hok]; rfl
    go_enter Try.func6, Try.ntmps6
    go_wp2_with fail
    refine (implIsExpression _ H.out).mono ?_
    rintro e w2 ⟨rfl, b2⟩
    rw [hok]
    go_wp2_with fail
    go_ret
    exact ⟨ret_int HE.out.symm, BW.trans (b2.mono hsz)⟩
  | true =>
    cases h1 : P.okI x with
    | false =>
      have HE : Hid (P.cmpE l x y = 2) := by show _ = _; unfold P.cmpE; rw [hok, h1]; rfl
      go_enter Try.func6, Try.ntmps6
      go_wp2_with fail
      refine (implIsExpression _ H.out).mono ?_
      rintro e w2 ⟨rfl, b2⟩
      rw [hok]
      have hC2 := cell_of b2
      have z0 : w.heap.size < w2.heap.size := Nat.lt_of_lt_of_le ww0 b2.size
      have z1 : w.heap.size + 1 < w2.heap.size := Nat.lt_of_lt_of_le ww1 b2.size
      have B2 := BW.trans (b2.mono hsz)
      have K2 := Lib.hid (K.out.on RI.keeps b2)
      go_wp2_with fail
      refine (implIsItem (id := x.id) (xs := x.vals) _ K2.out (Nat.le_refl _)).mono ?_
      rintro e w3 ⟨rfl, b3⟩
      rw [h1]
      go_wp2_with fail
      go_ret
      exact ⟨ret_int HE.out.symm, B2.trans (b3.mono B2.size)⟩
    | true =>
      cases h2 : P.okI y with
      | false =>
        have HE : Hid (P.cmpE l x y = 2) := by show _ = _; unfold P.cmpE; rw [hok, h1, h2]; rfl
        go_enter Try.func6, Try.ntmps6
        go_wp2_with fail
        refine (implIsExpression _ H.out).mono ?_
        rintro e w2 ⟨rfl, b2⟩
        rw [hok]
        have hC2 := cell_of b2
        have z0 : w.heap.size < w2.heap.size := Nat.lt_of_lt_of_le ww0 b2.size
        have z1 : w.heap.size + 1 < w2.heap.size := Nat.lt_of_lt_of_le ww1 b2.size
        have B2 := BW.trans (b2.mono hsz)
        have K2 := Lib.hid (K.out.on RI.keeps b2)
        go_wp2_with fail
        refine (implIsItem (id := x.id) (xs := x.vals) _ K2.out (Nat.le_refl _)).mono ?_
        rintro e w3 ⟨rfl, b3⟩
        rw [h1]
        have hC3 := cell_of b3
        have y0 : w.heap.size < w3.heap.size := Nat.lt_of_lt_of_le z0 b3.size
        have y1 : w.heap.size + 1 < w3.heap.size := Nat.lt_of_lt_of_le z1 b3.size
        have B3 := B2.trans (b3.mono B2.size)
        have J3 := Lib.hid ((J.out.on RI.keeps b2).on RI.keeps b3)
        go_wp2_with fail
        refine (implIsItem (id := y.id) (xs := y.vals) _ J3.out (Nat.le_refl _)).mono ?_
        rintro e w4 ⟨rfl, b4⟩
        rw [h2]
        go_wp2_with fail
        go_ret
        exact ⟨ret_int HE.out.symm, B3.trans (b4.mono B3.size)⟩
      | true =>
        have HE : Hid (P.cmpE l x y = P.evE l x y) := by show _ = _; unfold P.cmpE; rw [hok, h1, h2]; rfl
        have HOK := Lib.hid hok
        have HO1 := Lib.hid h1
        have HO2 := Lib.hid h2
        go_enter Try.func6, Try.ntmps6
        go_wp2_with fail
        refine (implIsExpression _ H.out).mono ?_
        rintro e w2 ⟨rfl, b2⟩
        rw [hok]
        have hC2 := cell_of b2
        have z0 : w.heap.size < w2.heap.size := Nat.lt_of_lt_of_le ww0 b2.size
        have z1 : w.heap.size + 1 < w2.heap.size := Nat.lt_of_lt_of_le ww1 b2.size
        have B2 := BW.trans (b2.mono hsz)
        have K2 := Lib.hid (K.out.on RI.keeps b2)
        go_wp2_with fail
        refine (implIsItem (id := x.id) (xs := x.vals) _ K2.out (Nat.le_refl _)).mono ?_
        rintro e w3 ⟨rfl, b3⟩
        rw [h1]
        have hC3 := cell_of b3
        have y0 : w.heap.size < w3.heap.size := Nat.lt_of_lt_of_le z0 b3.size
        have y1 : w.heap.size + 1 < w3.heap.size := Nat.lt_of_lt_of_le z1 b3.size
        have B3 := B2.trans (b3.mono B2.size)
        have J3 := Lib.hid ((J.out.on RI.keeps b2).on RI.keeps b3)
        go_wp2_with fail
        refine (implIsItem (id := y.id) (xs := y.vals) _ J3.out (Nat.le_refl _)).mono ?_
        rintro e w4 ⟨rfl, b4⟩
        rw [h2]
        have hC4 := cell_of b4
        have x0 : w.heap.size < w4.heap.size := Nat.lt_of_lt_of_le y0 b4.size
        have x1 : w.heap.size + 1 < w4.heap.size := Nat.lt_of_lt_of_le y1 b4.size
        have B4 := B3.trans (b4.mono B3.size)
        have H4 := Lib.hid (((H.out.on RN.keeps b2).on RN.keeps b3).on RN.keeps b4)
        have K4 := Lib.hid (((K.out.on RI.keeps b2).on RI.keeps b3).on RI.keeps b4)
        have J4 := Lib.hid (((J.out.on RI.keeps b2).on RI.keeps b3).on RI.keeps b4)
        go_wp2_with fail
        refine (implWalk _ H4.out K4.out fx J4.out fy HOK.out HO1.out HO2.out).mono ?_
        rintro e w5 ⟨rfl, b5⟩
        clear hC2 hC3 hC4
        go_wp2_with fail
        go_ret
        exact ⟨ret_int HE.out.symm, B4.trans (b5.mono B4.size)⟩
end Go.Proofs.Ytejpfjknlckffaa.Wk

namespace Go.Proofs.Ytejpfjknlckffaa.M
open Go Go.RowKit

theorem step_append_slice {P : Program} (w : World) {ops : Array Oper} {o : Oper} {a : Act} {K : Act → World → Prop} {Q : Exit → Act → World → Prop} {E : Prop} (hgd : o.guard = none) (s x : Operand) (t : TypeId)
    (ho : o.op = .call { callee := .builtin .append, args := #[s, x], argTypes := #[t, t] })
    (base : Nat) (e : TypeId) (i : TypeInfo) (z : Value) (size bytes : Nat) (ht : P.underlying t = some (.slice e)) (hi : P.info? e = some i) (hz : i.zero = some z)
    (hsize : i.size = size) (hby : i.bytes = bytes) (hzs : z.cells.size = size) (hsz : 0 < size)
    (v : Value) (n : Nat) (xs : List Value) (hs : a.eval s = v) (hown : w.ownsRow base e size v n xs)
    (A : Option Addr) (m c : Nat) (news : List Value) (hx : a.eval x = .slice A m c) (hl : news.length = m * size) (hA : 0 < m → A ≠ none) (hnews : ∀ ad, A = some ad → ∀ j u, news[j]? = some u → w.cell? (ad.add j) = some u) (h1 : ∀ u ∈ news, u.oneCell' = true)
    (h63 : n + m ≤ maxLen) (hbytes : (n + m) * bytes ≤ 140737488355328) (hbase : base ≤ w.heap.size) (H : Nat) (hH : w.heap.size = H)
    (h : ∀ v' w', w'.ownsRow base e size v' (n + m) (xs ++ news) → w.grownBy w' v.ownBlock → (v'.ownBlock = v.ownBlock ∨ v'.ownBlock = some H) → K (a.put o.dst v') w') :
    if Region.wanted o (yielded ops a.tmps) = true then Oper.wp P o a w K Q else E := by
  have hw : Region.wanted o (yielded ops a.tmps) = true := by simp [Region.wanted, hgd]
  rw [if_pos hw]
  cases A with
  | some ad =>
    obtain ⟨v', w', hr, h2, h3, _, h5⟩ := run_append_own_at (P := P) w base t o.type e i z size bytes ht hi hz hsize hby hzs hsz v n xs hown ad m c news hl (hnews ad rfl) h1 h63 hbytes hbase
    unfold Oper.wp execOp
    simp only [ho, resolve, invoke, builtin, Sem.run_bind, Sem.run_pure, Result.andThen_ok, List.map_toArray, List.map_cons, List.map_nil, hs, hx, hr]
    refine h v' w' h2 h3 ?_
    rcases h5 with h5 | h5
    · exact .inl h5
    · exact .inr (by rw [h5, hH])
  | none =>
    have hm : m = 0 := by
      rcases Nat.eq_zero_or_pos m with h0 | h0
      · exact h0
      · exact absurd rfl (hA h0)
    subst hm
    have hn0 : news = [] := List.eq_nil_of_length_eq_zero (by omega)
    subst hn0
    have hr := run_append_none (P := P) (w := w) base t o.type e i size ht hi v n c xs hown
    unfold Oper.wp execOp
    simp only [ho, resolve, invoke, builtin, Sem.run_bind, Sem.run_pure, Result.andThen_ok, List.map_toArray, List.map_cons, List.map_nil, hs, hx, hr]
    exact h v w (by simpa using hown) ⟨rfl, rfl, rfl, Nat.le_refl _, fun _ _ _ => rfl⟩ (.inl rfl)
end Go.Proofs.Ytejpfjknlckffaa.M

namespace Go.Proofs.Ytejpfjknlckffaa.Wk
open Go.RowKit Go.Proofs.Ytejpfjknlckffaa.M
set_option linter.unusedVariables false
attribute [local go_sem] cell_grow

section
variable {w X w5 w6 : World} {base E E1 sz g g2 H n1 : Nat} {v5 v6 : Value} {xs1 : List Value}
theorem lit_new (hg : X.heap.size = g) (hb : base ≤ g) (e sz : Nat) : (X.alloc (.cells #[] e)).drew.ownsRow base e sz (.slice (some ⟨g, 0, none⟩) 0 0) 0 [] := by
  subst hg
  exact own_mono (own_emptyS X e sz) hb
theorem own_ad {v : Value} {n : Nat} {xs : List Value} (h : X.drew.ownsRow base E sz v n xs) (o : Obj) : (X.alloc o).drew.ownsRow base E sz v n xs := h.alloc o
theorem row_ad {xs : List Value} (h : Row X.drew g E xs) (o : Obj) : Row (X.alloc o).drew g E xs := h.alloc o
theorem lit_block (g : Nat) : (Value.slice (some ⟨g, 0, none⟩) 0 0).ownBlock = some g := rfl
theorem first_ne (h : v5.ownBlock = (Value.slice (some ⟨g, 0, none⟩) 0 0).ownBlock ∨ v5.ownBlock = some H) (h1 : g ≠ g2) (h2 : H ≠ g2) : v5.ownBlock ≠ some g2 := by
  intro e
  rcases h with h | h
  · rw [h, lit_block] at e; injection e with e; exact h1 e
  · rw [h] at e; injection e with e; exact h2 e
theorem lit_ne (h1 : g ≠ g2) : ∀ q, (Value.slice (some ⟨g, 0, none⟩) 0 0).ownBlock = some q → some q ≠ (Value.slice (some ⟨g2, 0, none⟩) 0 0).ownBlock := by
  intro q hq e
  rw [lit_block] at hq e
  injection hq with hq
  injection e with e
  exact h1 (hq.trans e)
theorem second_old (ho5 : w5.ownsRow base E1 sz v5 n1 xs1) (hne : v5.ownBlock ≠ some g2) (hg6 : w5.grownBy w6 (Value.slice (some ⟨g2, 0, none⟩) 0 0).ownBlock) (ha6 : v6.ownBlock = (Value.slice (some ⟨g2, 0, none⟩) 0 0).ownBlock ∨ v6.ownBlock = some H) (hH : w5.heap.size = H) :
    w6.ownsRow base E1 sz v5 n1 xs1 ∧ Far v5 v6 := by
  refine ⟨own_grown ho5 hg6 (fun q hq e => hne (hq.trans (e.trans (lit_block g2)))), ?_⟩
  cases hq : v5.ownBlock with
  | none => exact .inl hq
  | some q =>
    refine .inr fun hh => ?_
    rcases ha6 with h | h
    · exact hne (hh.trans (h.trans (lit_block g2)))
    · rw [hq, h] at hh
      injection hh with hh
      have := (ho5.lt q hq).2
      omega
theorem second_new {o : Obj} (ho5 : w5.ownsRow base E1 sz v5 n1 xs1) (hg6 : (w5.alloc o).grownBy w6 (Value.slice (some ⟨w5.heap.size, 0, none⟩) 0 0).ownBlock) (ha6 : v6.ownBlock = (Value.slice (some ⟨w5.heap.size, 0, none⟩) 0 0).ownBlock ∨ v6.ownBlock = some H) (hH : (w5.alloc o).heap.size = H) :
    w6.ownsRow base E1 sz v5 n1 xs1 ∧ Far v5 v6 := by
  have hlt : ∀ q, v5.ownBlock = some q → q < w5.heap.size := fun q hq => (ho5.lt q hq).2
  rw [World.size_alloc] at hH
  refine ⟨own_grown (ho5.alloc o) hg6 (fun q hq e => ?_), ?_⟩
  · rw [lit_block] at e; injection e with e; have := hlt q hq; omega
  · cases hq : v5.ownBlock with
    | none => exact .inl hq
    | some q =>
      refine .inr fun hh => ?_
      have := hlt q hq
      rw [hq] at hh
      rcases ha6 with h | h
      · rw [h, lit_block] at hh; injection hh with hh; omega
      · rw [h] at hh; injection hh with hh; omega
theorem cells5 {g0 : Nat} {a b c d e : Value} (h : Row X g0 E [a, b, c, d, e]) : X.cell? ⟨g0, 0, none⟩ = some a ∧ X.cell? ⟨g0, 1, none⟩ = some b ∧ X.cell? ⟨g0, 2, none⟩ = some c ∧ X.cell? ⟨g0, 3, none⟩ = some d ∧ X.cell? ⟨g0, 4, none⟩ = some e := ⟨h.cell 0, h.cell 1, h.cell 2, h.cell 3, h.cell 4⟩
theorem fin2 {lo EE EP n m c5 c6 : Nat} {x : Wi} {A5 A6 : Option Addr} (h1 : X.ownsRow lo EE 1 (.slice A5 (0 + n) c5) (0 + n) ([] ++ x.list.map (Value.int .i64))) (h2 : X.ownsRow lo EP 2 (.slice A6 (0 + m) c6) (0 + m) ([] ++ prc x.pairs)) (hf : Far (.slice A5 (0 + n) c5) (.slice A6 (0 + m) c6)) (nl : x.list.length = n) (ml : x.pairs.length = m) : OwnW X lo EE EP x (.slice A5 n c5) (.slice A6 m c6) := by
  rw [Nat.zero_add, Nat.zero_add] at hf
  refine ⟨?_, ?_, hf⟩
  · rw [nl]; simpa using h1
  · rw [ml]; simpa using h2
theorem far_swap {u v : Value} (h : Far u v) : Far v u := by
  cases hq : v.ownBlock with
  | none => exact .inl hq
  | some q =>
    refine .inr fun hh => ?_
    rw [hq] at hh
    rcases h with h | h
    · rw [h] at hh; cases hh
    · exact h (hh.symm.trans hq.symm)
theorem row_gr {xs : List Value} {g0 : Nat} (h : Row X g0 E xs) (hg : X.grownBy w6 (Value.slice (some ⟨g2, 0, none⟩) 0 0).ownBlock) (h1 : g0 ≠ g2) : Row w6 g0 E xs := h.grown hg (fun e => by rw [lit_block] at e; injection e with e; exact h1 e)
end
section
variable {A E : Option Addr} {n c m d : Nat} {x : Wi} {w X w6 : World}
theorem s5 (hb : Below w.heap.size w X) (h : Row X w.heap.size 47 [.int .i64 x.kind, .int .i64 x.field, .int .i64 x.value, .slice A n c, .slice E m d]) : Below w.heap.size w X ∧ Row X w.heap.size 47 [.int .i64 x.kind, .int .i64 x.field, .int .i64 x.value, .slice A n c, .slice E m d] ∧ X.cell? ⟨w.heap.size, 0, none⟩ = some (.int .i64 x.kind) ∧ X.cell? ⟨w.heap.size, 1, none⟩ = some (.int .i64 x.field) ∧ X.cell? ⟨w.heap.size, 2, none⟩ = some (.int .i64 x.value) ∧ X.cell? ⟨w.heap.size, 3, none⟩ = some (.slice A n c) ∧ X.cell? ⟨w.heap.size, 4, none⟩ = some (.slice E m d) := ⟨hb, h, h.cell 0, h.cell 1, h.cell 2, h.cell 3, h.cell 4⟩
theorem s5_ad (h : Below w.heap.size w X.drew ∧ Row X.drew w.heap.size 47 [.int .i64 x.kind, .int .i64 x.field, .int .i64 x.value, .slice A n c, .slice E m d] ∧ X.drew.cell? ⟨w.heap.size, 0, none⟩ = some (.int .i64 x.kind) ∧ X.drew.cell? ⟨w.heap.size, 1, none⟩ = some (.int .i64 x.field) ∧ X.drew.cell? ⟨w.heap.size, 2, none⟩ = some (.int .i64 x.value) ∧ X.drew.cell? ⟨w.heap.size, 3, none⟩ = some (.slice A n c) ∧ X.drew.cell? ⟨w.heap.size, 4, none⟩ = some (.slice E m d)) (o : Obj) : Below w.heap.size w (X.alloc o).drew ∧ Row (X.alloc o).drew w.heap.size 47 [.int .i64 x.kind, .int .i64 x.field, .int .i64 x.value, .slice A n c, .slice E m d] ∧ (X.alloc o).drew.cell? ⟨w.heap.size, 0, none⟩ = some (.int .i64 x.kind) ∧ (X.alloc o).drew.cell? ⟨w.heap.size, 1, none⟩ = some (.int .i64 x.field) ∧ (X.alloc o).drew.cell? ⟨w.heap.size, 2, none⟩ = some (.int .i64 x.value) ∧ (X.alloc o).drew.cell? ⟨w.heap.size, 3, none⟩ = some (.slice A n c) ∧ (X.alloc o).drew.cell? ⟨w.heap.size, 4, none⟩ = some (.slice E m d) := s5 (h.1.alloc h.1.size o) (h.2.1.alloc o)
theorem s5_al (h : Below w.heap.size w X ∧ Row X w.heap.size 47 [.int .i64 x.kind, .int .i64 x.field, .int .i64 x.value, .slice A n c, .slice E m d] ∧ X.cell? ⟨w.heap.size, 0, none⟩ = some (.int .i64 x.kind) ∧ X.cell? ⟨w.heap.size, 1, none⟩ = some (.int .i64 x.field) ∧ X.cell? ⟨w.heap.size, 2, none⟩ = some (.int .i64 x.value) ∧ X.cell? ⟨w.heap.size, 3, none⟩ = some (.slice A n c) ∧ X.cell? ⟨w.heap.size, 4, none⟩ = some (.slice E m d)) (o : Obj) : Below w.heap.size w (X.alloc o) ∧ Row (X.alloc o) w.heap.size 47 [.int .i64 x.kind, .int .i64 x.field, .int .i64 x.value, .slice A n c, .slice E m d] ∧ (X.alloc o).cell? ⟨w.heap.size, 0, none⟩ = some (.int .i64 x.kind) ∧ (X.alloc o).cell? ⟨w.heap.size, 1, none⟩ = some (.int .i64 x.field) ∧ (X.alloc o).cell? ⟨w.heap.size, 2, none⟩ = some (.int .i64 x.value) ∧ (X.alloc o).cell? ⟨w.heap.size, 3, none⟩ = some (.slice A n c) ∧ (X.alloc o).cell? ⟨w.heap.size, 4, none⟩ = some (.slice E m d) := s5 (h.1.alloc h.1.size o) (h.2.1.alloc o)
theorem s5_gr {g2 : Nat} (h : Below w.heap.size w X ∧ Row X w.heap.size 47 [.int .i64 x.kind, .int .i64 x.field, .int .i64 x.value, .slice A n c, .slice E m d] ∧ X.cell? ⟨w.heap.size, 0, none⟩ = some (.int .i64 x.kind) ∧ X.cell? ⟨w.heap.size, 1, none⟩ = some (.int .i64 x.field) ∧ X.cell? ⟨w.heap.size, 2, none⟩ = some (.int .i64 x.value) ∧ X.cell? ⟨w.heap.size, 3, none⟩ = some (.slice A n c) ∧ X.cell? ⟨w.heap.size, 4, none⟩ = some (.slice E m d)) (hg : X.grownBy w6 (Value.slice (some ⟨g2, 0, none⟩) 0 0).ownBlock) (h1 : w.heap.size < g2) : Below w.heap.size w w6 ∧ Row w6 w.heap.size 47 [.int .i64 x.kind, .int .i64 x.field, .int .i64 x.value, .slice A n c, .slice E m d] ∧ w6.cell? ⟨w.heap.size, 0, none⟩ = some (.int .i64 x.kind) ∧ w6.cell? ⟨w.heap.size, 1, none⟩ = some (.int .i64 x.field) ∧ w6.cell? ⟨w.heap.size, 2, none⟩ = some (.int .i64 x.value) ∧ w6.cell? ⟨w.heap.size, 3, none⟩ = some (.slice A n c) ∧ w6.cell? ⟨w.heap.size, 4, none⟩ = some (.slice E m d) :=
  s5 (h.1.grown hg h.1.size (fun k hk => by rw [lit_block] at hk; injection hk with hk; omega)) (row_gr h.2.1 hg (by omega))
theorem s5_set (h : Below w.heap.size w X ∧ Row X w.heap.size 47 [.int .i64 x.kind, .int .i64 x.field, .int .i64 x.value, .slice A n c, .slice E m d] ∧ X.cell? ⟨w.heap.size, 0, none⟩ = some (.int .i64 x.kind) ∧ X.cell? ⟨w.heap.size, 1, none⟩ = some (.int .i64 x.field) ∧ X.cell? ⟨w.heap.size, 2, none⟩ = some (.int .i64 x.value) ∧ X.cell? ⟨w.heap.size, 3, none⟩ = some (.slice A n c) ∧ X.cell? ⟨w.heap.size, 4, none⟩ = some (.slice E m d)) {p : Addr} (hp : p.block = w.heap.size + 1) (u : Value) : Below w.heap.size w (X.setCell p u) ∧ Row (X.setCell p u) w.heap.size 47 [.int .i64 x.kind, .int .i64 x.field, .int .i64 x.value, .slice A n c, .slice E m d] ∧ (X.setCell p u).cell? ⟨w.heap.size, 0, none⟩ = some (.int .i64 x.kind) ∧ (X.setCell p u).cell? ⟨w.heap.size, 1, none⟩ = some (.int .i64 x.field) ∧ (X.setCell p u).cell? ⟨w.heap.size, 2, none⟩ = some (.int .i64 x.value) ∧ (X.setCell p u).cell? ⟨w.heap.size, 3, none⟩ = some (.slice A n c) ∧ (X.setCell p u).cell? ⟨w.heap.size, 4, none⟩ = some (.slice E m d) :=
  s5 (h.1.setCell (by omega) u) (h.2.1.far (by omega) u)
end
set_option maxHeartbeats 6400000 in
set_option maxRecDepth 100000 in
theorem l5Wish {A E : Option Addr} {n c m d : Nat} {x : Wi} (w : World) (h : Sl RI 1 w w.heap.size A n c x.list) (g : Sl RP 2 w w.heap.size E m d x.pairs) (hn : n ≤ 1048576) (hm : m ≤ 1048576) :
    Calls Try.prog 32 #[.agg #[.int .i64 x.kind, .int .i64 x.field, .int .i64 x.value, .slice A n c, .slice E m d]] w (RetWO w x) := by
  obtain ⟨i0, hi, hz0, hz1, hz2⟩ := info_parts info_p4
  obtain ⟨j0, ji, jz0, jz1, jz2⟩ := info_parts info_i4
  have HI := Lib.hid h
  have HP := Lib.hid g
  have B2 := ((Below.refl w.heap.size w).alloc (Nat.le_refl _) (.cells #[.int .i64 x.kind, .int .i64 x.field, .int .i64 x.value, .slice A n c, .slice E m d] 47)).alloc (by simp) (.cells #[.int .i64 0, .int .i64 0, .int .i64 0, .slice none 0 0, .slice none 0 0] 47)
  have R0 := (Row.new w 47 [.int .i64 x.kind, .int .i64 x.field, .int .i64 x.value, .slice A n c, .slice E m d]).alloc (.cells #[.int .i64 0, .int .i64 0, .int .i64 0, .slice none 0 0, .slice none 0 0] 47)
  have R1 : Row ((w.alloc (.cells #[.int .i64 x.kind, .int .i64 x.field, .int .i64 x.value, .slice A n c, .slice E m d] 47)).alloc (.cells #[.int .i64 0, .int .i64 0, .int .i64 0, .slice none 0 0, .slice none 0 0] 47)) (w.heap.size + 1) 47 [.int .i64 0, .int .i64 0, .int .i64 0, .slice none 0 0, .slice none 0 0] := by
    have := Row.new (w.alloc (.cells #[.int .i64 x.kind, .int .i64 x.field, .int .i64 x.value, .slice A n c, .slice E m d] 47)) 47 [.int .i64 0, .int .i64 0, .int .i64 0, .slice none 0 0, .slice none 0 0]
    rw [World.size_alloc] at this
    exact this
  have hsW : ((w.alloc (.cells #[.int .i64 x.kind, .int .i64 x.field, .int .i64 x.value, .slice A n c, .slice E m d] 47)).alloc (.cells #[.int .i64 0, .int .i64 0, .int .i64 0, .slice none 0 0, .slice none 0 0] 47)).heap.size = w.heap.size + 1 + 1 := by simp
  have hsW1 : (((w.alloc (.cells #[.int .i64 x.kind, .int .i64 x.field, .int .i64 x.value, .slice A n c, .slice E m d] 47)).alloc (.cells #[.int .i64 0, .int .i64 0, .int .i64 0, .slice none 0 0, .slice none 0 0] 47)).alloc (.cells #[] 3)).heap.size = w.heap.size + 1 + 1 + 1 := by simp
  have hsW2 : (((w.alloc (.cells #[.int .i64 x.kind, .int .i64 x.field, .int .i64 x.value, .slice A n c, .slice E m d] 47)).alloc (.cells #[.int .i64 0, .int .i64 0, .int .i64 0, .slice none 0 0, .slice none 0 0] 47)).alloc (.cells #[] 69)).heap.size = w.heap.size + 1 + 1 + 1 := by simp
  have le2 : w.heap.size + 1 + 1 ≤ w.heap.size + 1 + 1 := Nat.le_refl _
  have le3 : w.heap.size + 1 + 1 ≤ w.heap.size + 1 + 1 + 1 := Nat.le_succ _
  have n23 : w.heap.size + 1 + 1 ≠ w.heap.size + 1 + 1 + 1 := by omega
  have n32 : w.heap.size + 1 + 1 + 1 ≠ w.heap.size + 1 + 1 := by omega
  have n12 : w.heap.size + 1 ≠ w.heap.size + 1 + 1 := by omega
  have n13 : w.heap.size + 1 ≠ w.heap.size + 1 + 1 + 1 := by omega
  have l02 : w.heap.size < w.heap.size + 1 + 1 := by omega
  have l03 : w.heap.size < w.heap.size + 1 + 1 + 1 := by omega
  have hIl : (x.list.map (Value.int .i64)).length = n * 1 := by rw [List.length_map, h.len, Nat.mul_one]
  have hPl : (prc x.pairs).length = m * 2 := by rw [prc_len, g.len]
  have hI63 : 0 + n ≤ maxLen := by unfold maxLen; omega
  have hP63 : 0 + m ≤ maxLen := by unfold maxLen; omega
  have hIb : (0 + n) * 8 ≤ 140737488355328 := by omega
  have hPb : (0 + m) * 16 ≤ 140737488355328 := by omega
  have S0 := s5 B2.drew R0.drew
  have RD := R1.drew
  have hd1 : (((w.alloc (.cells #[.int .i64 x.kind, .int .i64 x.field, .int .i64 x.value, .slice A n c, .slice E m d] 47)).alloc (.cells #[.int .i64 0, .int .i64 0, .int .i64 0, .slice none 0 0, .slice none 0 0] 47)).alloc (.cells #[] 3)).drew.heap.size = w.heap.size + 1 + 1 + 1 := hsW1
  have hd2 : (((w.alloc (.cells #[.int .i64 x.kind, .int .i64 x.field, .int .i64 x.value, .slice A n c, .slice E m d] 47)).alloc (.cells #[.int .i64 0, .int .i64 0, .int .i64 0, .slice none 0 0, .slice none 0 0] 47)).alloc (.cells #[] 69)).drew.heap.size = w.heap.size + 1 + 1 + 1 := hsW2
  have hd12 : ((((w.alloc (.cells #[.int .i64 x.kind, .int .i64 x.field, .int .i64 x.value, .slice A n c, .slice E m d] 47)).alloc (.cells #[.int .i64 0, .int .i64 0, .int .i64 0, .slice none 0 0, .slice none 0 0] 47)).alloc (.cells #[] 3)).alloc (.cells #[] 69)).drew.heap.size = w.heap.size + 1 + 1 + 1 + 1 := by show ((((w.alloc (.cells #[.int .i64 x.kind, .int .i64 x.field, .int .i64 x.value, .slice A n c, .slice E m d] 47)).alloc (.cells #[.int .i64 0, .int .i64 0, .int .i64 0, .slice none 0 0, .slice none 0 0] 47)).alloc (.cells #[] 3)).alloc (.cells #[] 69)).heap.size = _; simp
  have hd21 : ((((w.alloc (.cells #[.int .i64 x.kind, .int .i64 x.field, .int .i64 x.value, .slice A n c, .slice E m d] 47)).alloc (.cells #[.int .i64 0, .int .i64 0, .int .i64 0, .slice none 0 0, .slice none 0 0] 47)).alloc (.cells #[] 69)).alloc (.cells #[] 3)).drew.heap.size = w.heap.size + 1 + 1 + 1 + 1 := by show ((((w.alloc (.cells #[.int .i64 x.kind, .int .i64 x.field, .int .i64 x.value, .slice A n c, .slice E m d] 47)).alloc (.cells #[.int .i64 0, .int .i64 0, .int .i64 0, .slice none 0 0, .slice none 0 0] 47)).alloc (.cells #[] 69)).alloc (.cells #[] 3)).heap.size = _; simp
  have hb1 : w.heap.size + 1 + 1 ≤ (((w.alloc (.cells #[.int .i64 x.kind, .int .i64 x.field, .int .i64 x.value, .slice A n c, .slice E m d] 47)).alloc (.cells #[.int .i64 0, .int .i64 0, .int .i64 0, .slice none 0 0, .slice none 0 0] 47)).alloc (.cells #[] 3)).drew.heap.size := by rw [hd1]; omega
  have hb2 : w.heap.size + 1 + 1 ≤ (((w.alloc (.cells #[.int .i64 x.kind, .int .i64 x.field, .int .i64 x.value, .slice A n c, .slice E m d] 47)).alloc (.cells #[.int .i64 0, .int .i64 0, .int .i64 0, .slice none 0 0, .slice none 0 0] 47)).alloc (.cells #[] 69)).drew.heap.size := by rw [hd2]; omega
  have hb12 : w.heap.size + 1 + 1 ≤ ((((w.alloc (.cells #[.int .i64 x.kind, .int .i64 x.field, .int .i64 x.value, .slice A n c, .slice E m d] 47)).alloc (.cells #[.int .i64 0, .int .i64 0, .int .i64 0, .slice none 0 0, .slice none 0 0] 47)).alloc (.cells #[] 3)).alloc (.cells #[] 69)).drew.heap.size := by rw [hd12]; omega
  have hb21 : w.heap.size + 1 + 1 ≤ ((((w.alloc (.cells #[.int .i64 x.kind, .int .i64 x.field, .int .i64 x.value, .slice A n c, .slice E m d] 47)).alloc (.cells #[.int .i64 0, .int .i64 0, .int .i64 0, .slice none 0 0, .slice none 0 0] 47)).alloc (.cells #[] 69)).alloc (.cells #[] 3)).drew.heap.size := by rw [hd21]; omega
  have n42 : w.heap.size + 1 + 1 + 1 + 1 ≠ w.heap.size + 1 + 1 := by omega
  have n43 : w.heap.size + 1 + 1 + 1 + 1 ≠ w.heap.size + 1 + 1 + 1 := by omega
  have nl : x.list.length = n := h.len
  have ml : x.pairs.length = m := g.len
  clear h g hn hm B2 R0 R1
  go_enter Try.func32, Try.ntmps32
  go_wp2_with fail
  go_region_held3 (fun w' => Below w.heap.size w w' ∧ Row w' w.heap.size 47 [.int .i64 x.kind, .int .i64 x.field, .int .i64 x.value, .slice A n c, .slice E m d] ∧ w'.cell? ⟨w.heap.size, 0, none⟩ = some (.int .i64 x.kind) ∧ w'.cell? ⟨w.heap.size, 1, none⟩ = some (.int .i64 x.field) ∧ w'.cell? ⟨w.heap.size, 2, none⟩ = some (.int .i64 x.value) ∧ w'.cell? ⟨w.heap.size, 3, none⟩ = some (.slice A n c) ∧ w'.cell? ⟨w.heap.size, 4, none⟩ = some (.slice E m d)) (first | exact S0 | exact s5_set (s5_set (s5_set (s5_set (s5_set (by assumption) rfl _) rfl _) rfl _) rfl _) rfl _ | exact s5_ad (by assumption) _ | exact s5_al (by assumption) _ | exact s5_gr (by assumption) hg6 l02 | exact s5_gr (by assumption) hg6 l03 | exact s5_gr (by assumption) hg5 l02 | exact s5_gr (by assumption) hg5 l03 | exact s5_gr (by assumption) hg6 (by have := hR.lt; omega) | exact s5_gr (by assumption) hg5 (by have := hR.lt; omega) | fail) (first | (refine step_append_slice _ (by rfl) _ _ 25 (by rfl) (w.heap.size + 1 + 1) 3 j0 _ 1 8 Try.underlying25 ji jz0 jz1 jz2 rfl Nat.one_pos _ _ _ (by rfl) (lit_new hsW le2 3 1) A n c (x.list.map (Value.int .i64)) (by rfl) hIl (slI_some HI.out) (slI_cells (HI.out.on RI.keeps (And.left (by assumption)))) (ints_one _) hI63 hIb (hb1) (w.heap.size + 1 + 1 + 1) hd1 ?_; intro v5 w5 ho5 hg5 ha5; obtain ⟨A5, c5, rfl, _, _⟩ := own_form ho5; have hRI := row_gr (row_ad RD (.cells #[] 3)) hg5 n12; have hbI : w.heap.size + 1 + 1 ≤ w5.heap.size := Nat.le_trans hb1 hg5.size) | (refine step_append_slice _ (by rfl) _ _ 25 (by rfl) (w.heap.size + 1 + 1) 3 j0 _ 1 8 Try.underlying25 ji jz0 jz1 jz2 rfl Nat.one_pos _ _ _ (by rfl) (own_ad (lit_new hsW le2 3 1) (.cells #[] 69)) A n c (x.list.map (Value.int .i64)) (by rfl) hIl (slI_some HI.out) (slI_cells (HI.out.on RI.keeps (And.left (by assumption)))) (ints_one _) hI63 hIb (hb12) (w.heap.size + 1 + 1 + 1 + 1) hd12 ?_; intro v5 w5 ho5 hg5 ha5; obtain ⟨A5, c5, rfl, _, _⟩ := own_form ho5; have hE := own_grown (lit_new hsW1 le3 69 2) hg5 (lit_ne n32); have hn5 := first_ne ha5 n23 n43; have hRI := row_gr (row_ad (row_ad RD (.cells #[] 3)) (.cells #[] 69)) hg5 n12; have hbI : w.heap.size + 1 + 1 ≤ w5.heap.size := Nat.le_trans hb12 hg5.size) | (refine step_append_slice _ (by rfl) _ _ 25 (by rfl) (w.heap.size + 1 + 1) 3 j0 _ 1 8 Try.underlying25 ji jz0 jz1 jz2 rfl Nat.one_pos _ _ _ (by rfl) (lit_new hsW2 le3 3 1) A n c (x.list.map (Value.int .i64)) (by rfl) hIl (slI_some HI.out) (slI_cells (HI.out.on RI.keeps (And.left (by assumption)))) (ints_one _) hI63 hIb (hb21) (w.heap.size + 1 + 1 + 1 + 1) hd21 ?_; intro v5 w5 ho5 hg5 ha5; obtain ⟨A5, c5, rfl, _, _⟩ := own_form ho5; have hE := own_grown (own_ad (lit_new hsW le2 69 2) (.cells #[] 3)) hg5 (lit_ne n23); have hn5 := first_ne ha5 n32 n42; have hRI := row_gr (row_ad (row_ad RD (.cells #[] 69)) (.cells #[] 3)) hg5 n13; have hbI : w.heap.size + 1 + 1 ≤ w5.heap.size := Nat.le_trans hb21 hg5.size) | (refine step_append_slice _ (by rfl) _ _ 25 (by rfl) (w.heap.size + 1 + 1) 3 j0 _ 1 8 Try.underlying25 ji jz0 jz1 jz2 rfl Nat.one_pos _ _ _ (by rfl) (own_mono (own_emptyS w6 3 1) hbP) A n c (x.list.map (Value.int .i64)) (by rfl) hIl (slI_some HI.out) (slI_cells (HI.out.on RI.keeps (And.left (by assumption)))) (ints_one _) hI63 hIb (Nat.le_trans hbP (size_le_alloc _ _)) _ rfl ?_; intro v5 w5 ho5 hg5 ha5; obtain ⟨A5, c5, rfl, _, _⟩ := own_form ho5; have F := second_new ho6 hg5 ha5 rfl; have hR := row_gr (hRP.alloc (.cells #[] 3)) hg5 (Nat.ne_of_lt (hRP.lt)); obtain ⟨q0, q1, q2, q3, q4⟩ := cells5 hR; have k0 := hR.free 0; have k1 := hR.free 1; have k2 := hR.free 2; have k3 := hR.free 3; have k4 := hR.free 4; have hRl := hR.lt) | (refine step_append_slice _ (by rfl) _ _ 25 (by rfl) (w.heap.size + 1 + 1) 3 j0 _ 1 8 Try.underlying25 ji jz0 jz1 jz2 rfl Nat.one_pos _ _ _ (by rfl) (hE) A n c (x.list.map (Value.int .i64)) (by rfl) hIl (slI_some HI.out) (slI_cells (HI.out.on RI.keeps (And.left (by assumption)))) (ints_one _) hI63 hIb (hbP) _ rfl ?_; intro v5 w5 ho5 hg5 ha5; obtain ⟨A5, c5, rfl, _, _⟩ := own_form ho5; have F := second_old ho6 hn5 hg5 ha5 rfl; have hR := row_gr hRP hg5 (by first | exact n12 | exact n13); obtain ⟨q0, q1, q2, q3, q4⟩ := cells5 hR; have k0 := hR.free 0; have k1 := hR.free 1; have k2 := hR.free 2; have k3 := hR.free 3; have k4 := hR.free 4; have hRl := hR.lt) | (refine step_append_slice _ (by rfl) _ _ 45 (by rfl) (w.heap.size + 1 + 1) 69 i0 _ 2 16 Try.underlying45 hi hz0 hz1 hz2 rfl (Nat.zero_lt_succ 1) _ _ _ (by rfl) (lit_new hsW le2 69 2) E m d (prc x.pairs) (by rfl) hPl (slI_some HP.out) (slP_cells (HP.out.on RP.keeps (And.left (by assumption)))) (prc_one _) hP63 hPb (hb2) (w.heap.size + 1 + 1 + 1) hd2 ?_; intro v6 w6 ho6 hg6 ha6; obtain ⟨A6, c6, rfl, _, _⟩ := own_form ho6; have hRP := row_gr (row_ad RD (.cells #[] 69)) hg6 n12; have hbP : w.heap.size + 1 + 1 ≤ w6.heap.size := Nat.le_trans hb2 hg6.size) | (refine step_append_slice _ (by rfl) _ _ 45 (by rfl) (w.heap.size + 1 + 1) 69 i0 _ 2 16 Try.underlying45 hi hz0 hz1 hz2 rfl (Nat.zero_lt_succ 1) _ _ _ (by rfl) (own_ad (lit_new hsW le2 69 2) (.cells #[] 3)) E m d (prc x.pairs) (by rfl) hPl (slI_some HP.out) (slP_cells (HP.out.on RP.keeps (And.left (by assumption)))) (prc_one _) hP63 hPb (hb21) (w.heap.size + 1 + 1 + 1 + 1) hd21 ?_; intro v6 w6 ho6 hg6 ha6; obtain ⟨A6, c6, rfl, _, _⟩ := own_form ho6; have hE := own_grown (lit_new hsW2 le3 3 1) hg6 (lit_ne n32); have hn5 := first_ne ha6 n23 n43; have hRP := row_gr (row_ad (row_ad RD (.cells #[] 69)) (.cells #[] 3)) hg6 n12; have hbP : w.heap.size + 1 + 1 ≤ w6.heap.size := Nat.le_trans hb21 hg6.size) | (refine step_append_slice _ (by rfl) _ _ 45 (by rfl) (w.heap.size + 1 + 1) 69 i0 _ 2 16 Try.underlying45 hi hz0 hz1 hz2 rfl (Nat.zero_lt_succ 1) _ _ _ (by rfl) (lit_new hsW1 le3 69 2) E m d (prc x.pairs) (by rfl) hPl (slI_some HP.out) (slP_cells (HP.out.on RP.keeps (And.left (by assumption)))) (prc_one _) hP63 hPb (hb12) (w.heap.size + 1 + 1 + 1 + 1) hd12 ?_; intro v6 w6 ho6 hg6 ha6; obtain ⟨A6, c6, rfl, _, _⟩ := own_form ho6; have hE := own_grown (own_ad (lit_new hsW le2 3 1) (.cells #[] 69)) hg6 (lit_ne n23); have hn5 := first_ne ha6 n32 n42; have hRP := row_gr (row_ad (row_ad RD (.cells #[] 3)) (.cells #[] 69)) hg6 n13; have hbP : w.heap.size + 1 + 1 ≤ w6.heap.size := Nat.le_trans hb12 hg6.size) | (refine step_append_slice _ (by rfl) _ _ 45 (by rfl) (w.heap.size + 1 + 1) 69 i0 _ 2 16 Try.underlying45 hi hz0 hz1 hz2 rfl (Nat.zero_lt_succ 1) _ _ _ (by rfl) (own_mono (own_emptyS w5 69 2) hbI) E m d (prc x.pairs) (by rfl) hPl (slI_some HP.out) (slP_cells (HP.out.on RP.keeps (And.left (by assumption)))) (prc_one _) hP63 hPb (Nat.le_trans hbI (size_le_alloc _ _)) _ rfl ?_; intro v6 w6 ho6 hg6 ha6; obtain ⟨A6, c6, rfl, _, _⟩ := own_form ho6; have F := second_new ho5 hg6 ha6 rfl; have hR := row_gr (hRI.alloc (.cells #[] 69)) hg6 (Nat.ne_of_lt (hRI.lt)); obtain ⟨q0, q1, q2, q3, q4⟩ := cells5 hR; have k0 := hR.free 0; have k1 := hR.free 1; have k2 := hR.free 2; have k3 := hR.free 3; have k4 := hR.free 4; have hRl := hR.lt) | (refine step_append_slice _ (by rfl) _ _ 45 (by rfl) (w.heap.size + 1 + 1) 69 i0 _ 2 16 Try.underlying45 hi hz0 hz1 hz2 rfl (Nat.zero_lt_succ 1) _ _ _ (by rfl) (hE) E m d (prc x.pairs) (by rfl) hPl (slI_some HP.out) (slP_cells (HP.out.on RP.keeps (And.left (by assumption)))) (prc_one _) hP63 hPb (hbI) _ rfl ?_; intro v6 w6 ho6 hg6 ha6; obtain ⟨A6, c6, rfl, _, _⟩ := own_form ho6; have F := second_old ho5 hn5 hg6 ha6 rfl; have hR := row_gr hRI hg6 (by first | exact n12 | exact n13); obtain ⟨q0, q1, q2, q3, q4⟩ := cells5 hR; have k0 := hR.free 0; have k1 := hR.free 1; have k2 := hR.free 2; have k3 := hR.free 3; have k4 := hR.free 4; have hRl := hR.lt) | fail)
  all_goals
    go_wp2
    refine bodyPost_ret (v := .agg #[.int .i64 x.kind, .int .i64 x.field, .int .i64 x.value, .slice A5 n c5, .slice A6 m c6]) (by simp [results, Try.results32, go_sem, q0, q1, q2, q3, q4]) rfl ?_
    refine ⟨_, _, rfl, OwnW.mono (lo := w.heap.size + 1 + 1) ?_ (by omega), ?_⟩
    · repeat (refine OwnW.far ?_ (by first | (simp; done) | (simp; omega)) _)
      first
        | exact fin2 F.1 ho6 F.2 nl ml
        | exact fin2 ho5 F.1 (far_swap F.2) nl ml
    · first
        | exact And.left (by assumption)
        | (repeat (refine Below.setCell ?_ (by first | (simp; done) | (simp; omega)) _)
           first
             | exact And.left (by assumption)
             | exact (s5_gr (by assumption) hg6 l02).1
             | exact (s5_gr (by assumption) hg6 l03).1
             | exact (s5_gr (by assumption) hg5 l02).1
             | exact (s5_gr (by assumption) hg5 l03).1)

end Go.Proofs.Ytejpfjknlckffaa.Wk

namespace Go.Proofs.Ytejpfjknlckffaa.P
open Go.Proofs.Ytejpfjknlckffaa.M
set_option linter.unusedVariables false

/-- The depth of the stack behind the first i nodes. -/
noncomputable def Dp (l : List Nd) (i : Nat) : Nat := (depth (l.take i) 0).getD 0
theorem dp_of {l : List Nd} {i d : Nat} (h : Dep l i d) : Dp l i = d := by unfold Dp; unfold Dep at h; rw [h]; rfl
theorem dp_zero (l : List Nd) : Dp l 0 = 0 := rfl
/-- A node turns the depth by one at most. -/
theorem dp_succ {l : List Nd} (h : okE l = true) {i : Nat} {x : Nd} (hx : l[i]? = some x) : Dp l (i + 1) + opnds x.op = Dp l i + 1 ∧ opnds x.op ≤ Dp l i ∧ opnds x.op ≤ 2 := by
  obtain ⟨hok, d, hd, ho⟩ := okE_at h hx
  have h1 := dp_of hd
  have h2 := dp_of (dep_step hd hx hok ho)
  refine ⟨by omega, by omega, ?_⟩
  unfold opnds
  repeat' split
  all_goals omega
/-- Down from i, the first place at which the depth is one less than t. -/
noncomputable def downE (l : List Nd) (t : Nat) : Nat → Nat
  | 0 => 0
  | i + 1 => if Dp l (i + 1) + 1 = t then i + 1 else downE l t i
noncomputable def startE (l : List Nd) (at_ : Nat) : Nat := downE l (Dp l (at_ + 1)) at_
theorem downE_hit {l : List Nd} {t i : Nat} (h : Dp l i + 1 = t) : downE l t i = i := by
  cases i with
  | zero => rfl
  | succ i => rw [downE, if_pos h]
theorem downE_miss {l : List Nd} {t i : Nat} (h : Dp l (i + 1) + 1 ≠ t) : downE l t (i + 1) = downE l t i := by rw [downE, if_neg h]
theorem downE_le (l : List Nd) (t : Nat) : ∀ i, downE l t i ≤ i
  | 0 => Nat.le_refl _
  | i + 1 => by
    rw [downE]
    split
    · exact Nat.le_refl _
    · have := downE_le l t i; omega
theorem startE_le (l : List Nd) (a : Nat) : startE l a ≤ a := downE_le _ _ _
end Go.Proofs.Ytejpfjknlckffaa.P

namespace Go.Proofs.Ytejpfjknlckffaa.Wk
open Go.RowKit Go.Proofs.Ytejpfjknlckffaa.M
set_option linter.unusedVariables false
attribute [local go_sem] cell_grow

end Go.Proofs.Ytejpfjknlckffaa.Wk

namespace Go.Proofs.Ytejpfjknlckffaa.Wk
open Go.RowKit Go.Proofs.Ytejpfjknlckffaa.M
set_option linter.unusedVariables false
attribute [local go_sem] cell_grow

theorem l5WishE {A E : Option Addr} {n c m d : Nat} {x : Wi} (w : World) (h : Sl RI 1 w w.heap.size A n c x.list) (g : Sl RP 2 w w.heap.size E m d x.pairs) (hn : n ≤ 1048576) (hm : m ≤ 1048576) :
    Calls Try.prog 32 #[.agg #[.int .i64 x.kind, .int .i64 x.field, .int .i64 x.value, .slice A n c, .slice E m d]] w fun e w' => ∃ A2 c2 E2 d2, e = .returned (.agg #[.int .i64 x.kind, .int .i64 x.field, .int .i64 x.value, .slice A2 x.list.length c2, .slice E2 x.pairs.length d2]) ∧ OwnW w' w.heap.size 3 69 x (.slice A2 x.list.length c2) (.slice E2 x.pairs.length d2) ∧ Below w.heap.size w w' :=
  (l5Wish w h g hn hm).mono fun e w' ⟨u, v, he, ho, hb⟩ => by
    obtain ⟨A2, c2, rfl, _, _⟩ := own_form ho.1
    obtain ⟨E2, d2, rfl, _, _⟩ := own_form ho.2.1
    exact ⟨A2, c2, E2, d2, he, ho, hb⟩
theorem below_drew {W w8 : World} (h : Below W.drew.heap.size W.drew w8) : Below W.heap.size W w8 := (Below.refl W.heap.size W).drew.trans h
theorem six {b o : Nat} {a1 a2 a3 a4 a5 a6 : Value} {w w' : World} {B : Nat} (hb : Below B w w') (hlt : b < B) (h : w.cell? ⟨b, o, none⟩ = some a1 ∧ w.cell? ⟨b, o + 1, none⟩ = some a2 ∧ w.cell? ⟨b, o + 2, none⟩ = some a3 ∧ w.cell? ⟨b, o + 3, none⟩ = some a4 ∧ w.cell? ⟨b, o + 4, none⟩ = some a5 ∧ w.cell? ⟨b, o + 5, none⟩ = some a6) :
    w'.cell? ⟨b, o, none⟩ = some a1 ∧ w'.cell? ⟨b, o + 1, none⟩ = some a2 ∧ w'.cell? ⟨b, o + 2, none⟩ = some a3 ∧ w'.cell? ⟨b, o + 3, none⟩ = some a4 ∧ w'.cell? ⟨b, o + 4, none⟩ = some a5 ∧ w'.cell? ⟨b, o + 5, none⟩ = some a6 := by
  obtain ⟨h1, h2, h3, h4, h5, h6⟩ := h
  exact ⟨(cell_of hb _ _ hlt).trans h1, (cell_of hb _ _ hlt).trans h2, (cell_of hb _ _ hlt).trans h3, (cell_of hb _ _ hlt).trans h4, (cell_of hb _ _ hlt).trans h5, (cell_of hb _ _ hlt).trans h6⟩
theorem grown_base {X w1 : World} {B : Nat} {row : Option Nat} (hg : X.grownBy w1 row) (hB : B ≤ X.heap.size) (hr : ∀ q, row = some q → B ≤ q) : Below B X w1 := (Below.refl B X).grown hg hB hr
end Go.Proofs.Ytejpfjknlckffaa.Wk

namespace Go.Proofs.Ytejpfjknlckffaa.Wk
open Go.RowKit Go.Proofs.Ytejpfjknlckffaa.M
set_option linter.unusedVariables false
attribute [local go_sem] cell_grow

/-- What Subtree answers. -/
noncomputable def subR (l : List Nd) (a : Int) : List Nd := if P.okE l && P.inR a 0 ((l.length : Int) - 1) then (l.drop (P.startE l a.toNat)).take (a.toNat + 1 - P.startE l a.toNat) else []
theorem subR_mem {l : List Nd} {a : Int} {x : Nd} (h : x ∈ subR l a) : x ∈ l := by
  unfold subR at h
  split at h
  · exact List.mem_of_mem_drop (List.mem_of_mem_take h)
  · simp at h
theorem okE_fit {l : List Nd} (h : P.okE l = true) : ∀ x ∈ l, x.wish.list.length ≤ 1048576 ∧ x.wish.pairs.length ≤ 1048576 := by
  intro x hx
  obtain ⟨i, hi⟩ := List.getElem?_of_mem hx
  have hok := (P.okE_at h hi).1
  unfold P.okN at hok
  rw [Bool.and_eq_true] at hok
  obtain ⟨_, h2⟩ := hok
  split at h2
  · have h3 := P.okW_listlen h2
    have h4 := P.okW_pairslen h2
    omega
  · unfold P.noW at h2
    simp only [decide_eq_true_eq] at h2
    obtain ⟨_, _, _, h3, h4⟩ := h2
    rw [h3, h4]; simp
theorem ownNd_nil (w w' : World) (hb : Below (w.alloc (.cells #[] 49)).heap.size (w.alloc (.cells #[] 49)) w') : OwnNd w' w.heap.size w'.heap.size (.slice (some ⟨w.heap.size, 0, none⟩) 0 0) [] := by
  have h := own_below (own_emptyS w 49 6) hb
  exact ⟨[], rfl, fun p hp => absurd hp (by simp), by simp [ndv], h, own_und h, fun u hu => absurd hu (by simp [ndv])⟩
theorem ownNd_mono {w : World} {lo lo' hi : Nat} {v : Value} {l : List Nd} (h : OwnNd w lo hi v l) (hl : lo' ≤ lo) : OwnNd w lo' hi v l := by
  obtain ⟨ps, h1, h2, h3, h4, h5, h6⟩ := h
  exact ⟨ps, h1, fun p hp => ⟨(h2 p hp).1.mono hl, (h2 p hp).2⟩, h3, own_mono h4 hl, h5, h6⟩
end Go.Proofs.Ytejpfjknlckffaa.Wk

namespace Go.Proofs.Ytejpfjknlckffaa.M
open Go Go.RowKit

/-- Wish k of a list in memory. -/
theorem wishAt {w : World} {B n c k : Nat} {A : Option Addr} {l : List Wi} (h : Sl RW 5 w B A n c l) (hk : k < n) :
    ∃ b o x A1 n1 c1 E1 m1 d1, A = some ⟨b, o, none⟩ ∧ b < B ∧ l[k]? = some x ∧ (Fit x.kind ∧ Fit x.field ∧ Fit x.value) ∧ Sl RI 1 w B A1 n1 c1 x.list ∧ Sl RP 2 w B E1 m1 d1 x.pairs ∧
      w.cell? ⟨b, o + k * 5, none⟩ = some (.int .i64 x.kind) ∧ w.cell? ⟨b, o + k * 5 + 1, none⟩ = some (.int .i64 x.field) ∧ w.cell? ⟨b, o + k * 5 + 2, none⟩ = some (.int .i64 x.value) ∧
      w.cell? ⟨b, o + k * 5 + 3, none⟩ = some (.slice A1 n1 c1) ∧ w.cell? ⟨b, o + k * 5 + 4, none⟩ = some (.slice E1 m1 d1) := by
  obtain ⟨b, o, x, cs, e, hlt, hx, _, ⟨v, u, rfl, f1, f2, f3, ⟨A1, n1, c1, rfl, hs⟩, ⟨E1, m1, d1, rfl, ht⟩⟩, hc⟩ := h.get hk
  refine ⟨b, o, x, A1, n1, c1, E1, m1, d1, e, hlt, hx, ⟨f1, f2, f3⟩, hs, ht, ?_, ?_, ?_, ?_, ?_⟩
  · simpa using hc 0 _ rfl
  · have := hc 1 _ rfl; rwa [← Nat.add_assoc] at this
  · have := hc 2 _ rfl; rwa [← Nat.add_assoc] at this
  · have := hc 3 _ rfl; rwa [← Nat.add_assoc] at this
  · have := hc 4 _ rfl; rwa [← Nat.add_assoc] at this
/-! ### cells in fives -/
def wd5 (p : NdC) : List Value := [.int .i64 p.1.wish.kind, .int .i64 p.1.wish.field, .int .i64 p.1.wish.value, p.2.1, p.2.2]
def wdc (ps : List NdC) : List Value := ps.flatMap wd5
theorem wdc_len (ps : List NdC) : (wdc ps).length = ps.length * 5 := by
  induction ps with
  | nil => rfl
  | cons a t ih => simp only [wdc, wd5, List.flatMap_cons, List.length_append, List.length_cons, List.length_nil] at ih ⊢; omega
theorem wdc_cons (a : NdC) (t : List NdC) : wdc (a :: t) = .int .i64 a.1.wish.kind :: .int .i64 a.1.wish.field :: .int .i64 a.1.wish.value :: a.2.1 :: a.2.2 :: wdc t := rfl
theorem wdc_at (ps : List NdC) : ∀ (k : Nat) (p : NdC), ps[k]? = some p → (wdc ps)[k * 5]? = some (.int .i64 p.1.wish.kind) ∧ (wdc ps)[k * 5 + 1]? = some (.int .i64 p.1.wish.field) ∧ (wdc ps)[k * 5 + 2]? = some (.int .i64 p.1.wish.value) ∧ (wdc ps)[k * 5 + 3]? = some p.2.1 ∧ (wdc ps)[k * 5 + 4]? = some p.2.2 := by
  induction ps with
  | nil => intro k p h; simp at h
  | cons a t ih =>
    intro k p h
    cases k with
    | zero => simp at h; subst h; simp [wdc_cons]
    | succ k =>
      have := ih k p (by simpa using h)
      rw [wdc_cons]
      rw [show (k + 1) * 5 = k * 5 + 1 + 1 + 1 + 1 + 1 by omega]
      rw [show k * 5 + 1 + 1 + 1 + 1 + 1 + 1 = (k * 5 + 1) + 1 + 1 + 1 + 1 + 1 by omega, show k * 5 + 1 + 1 + 1 + 1 + 1 + 2 = (k * 5 + 2) + 1 + 1 + 1 + 1 + 1 by omega, show k * 5 + 1 + 1 + 1 + 1 + 1 + 3 = (k * 5 + 3) + 1 + 1 + 1 + 1 + 1 by omega, show k * 5 + 1 + 1 + 1 + 1 + 1 + 4 = (k * 5 + 4) + 1 + 1 + 1 + 1 + 1 by omega]
      simp only [List.getElem?_cons_succ]
      exact this
theorem wdc_set (ps : List NdC) : ∀ (k : Nat) (p : NdC), (∀ q, ps[k]? = some q → q.2 = p.2) → ((((wdc ps).set (k * 5) (.int .i64 p.1.wish.kind)).set (k * 5 + 1) (.int .i64 p.1.wish.field)).set (k * 5 + 2) (.int .i64 p.1.wish.value)) = wdc (ps.set k p) := by
  induction ps with
  | nil => intro k p _; simp [wdc]
  | cons a t ih =>
    intro k p h
    cases k with
    | zero =>
      have := h a rfl
      rw [List.set_cons_zero, wdc_cons, wdc_cons, ← this]; rfl
    | succ k =>
      have := ih k p (fun q hq => h q (by simpa using hq))
      rw [List.set_cons_succ, wdc_cons, wdc_cons, ← this]
      rw [show (k + 1) * 5 = k * 5 + 1 + 1 + 1 + 1 + 1 by omega]
      rw [show k * 5 + 1 + 1 + 1 + 1 + 1 + 1 = (k * 5 + 1) + 1 + 1 + 1 + 1 + 1 by omega, show k * 5 + 1 + 1 + 1 + 1 + 1 + 2 = (k * 5 + 2) + 1 + 1 + 1 + 1 + 1 by omega]
      simp only [List.set_cons_succ]
theorem wdc_set_app (ps : List NdC) (cs : List Value) {k : Nat} (p : NdC) (h : k < ps.length) (hq : ∀ q, ps[k]? = some q → q.2 = p.2) :
    ((((wdc ps ++ cs).set (k * 5) (.int .i64 p.1.wish.kind)).set (k * 5 + 1) (.int .i64 p.1.wish.field)).set (k * 5 + 2) (.int .i64 p.1.wish.value)) = wdc (ps.set k p) ++ cs := by
  have hl := wdc_len ps
  rw [set_app (by omega), set_app (by simp only [List.length_set]; omega), set_app (by simp only [List.length_set]; omega), wdc_set ps k p hq]
theorem wdc_flat (ps : List NdC) : (ps.map wd5).flatten = wdc ps := by unfold wdc; rw [List.flatMap_def]
theorem wdc_snoc (ps : List NdC) (p : NdC) : wdc (ps ++ [p]) = wdc ps ++ wd5 p := by unfold wdc; rw [List.flatMap_append]; simp
/-- The rows of a list of wishes that the call is laying. -/
structure PartW (w : World) (lo EW E EP : Nat) (v : Value) (ps : List NdC) : Prop where
  rows : OwnNs w lo E EP ps
  out : w.ownsRow lo EW 5 v ps.length (wdc ps)
  far : ∀ u ∈ ndv ps, Far u v
section
variable {w w' w8 wA w1 : World} {lo lo2 EW E EP gg cap : Nat} {v u1 u2 : Value} {ps : List NdC} {x : Nd}
theorem PartW.below (h : PartW w lo EW E EP v ps) (hb : Below w.heap.size w w') : PartW w' lo EW E EP v ps := ⟨h.rows.below hb, own_below h.out hb, h.far⟩
theorem PartW.nil (w : World) (EW E EP : Nat) : PartW (w.alloc (.cells #[] EW)) w.heap.size EW E EP (.slice (some ⟨w.heap.size, 0, none⟩) 0 0) [] :=
  ⟨OwnNs.nil _ _ _ _, own_emptyS w EW 5, fun u hu => absurd hu (by simp [ndv])⟩
theorem PartW.append (h : PartW w lo EW E EP v ps) (hb : Below w.heap.size w w8) (hn : OwnW w8 lo2 E EP x.wish u1 u2) (hlo2 : w.heap.size ≤ lo2) (hlo : lo ≤ w.heap.size) (hA : Below w8.heap.size w8 wA) (hg : wA.grownBy w1 v.ownBlock)
    (hown1 : w1.ownsRow lo EW 5 (.slice (some ⟨gg, 0, none⟩) (ps.length + 1) cap) (ps.length + 1) (wdc ps ++ wd5 (x, u1, u2))) (hat : v.ownBlock = some gg ∨ gg = wA.heap.size) :
    PartW w1 lo EW E EP (.slice (some ⟨gg, 0, none⟩) (ps.length + 1) cap) (ps ++ [(x, u1, u2)]) := by
  have S := h.rows.snoc (p := (x, u1, u2)) hb hn hlo2 (by omega)
  have key : ∀ u ∈ ndv (ps ++ [(x, u1, u2)]), ∀ q, u.ownBlock = some q → v.ownBlock ≠ some q := by
    intro u hu q hq hv
    rw [ndv_snoc] at hu
    have hvl := (h.out.lt q hv).2
    rcases List.mem_append.1 hu with hu | hu
    · rcases h.far u hu with h1 | h1
      · rw [hq] at h1; cases h1
      · exact h1 (hq.trans hv.symm)
    · simp at hu
      rcases hu with rfl | rfl
      · have := (hn.1.lt q hq).1; omega
      · have := (hn.2.1.lt q hq).1; omega
  have SA := S.below hA
  refine ⟨⟨fun p hp => ?_, S.apart⟩, ?_, fun u hu => ?_⟩
  · obtain ⟨a1, a2, a3⟩ := SA.each p hp
    have m1 : p.2.1 ∈ ndv (ps ++ [(x, u1, u2)]) := List.mem_flatMap.2 ⟨p, hp, by simp⟩
    have m2 : p.2.2 ∈ ndv (ps ++ [(x, u1, u2)]) := List.mem_flatMap.2 ⟨p, hp, by simp⟩
    exact ⟨own_grown a1 hg (fun q hq e => key _ m1 q hq e.symm), own_grown a2 hg (fun q hq e => key _ m2 q hq e.symm), a3⟩
  · rw [wdc_snoc, List.length_append]
    exact hown1
  · cases hq : u.ownBlock with
    | none => exact .inl hq
    | some q =>
      refine .inr fun hh => ?_
      rw [hq] at hh
      have hgq : gg = q := by
        simp [Value.ownBlock] at hh
        exact hh.symm
      rcases hat with h1 | h1
      · exact key u hu q hq (by rw [h1, hgq])
      · have h2 := (S.lt hu hq).2
        have h3 := hA.size
        omega
end
end Go.Proofs.Ytejpfjknlckffaa.M

namespace Go.Proofs.Ytejpfjknlckffaa.Wk
open Go.RowKit Go.Proofs.Ytejpfjknlckffaa.M
set_option linter.unusedVariables false

/-! ### marks of wishes -/
def cnw1 (x : Wi) : Nat := 3 + x.list.length + 2 * x.pairs.length
def cntW : List Wi → Nat
  | [] => 0
  | x :: t => cnw1 x + cntW t
def mkWi (k : Int) (x : Wi) : Wi := ⟨k, k + 1, k + 2, allI x.list.length (k + 3), allP x.pairs.length (k + 3 + x.list.length)⟩
def allW : List Wi → Int → List Wi
  | [], _ => []
  | x :: t, k => mkWi k x :: allW t (k + cnw1 x)
theorem allW_len : ∀ (l : List Wi) (k : Int), (allW l k).length = l.length
  | [], _ => rfl
  | x :: t, k => by rw [allW, List.length_cons, allW_len t, List.length_cons]
theorem cntW_app : ∀ (l m : List Wi), cntW (l ++ m) = cntW l + cntW m
  | [], m => by simp [cntW]
  | x :: t, m => by simp only [List.cons_append, cntW, cntW_app t m]; omega
theorem cntW_succ {l : List Wi} {i : Nat} {x : Wi} (h : l[i]? = some x) : cntW (l.take (i + 1)) = cntW (l.take i) + cnw1 x := by
  obtain ⟨hl, e⟩ := List.getElem?_eq_some_iff.1 h
  rw [List.take_succ_eq_append_getElem hl, e, cntW_app]; rfl
theorem cntW_le (l : List Wi) (i : Nat) : cntW (l.take i) ≤ cntW l := by
  have := cntW_app (l.take i) (l.drop i)
  rw [List.take_append_drop] at this; omega
theorem allW_at : ∀ {l : List Wi} {k : Int} {i : Nat} {x : Wi}, l[i]? = some x → (allW l k)[i]? = some (mkWi (k + cntW (l.take i)) x)
  | [], _, _, _, h => by simp at h
  | y :: t, k, 0, x, h => by
    simp at h; subst h
    simp [allW, cntW]
  | y :: t, k, i + 1, x, h => by
    rw [allW, List.getElem?_cons_succ, allW_at (by simpa using h), List.take_succ_cons, cntW]
    have : k + (cnw1 y : Int) + (cntW (List.take i t) : Int) = k + ((cnw1 y + cntW (List.take i t) : Nat) : Int) := by omega
    rw [this]
theorem fit_allW : ∀ {l : List Wi} {k : Int}, 0 ≤ k → k + cntW l ≤ 4611686018427387904 → ∀ x ∈ allW l k, FitW x
  | [], _, _, _, x, hx => by simp [allW] at hx
  | y :: t, k, h0, h1, x, hx => by
    have hc : cntW (y :: t) = cnw1 y + cntW t := rfl
    rw [hc] at h1
    have hcy : cnw1 y = 3 + y.list.length + 2 * y.pairs.length := rfl
    rw [allW] at hx
    rcases List.mem_cons.1 hx with rfl | hx
    · refine ⟨by unfold Fit mkWi; simp only; omega, by unfold Fit mkWi; simp only; omega, by unfold Fit mkWi; simp only; omega, ?_, ?_⟩
      · exact fit_allI (n := y.list.length) (k := k + 3) (by omega) (by omega)
      · exact fit_allP (n := y.pairs.length) (k := k + 3 + y.list.length) (by omega) (by omega)
    · exact fit_allW (by omega) (by omega) x hx
def OwnWs (w : World) (lo hi : Nat) (v : Value) (l : List Wi) : Prop :=
  ∃ ps : List NdC, ps.map (·.1.wish) = l ∧ (∀ p ∈ ps, OwnW w lo 3 69 p.1.wish p.2.1 p.2.2 ∧ Und p.2.1 hi ∧ Und p.2.2 hi) ∧ (ndv ps).Pairwise Far ∧ w.ownsRow lo 47 5 v l.length (wdc ps) ∧ Und v hi ∧ ∀ u ∈ ndv ps, Far u v
def RetWs (w : World) (l : List Wi) (e : Ending) (w' : World) : Prop := ∃ v, e = .returned v ∧ OwnWs w' w.heap.size w'.heap.size v l ∧ Below w.heap.size w w'
section
variable {w w' : World} {lo hi lo' hi' : Nat} {v : Value} {l : List Wi}
theorem OwnWs.of {ps : List NdC} (h : PartW w lo 47 3 69 v ps) (hl : ps.map (·.1.wish) = l) : OwnWs w lo w.heap.size v l := by
  refine ⟨ps, hl, fun p hp => ⟨h.rows.each p hp, own_und (h.rows.each p hp).1, own_und (h.rows.each p hp).2.1⟩, h.rows.apart, ?_, own_und h.out, h.far⟩
  rw [← hl, List.length_map]; exact h.out
theorem OwnWs.below (h : OwnWs w lo hi v l) (hb : Below w.heap.size w w') : OwnWs w' lo hi v l := by
  obtain ⟨ps, h1, h2, h3, h4, h5, h6⟩ := h
  exact ⟨ps, h1, fun p hp => ⟨(h2 p hp).1.below hb, (h2 p hp).2⟩, h3, own_below h4 hb, h5, h6⟩
theorem OwnWs.rng (h : OwnWs w lo hi v l) (hc : Chg (Rng lo' hi') w w') (hd : hi' ≤ lo ∨ hi ≤ lo') : OwnWs w' lo hi v l := by
  obtain ⟨ps, h1, h2, h3, h4, h5, h6⟩ := h
  exact ⟨ps, h1, fun p hp => ⟨⟨own_rng (h2 p hp).1.1 (h2 p hp).2.1 hc hd, own_rng (h2 p hp).1.2.1 (h2 p hp).2.2 hc hd, (h2 p hp).1.2.2⟩, (h2 p hp).2⟩, h3, own_rng h4 h5 hc hd, h5, h6⟩
theorem OwnWs.read (h : OwnWs w lo hi v l) (hf : ∀ x ∈ l, FitW x) : V RW 5 w w.heap.size v l := by
  obtain ⟨ps, rfl, h2, h3, h4, h5, h6⟩ := h
  refine own_V (css := ps.map wd5) (by rw [wdc_flat]; exact h4) (by simp) (fun i x cs hx hc => ?_)
  rw [List.getElem?_map] at hx hc
  cases hp : ps[i]? with
  | none => rw [hp] at hx; cases hx
  | some p =>
    rw [hp] at hx hc
    simp at hx hc
    subst hx hc
    obtain ⟨f1, f2, f3, f4, f5⟩ := hf p.1.wish (List.mem_map.2 ⟨p, List.mem_of_getElem? hp, rfl⟩)
    obtain ⟨r1, r2⟩ := (h2 p (List.mem_of_getElem? hp)).1.read ⟨f4, f5⟩
    exact ⟨rfl, _, _, rfl, f1, f2, f3, r1, r2⟩
end
end Go.Proofs.Ytejpfjknlckffaa.Wk

namespace Go.Proofs.Ytejpfjknlckffaa.Wk
open Go.RowKit Go.Proofs.Ytejpfjknlckffaa.M
set_option linter.unusedVariables false
attribute [local go_sem] cell_grow

theorem info_wish5 : (Try.prog.info? 47).map (fun i => (i.zero, i.size, i.bytes)) = some (some (.agg #[.int .i64 0, .int .i64 0, .int .i64 0, .slice none 0 0, .slice none 0 0]), 5, 72) := by kernel_rfl
/-- The wishes of the first k nodes. -/
def wsT (l : List Nd) (k : Nat) : List Wi := ((l.take k).filter fun x => decide (x.op = 0)).map (·.wish)
noncomputable def wsR (l : List Nd) : List Wi := if P.okE l then wsT l l.length else []
theorem wsT_yes {l : List Nd} {k : Nat} {x : Nd} (hx : l[k]? = some x) (h : x.op = 0) : wsT l (k + 1) = wsT l k ++ [x.wish] := by
  obtain ⟨hl, e⟩ := List.getElem?_eq_some_iff.1 hx
  unfold wsT
  rw [List.take_succ_eq_append_getElem hl, e, List.filter_append, List.map_append]
  simp [h]
theorem wsT_no {l : List Nd} {k : Nat} {x : Nd} (hx : l[k]? = some x) (h : x.op ≠ 0) : wsT l (k + 1) = wsT l k := by
  obtain ⟨hl, e⟩ := List.getElem?_eq_some_iff.1 hx
  unfold wsT
  rw [List.take_succ_eq_append_getElem hl, e, List.filter_append, List.map_append]
  simp [h]
theorem wsT_mem {l : List Nd} {k : Nat} {y : Wi} (h : y ∈ wsT l k) : ∃ x ∈ l, x.wish = y := by
  unfold wsT at h
  obtain ⟨x, hx, e⟩ := List.mem_map.1 h
  exact ⟨x, List.mem_of_mem_take (List.mem_filter.1 hx).1, e⟩
theorem wsT_len (l : List Nd) (k : Nat) : (wsT l k).length ≤ l.length := by
  unfold wsT
  rw [List.length_map]
  exact Nat.le_trans (List.length_filter_le _ _) (by rw [List.length_take]; omega)
theorem ones5 {a b c d e : Value} (h1 : a.oneCell' = true) (h2 : b.oneCell' = true) (h3 : c.oneCell' = true) (h4 : d.oneCell' = true) (h5 : e.oneCell' = true) : ∀ u ∈ [a, b, c, d, e], u.oneCell' = true := by
  intro u hu
  simp at hu
  rcases hu with rfl | rfl | rfl | rfl | rfl <;> assumption
theorem five_new (w : World) (a b c d e : Value) (t : TypeId) : ∀ j u, [a, b, c, d, e][j]? = some u → (w.alloc (.cells #[a, b, c, d, e] t)).cell? ((⟨w.heap.size, 0, none⟩ : Addr).add j) = some u := by
  intro j u hu
  have h := (Row.new w t [a, b, c, d, e]).cell j
  rw [hu] at h
  have e : (⟨w.heap.size, 0, none⟩ : Addr).add j = ⟨w.heap.size, j, none⟩ := by by_cases h0 : j = 0 <;> simp [Addr.add, h0]
  rw [e]
  exact h
theorem hatW {gg m c : Nat} {v : Value} {k : Nat} (h : (Value.slice (some ⟨gg, 0, none⟩) m c).ownBlock = v.ownBlock ∨ (Value.slice (some ⟨gg, 0, none⟩) m c).ownBlock = some k) : v.ownBlock = some gg ∨ gg = k := by
  have e : (Value.slice (some ⟨gg, 0, none⟩) m c).ownBlock = some gg := rfl
  rw [e] at h
  rcases h with h | h
  · exact .inl h.symm
  · injection h with h; exact .inr h
theorem retW {w wr : World} {lo : Nat} {v : Value} {ps : List NdC} {l : List Wi} (h : PartW wr lo 47 3 69 v ps) (hl : ps.map (·.1.wish) = l) : OwnWs wr lo wr.heap.size v l := OwnWs.of h hl
set_option maxHeartbeats 3200000 in
set_option maxRecDepth 100000 in
theorem specWishesOf {A : Option Addr} {n c : Nat} {l : List Nd} (w : World) (h : Sl RN 6 w w.heap.size A n c l) : Calls Try.prog 14 #[.slice A n c] w (RetWs w (wsR l)) := by
  obtain ⟨i0, hi, hz0, hz1, hz2⟩ := info_parts info_wish5
  have HL := Lib.hid h.len
  have mx := Nat.le_trans h.le h.max
  unfold maxLen at mx
  have hle := h.le
  go_enter Try.func14, Try.ntmps14
  go_wp2
  cases hok : P.okE l with
  | false =>
    have HE : Hid (wsR l = []) := by show _ = _; unfold wsR; rw [hok]; rfl
    go_loopw [3, 4] (fun vo vk wr => vk = .int .i64 0 ∧ PartW wr w.heap.size 47 3 69 vo [] ∧ Below w.heap.size w wr) (fun _ _ _ => 0)
    case atStart => exact ⟨rfl, PartW.nil w _ _ _, (Below.refl _ _).alloc (Nat.le_refl _) _⟩
    case round =>
      obtain ⟨rfl, hpart, hbw⟩ := hrel
      by_cases hlt : 0 < n
      · have q1 : (0 : Int) < (n : Int) := by omega
        go_wp2_with fail
        refine (specIsExpression _ (h.on RN.keeps hbw)).mono ?_
        rintro e w2 ⟨rfl, b2⟩
        rw [hok]
        have hpart2 := hpart.below b2
        have hbw2 := hbw.trans (b2.mono hbw.size)
        go_wp2
        go_ret
        exact ⟨_, rfl, by rw [HE.out]; exact OwnWs.of hpart2 rfl, hbw2⟩
      · have q1 : ¬ (0 : Int) < (n : Int) := by omega
        go_wp2
        go_ret
        exact ⟨_, rfl, by rw [HE.out]; exact OwnWs.of hpart rfl, hbw⟩
  | true =>
    have HFI := Lib.hid (okE_fit hok)
    have hn9 : n ≤ 9 := by have := (P.okE_len hok).1; have := HL.out; omega
    have HE : Hid (wsR l = wsT l n) := by show _ = _; unfold wsR; rw [hok, HL.out]; rfl
    go_loopw [3, 4] (fun vo vk wr => ∃ (k : Nat) (ps : List NdC), k ≤ n ∧ vk = .int .i64 k ∧ Hid (ps.map (·.1.wish) = wsT l k) ∧ Hid (ps.length ≤ k) ∧ PartW wr w.heap.size 47 3 69 vo ps ∧ Below w.heap.size w wr) (fun _ vk _ => n - (intOf vk).toNat)
    case atStart => exact ⟨0, [], Nat.zero_le _, rfl, rfl, Nat.le_refl _, PartW.nil w _ _ _, (Below.refl _ _).alloc (Nat.le_refl _) _⟩
    case round =>
      obtain ⟨k, ps, hk, rfl, HM, HPL, hpart, hbw⟩ := hrel
      by_cases hlt : k < n
      · obtain ⟨b, o, x, A1, n1, c1, E1, m1, d1, rfl, hb, hx, hf, hs, ht1, g0, g1, g2, g3, g4, g5⟩ := nodeAt h hlt
        have q1 : (k : Int) < (n : Int) := by omega
        have q2 : (n : Int) ≤ (c : Int) := by omega
        go_wp2_with fail
        refine (specIsExpression _ (h.on RN.keeps hbw)).mono ?_
        rintro e w2 ⟨rfl, b2⟩
        rw [hok]
        have hpart2 := hpart.below b2
        have hbw2 := hbw.trans (b2.mono hbw.size)
        have HX := Lib.hid hx
        have e0 := ((cell_of hbw2) b (o + k * 6) hb).trans g0
        have e1 := ((cell_of hbw2) b (o + k * 6 + 1) hb).trans g1
        have e2 := ((cell_of hbw2) b (o + k * 6 + 2) hb).trans g2
        have e3 := ((cell_of hbw2) b (o + k * 6 + 3) hb).trans g3
        have e4 := ((cell_of hbw2) b (o + k * 6 + 4) hb).trans g4
        have e5 := ((cell_of hbw2) b (o + k * 6 + 5) hb).trans g5
        have hsz := hbw2.size
        have i1 : b < w2.heap.size := by omega
        have HPT := Lib.hid hpart2
        by_cases hop : x.op = 0
        · have t1 : (x.op == 0) = true := by simp [hop]
          have HOP := Lib.hid hop
          clear hop
          have HS := Lib.hid (hs.on RI.keeps hbw2)
          have HT := Lib.hid (ht1.on RP.keeps hbw2)
          obtain ⟨fl, fp⟩ := HFI.out x (List.mem_of_getElem? hx)
          have n1e : n1 ≤ 1048576 := by have := hs.len; omega
          have m1e : m1 ≤ 1048576 := by have := ht1.len; omega
          obtain ⟨A', c', hv, _, _⟩ := own_form hpart2.out
          subst hv
          have hrow : ∀ q, (Value.slice A' ps.length c').ownBlock = some q → w.heap.size ≤ q := fun q hq => (HPT.out.out.lt q hq).1
          have h63 : ps.length + 1 ≤ maxLen := by have := HPL.out; unfold maxLen; omega
          have hby : (ps.length + 1) * 72 ≤ 140737488355328 := by have := HPL.out; omega
          have HB2 := Lib.hid hbw2
          have hlo2 := hsz
          clear hs ht1 g0 g1 g2 g3 g4 g5 hpart hpart2 hbw hbw2 b2 hx hf
          go_wp2_with fail
          refine (l5WishE (x := x.wish) _ HS.out HT.out n1e m1e).mono ?_
          rintro e w8 ⟨A2, c2, E2, d2, rfl, how, hb8⟩
          have HB8 := Lib.hid (HB2.out.trans (hb8.mono hlo2))
          have hlo8 : w.heap.size ≤ (w8.alloc (.cells #[.int .i64 x.wish.kind, .int .i64 x.wish.field, .int .i64 x.wish.value, .slice A2 x.wish.list.length c2, .slice E2 x.wish.pairs.length d2] 47)).heap.size := by have := HB8.out.size; simp; omega
          have HP8 := Lib.hid (HPT.out.below hb8)
          go_wp2_with (at_builtin; refine wpList_append_own_at _ rfl _ _ 37 rfl w.heap.size 47 i0 _ 5 72 Try.underlying37 hi hz0 hz1 hz2 rfl (by decide) _ _ _ rfl (HP8.out.out.alloc _) ⟨w8.heap.size, 0, none⟩ 1 1 [.int .i64 x.wish.kind, .int .i64 x.wish.field, .int .i64 x.wish.value, .slice A2 x.wish.list.length c2, .slice E2 x.wish.pairs.length d2] rfl rfl (five_new _ _ _ _ _ _ _) (ones5 rfl rfl rfl rfl rfl) h63 hby (by first | exact hlo8 | (simp; omega)) ?_)
          intro v' w1 hown1 hgrow hnil hat
          obtain ⟨gg, cap, cs, rfl, hgb, hgc, hgm, hgR, hgl⟩ := own_row hown1 (by omega)
          have hP1 : Hid (PartW w1 w.heap.size 47 3 69 (.slice (some ⟨gg, 0, none⟩) (ps.length + 1) cap) (ps ++ [(x, .slice A2 x.wish.list.length c2, .slice E2 x.wish.pairs.length d2)])) :=
            HPT.out.append (x := x) hb8 how (Nat.le_refl _) hlo2 ((Below.refl w8.heap.size w8).alloc (Nat.le_refl _) _) hgrow hown1 (hatW (by rw [World.size_alloc]; exact hat))
          have hB1 := Lib.hid ((HB8.out.alloc HB8.out.size (.cells #[.int .i64 x.wish.kind, .int .i64 x.wish.field, .int .i64 x.wish.value, .slice A2 x.wish.list.length c2, .slice E2 x.wish.pairs.length d2] 47)).grown hgrow (by have := HB8.out.size; simp; omega) hrow)
          have HM2 : Hid ((ps ++ [(x, Value.slice A2 x.wish.list.length c2, Value.slice E2 x.wish.pairs.length d2)]).map (·.1.wish) = wsT l (k + 1)) := by
            show _ = _
            rw [List.map_append, HM.out, wsT_yes HX.out HOP.out]
            rfl
          have HPL2 : Hid ((ps ++ [(x, Value.slice A2 x.wish.list.length c2, Value.slice E2 x.wish.pairs.length d2)]).length ≤ k + 1) := by
            show _ ≤ _
            have := HPL.out
            rw [List.length_append]
            simp; omega
          clear how hb8 hown1 hgrow hat hnil hgR hgl
          go_wp2
          go_roundw
          case rel => exact ⟨k + 1, _, by omega, by go_num, HM2, HPL2, hP1.out, hB1.out⟩
          case measure => simp [intOf]; omega
        · have t1 : (x.op == 0) = false := by simp [hop]
          have HM2 : Hid (ps.map (·.1.wish) = wsT l (k + 1)) := by
            show _ = _
            rw [HM.out, wsT_no HX.out hop]
          have HPL2 : Hid (ps.length ≤ k + 1) := Nat.le_succ_of_le HPL.out
          clear hs ht1 g0 g1 g2 g3 g4 g5 hpart hbw hx hf hpart2
          go_wp2
          go_roundw
          case rel => exact ⟨k + 1, _, by omega, by go_num, HM2, HPL2, HPT.out, hbw2⟩
          case measure => simp [intOf]; omega
      · have hkn : k = n := by omega
        subst hkn
        clear h
        go_wp2
        go_ret
        exact ⟨_, rfl, by rw [HE.out]; exact OwnWs.of hpart HM.out, hbw⟩
set_option maxHeartbeats 3200000 in
set_option maxRecDepth 100000 in
theorem implWishesOf {A : Option Addr} {n c : Nat} {l : List Nd} (w : World) (h : Sl RN 6 w w.heap.size A n c l) : Calls Try.prog 13 #[.slice A n c] w (RetWs w (wsR l)) := by
  obtain ⟨i0, hi, hz0, hz1, hz2⟩ := info_parts info_wish5
  have HL := Lib.hid h.len
  have mx := Nat.le_trans h.le h.max
  unfold maxLen at mx
  have hle := h.le
  have B0 := (Below.refl w.heap.size w).alloc (Nat.le_refl _) (.cells #[] 47)
  go_enter Try.func13, Try.ntmps13
  go_wp2_with fail
  refine (implIsExpression _ (h.on RN.keeps B0)).mono ?_
  rintro e w2 ⟨rfl, b2⟩
  have B2 := B0.trans (b2.mono B0.size)
  have P2 := (PartW.nil w 47 3 69).below b2
  cases hok : P.okE l with
  | false =>
    have HE : Hid (wsR l = []) := by show _ = _; unfold wsR; rw [hok]; rfl
    go_wp2
    go_ret
    exact ⟨_, rfl, by rw [HE.out]; exact OwnWs.of P2 rfl, B2⟩
  | true =>
    have HFI := Lib.hid (okE_fit hok)
    have hn9 : n ≤ 9 := by have := (P.okE_len hok).1; have := HL.out; omega
    have HE : Hid (wsR l = wsT l n) := by show _ = _; unfold wsR; rw [hok, HL.out]; rfl
    go_wp2
    go_loopw [3, 5, 13] (fun vo v5 vk wr => ∃ (k : Nat) (ps : List NdC), k ≤ n ∧ vk = .int .i64 k ∧ Hid (ps.map (·.1.wish) = wsT l k) ∧ Hid (ps.length ≤ k) ∧ PartW wr w.heap.size 47 3 69 vo ps ∧ Below w.heap.size w wr) (fun _ _ vk _ => n - (intOf vk).toNat)
    case atStart => exact ⟨0, [], Nat.zero_le _, rfl, rfl, Nat.le_refl _, P2, B2⟩
    case round =>
      clear P2 B2 b2 B0
      obtain ⟨k, ps, hk, rfl, HM, HPL, hpart, hbw⟩ := hrel
      by_cases hlt : k < n
      · obtain ⟨b, o, x, A1, n1, c1, E1, m1, d1, rfl, hb, hx, hf, hs, ht1, g0, g1, g2, g3, g4, g5⟩ := nodeAt h hlt
        have q1 : (k : Int) < (n : Int) := by omega
        have q2 : (n : Int) ≤ (c : Int) := by omega
        have HX := Lib.hid hx
        have e0 := ((cell_of hbw) b (o + k * 6) hb).trans g0
        have e1 := ((cell_of hbw) b (o + k * 6 + 1) hb).trans g1
        have e2 := ((cell_of hbw) b (o + k * 6 + 2) hb).trans g2
        have e3 := ((cell_of hbw) b (o + k * 6 + 3) hb).trans g3
        have e4 := ((cell_of hbw) b (o + k * 6 + 4) hb).trans g4
        have e5 := ((cell_of hbw) b (o + k * 6 + 5) hb).trans g5
        have BW := (Below.refl wr.heap.size wr).alloc (Nat.le_refl _) (.cells #[.int .i64 x.op, .int .i64 x.wish.kind, .int .i64 x.wish.field, .int .i64 x.wish.value, .slice A1 n1 c1, .slice E1 m1 d1] 49)
        have hsz := hbw.size
        have i1 : b < wr.heap.size := by omega
        have hbw2 := hbw.trans (BW.mono hsz)
        have hpart2 := hpart.below BW
        have HPT := Lib.hid hpart2
        obtain ⟨e1', e2', e3', e4', e5', e6'⟩ := (boxS (Row.new wr 49 [.int .i64 x.op, .int .i64 x.wish.kind, .int .i64 x.wish.field, .int .i64 x.wish.value, .slice A1 n1 c1, .slice E1 m1 d1])).2
        by_cases hop : x.op = 0
        · have t1 : (x.op == 0) = true := by simp [hop]
          have HOP := Lib.hid hop
          clear hop
          have HS := Lib.hid (hs.on RI.keeps hbw2)
          have HT := Lib.hid (ht1.on RP.keeps hbw2)
          obtain ⟨fl, fp⟩ := HFI.out x (List.mem_of_getElem? hx)
          have n1e : n1 ≤ 1048576 := by have := hs.len; omega
          have m1e : m1 ≤ 1048576 := by have := ht1.len; omega
          obtain ⟨A', c', hv, _, _⟩ := own_form hpart2.out
          subst hv
          have hrow : ∀ q, (Value.slice A' ps.length c').ownBlock = some q → w.heap.size ≤ q := fun q hq => (HPT.out.out.lt q hq).1
          have h63 : ps.length + 1 ≤ maxLen := by have := HPL.out; unfold maxLen; omega
          have hby : (ps.length + 1) * 72 ≤ 140737488355328 := by have := HPL.out; omega
          have HB2 := Lib.hid hbw2
          have hlo2 := hbw2.size
          clear hs ht1 g0 g1 g2 g3 g4 g5 hpart hpart2 hbw hbw2 hx hf h BW
          go_wp2_with fail
          refine (copyWishE (x := x.wish) _ HS.out HT.out n1e m1e).mono ?_
          rintro e w8 ⟨A2, c2, E2, d2, rfl, how, hb8⟩
          have HB8 := Lib.hid (HB2.out.trans (hb8.mono hlo2))
          have hlo8 : w.heap.size ≤ (w8.alloc (.cells #[.int .i64 x.wish.kind, .int .i64 x.wish.field, .int .i64 x.wish.value, .slice A2 x.wish.list.length c2, .slice E2 x.wish.pairs.length d2] 47)).heap.size := by have := HB8.out.size; simp; omega
          have HP8 := Lib.hid (HPT.out.below hb8)
          go_wp2_with (at_builtin; refine wpList_append_own_at _ rfl _ _ 37 rfl w.heap.size 47 i0 _ 5 72 Try.underlying37 hi hz0 hz1 hz2 rfl (by decide) _ _ _ rfl (HP8.out.out.alloc _) ⟨w8.heap.size, 0, none⟩ 1 1 [.int .i64 x.wish.kind, .int .i64 x.wish.field, .int .i64 x.wish.value, .slice A2 x.wish.list.length c2, .slice E2 x.wish.pairs.length d2] rfl rfl (five_new _ _ _ _ _ _ _) (ones5 rfl rfl rfl rfl rfl) h63 hby (by first | exact hlo8 | (simp; omega)) ?_)
          intro v' w1 hown1 hgrow hnil hat
          obtain ⟨gg, cap, cs, rfl, hgb, hgc, hgm, hgR, hgl⟩ := own_row hown1 (by omega)
          have hP1 : Hid (PartW w1 w.heap.size 47 3 69 (.slice (some ⟨gg, 0, none⟩) (ps.length + 1) cap) (ps ++ [(x, .slice A2 x.wish.list.length c2, .slice E2 x.wish.pairs.length d2)])) :=
            HPT.out.append (x := x) hb8 how (Nat.le_refl _) hlo2 ((Below.refl w8.heap.size w8).alloc (Nat.le_refl _) _) hgrow hown1 (hatW (by rw [World.size_alloc]; exact hat))
          have hB1 := Lib.hid ((HB8.out.alloc HB8.out.size (.cells #[.int .i64 x.wish.kind, .int .i64 x.wish.field, .int .i64 x.wish.value, .slice A2 x.wish.list.length c2, .slice E2 x.wish.pairs.length d2] 47)).grown hgrow (by have := HB8.out.size; simp; omega) hrow)
          have HM2 : Hid ((ps ++ [(x, Value.slice A2 x.wish.list.length c2, Value.slice E2 x.wish.pairs.length d2)]).map (·.1.wish) = wsT l (k + 1)) := by
            show _ = _
            rw [List.map_append, HM.out, wsT_yes HX.out HOP.out]
            rfl
          have HPL2 : Hid ((ps ++ [(x, Value.slice A2 x.wish.list.length c2, Value.slice E2 x.wish.pairs.length d2)]).length ≤ k + 1) := by
            show _ ≤ _
            have := HPL.out
            rw [List.length_append]
            simp; omega
          clear how hb8 hown1 hgrow hat hnil hgR hgl
          go_wp2
          go_roundw
          case rel => exact ⟨k + 1, _, by omega, by go_num, HM2, HPL2, hP1.out, hB1.out⟩
          case measure => simp [intOf]; omega
        · have t1 : (x.op == 0) = false := by simp [hop]
          have HM2 : Hid (ps.map (·.1.wish) = wsT l (k + 1)) := by
            show _ = _
            rw [HM.out, wsT_no HX.out hop]
          have HPL2 : Hid (ps.length ≤ k + 1) := Nat.le_succ_of_le HPL.out
          clear hs ht1 g0 g1 g2 g3 g4 g5 hpart hbw hx hf hpart2 h BW
          go_wp2
          go_roundw
          case rel => exact ⟨k + 1, _, by omega, by go_num, HM2, HPL2, HPT.out, hbw2⟩
          case measure => simp [intOf]; omega
      · have hkn : k = n := by omega
        subst hkn
        clear h
        go_wp2
        go_ret
        exact ⟨_, rfl, by rw [HE.out]; exact OwnWs.of hpart HM.out, hbw⟩
theorem wsR_fit {l : List Nd} (h : ∀ x ∈ l, FitN x) : ∀ y ∈ wsR l, FitW y := by
  intro y hy
  unfold wsR at hy
  split at hy
  · obtain ⟨x, hx, rfl⟩ := wsT_mem hy
    exact (h x hx).2
  · simp at hy
theorem cntW_ws : ∀ (l : List Nd), cntW ((l.filter fun x => decide (x.op = 0)).map (·.wish)) ≤ cntN l
  | [] => Nat.le_refl _
  | x :: t => by
    have := cntW_ws t
    by_cases h : x.op = 0
    · simp only [List.filter_cons, h, decide_true, if_true, List.map_cons, cntW, cntN, cnw1, cnt1]; omega
    · simp only [List.filter_cons, h, decide_false, cntN]
      simp only [Bool.false_eq_true, if_false]; omega
theorem cnt_ws (l : List Nd) : cntW (wsR l) ≤ cntN l := by
  unfold wsR
  split
  · unfold wsT
    rw [List.take_length]
    exact cntW_ws l
  · exact Nat.zero_le _
theorem specWishesOfV {v : Value} {l : List Nd} (w : World) (h : V RN 6 w w.heap.size v l) : Calls Try.prog 14 #[v] w (RetWs w (wsR l)) := by
  obtain ⟨A, n, c, rfl, h⟩ := h
  exact specWishesOf w h
theorem implWishesOfV {v : Value} {l : List Nd} (w : World) (h : V RN 6 w w.heap.size v l) : Calls Try.prog 13 #[v] w (RetWs w (wsR l)) := by
  obtain ⟨A, n, c, rfl, h⟩ := h
  exact implWishesOf w h
end Go.Proofs.Ytejpfjknlckffaa.Wk

namespace Go.Proofs.Ytejpfjknlckffaa.P
open Go.Proofs.Ytejpfjknlckffaa.M
set_option linter.unusedVariables false
set_option linter.unusedSimpArgs false

/-- A result turned round. -/
def turn (a : Int) : Int := if a = 2 then 2 else -a
theorem cmpV_rank {w : Wi} (h : w.kind ≠ 4) (a b : Int) : cmpV w a b = if rank w a < rank w b then 1 else if rank w b < rank w a then -1 else 0 := by
  unfold cmpV; rw [if_neg h]
theorem cmpV_ord {w : Wi} (h : w.kind = 4) (a b : Int) : cmpV w a b = if a = b then 0 else if abv w.pairs a b then 1 else if abv w.pairs b a then -1 else 2 := by
  unfold cmpV; rw [if_pos h]
theorem okW_irr {w : Wi} (h : okW w = true) (hk : w.kind = 4) {a b : Int} (hp : abv w.pairs a b = true) : abv w.pairs b a = false ∧ a ≠ b := by
  have hP := okW_pairs h hk
  refine ⟨?_, ?_⟩
  · cases e : abv w.pairs b a with
    | false => rfl
    | true =>
      have := abv_trans hp e
      rw [okP_irr hP a] at this; cases this
  · rintro rfl
    rw [okP_irr hP a] at hp; cases hp
theorem cmpV_turn {w : Wi} (h : okW w = true) (a b : Int) : cmpV w b a = turn (cmpV w a b) := by
  by_cases hk : w.kind = 4
  · rw [cmpV_ord hk, cmpV_ord hk]
    by_cases e : a = b
    · rw [if_pos e, if_pos e.symm]; rfl
    · rw [if_neg e, if_neg (fun e' => e e'.symm)]
      cases h1 : abv w.pairs a b with
      | true =>
        rw [(okW_irr h hk h1).1]; rfl
      | false =>
        cases h2 : abv w.pairs b a with
        | true => rfl
        | false => rfl
  · rw [cmpV_rank hk, cmpV_rank hk]
    unfold turn
    repeat' split
    all_goals omega
/-- What of two results tells the third. -/
def Tr (p q r : Int) : Prop := ((p = 0 ∨ p = 1) → (q = 0 ∨ q = 1) → r = max p q) ∧ ((p = 0 ∨ p = -1) → (q = 0 ∨ q = -1) → r = min p q)
theorem cmpV_tr {w : Wi} (h : okW w = true) (a b c : Int) : Tr (cmpV w a b) (cmpV w b c) (cmpV w a c) := by
  by_cases hk : w.kind = 4
  · rw [cmpV_ord hk, cmpV_ord hk, cmpV_ord hk]
    by_cases e1 : a = b
    · subst e1
      rw [if_pos rfl]
      generalize (if a = c then (0 : Int) else if abv w.pairs a c then 1 else if abv w.pairs c a then -1 else 2) = z
      exact ⟨fun _ h2 => by rcases h2 with h2 | h2 <;> omega, fun _ h2 => by rcases h2 with h2 | h2 <;> omega⟩
    · by_cases e2 : b = c
      · subst e2
        rw [if_pos (rfl : b = b)]
        generalize (if a = b then (0 : Int) else if abv w.pairs a b then 1 else if abv w.pairs b a then -1 else 2) = z
        exact ⟨fun h1 _ => by rcases h1 with h1 | h1 <;> omega, fun h1 _ => by rcases h1 with h1 | h1 <;> omega⟩
      · rw [if_neg e1, if_neg e2]
        cases h1 : abv w.pairs a b with
        | true =>
          cases h2 : abv w.pairs b c with
          | true =>
            have h3 := abv_trans h1 h2
            rw [if_neg (okW_irr h hk h3).2, h3]
            exact ⟨fun _ _ => rfl, fun h1 => by simp at h1⟩
          | false =>
            refine ⟨fun _ h2 => ?_, fun h1 => by simp at h1⟩
            cases h3 : abv w.pairs c b <;> simp [h3] at h2
        | false =>
          cases h2 : abv w.pairs b a with
          | true =>
            refine ⟨fun h1 => by simp at h1, fun _ h4 => ?_⟩
            cases h5 : abv w.pairs b c with
            | true => simp [h5] at h4
            | false =>
              cases h6 : abv w.pairs c b with
              | false => simp [h5, h6] at h4
              | true =>
                have h3 := abv_trans h6 h2
                obtain ⟨h7, h8⟩ := okW_irr h hk h3
                rw [if_neg (fun e => h8 e.symm), h7, h3]
                rfl
          | false => exact ⟨fun h1 => by simp at h1, fun h1 => by simp at h1⟩
  · rw [cmpV_rank hk, cmpV_rank hk, cmpV_rank hk]
    unfold Tr
    refine ⟨fun h1 h2 => ?_, fun h1 h2 => ?_⟩
    all_goals
      (repeat' split at h1)
      all_goals (repeat' split at h2)
      all_goals (repeat' split)
      all_goals omega
theorem cmpV_refl (w : Wi) (a : Int) : cmpV w a a = 0 := by
  unfold cmpV
  split
  · rw [if_pos rfl]
  · rw [if_neg (by omega), if_neg (by omega)]
theorem cmpVals_turn (w : Wi) (a b : Int) : cmpVals w b a = turn (cmpVals w a b) := by
  unfold cmpVals
  cases h : okW w with
  | false => rfl
  | true =>
    cases h1 : inR a 0 9 <;> cases h2 : inR b 0 9 <;> simp only [Bool.true_and, Bool.and_true, Bool.and_false, Bool.false_and, if_true, Bool.false_eq_true, if_false] <;> first | rfl | exact cmpV_turn h a b
theorem cmpIs_turn (w : Wi) (x y : It) : cmpIs w y x = turn (cmpIs w x y) := by
  unfold cmpIs
  cases h : okW w with
  | false => rfl
  | true =>
    cases h1 : okI x <;> cases h2 : okI y <;> simp only [Bool.true_and, Bool.and_true, Bool.and_false, Bool.false_and, if_true, Bool.false_eq_true, if_false] <;> first | rfl | exact cmpV_turn h _ _
theorem cmpVals_rank {w : Wi} (h : okW w = true) (hk : w.kind ≠ 4) {a b : Int} (ha : inR a 0 9 = true) (hb : inR b 0 9 = true) : (decide (rank w a < rank w b) = decide (cmpVals w a b = 1)) ∧ (decide (rank w a = rank w b) = decide (cmpVals w a b = 0)) := by
  unfold cmpVals
  rw [h, ha, hb]
  simp only [Bool.and_self, if_true]
  rw [cmpV_rank hk]
  refine ⟨?_, ?_⟩ <;> rw [decide_eq_decide]
  all_goals (repeat' split)
  all_goals omega
end Go.Proofs.Ytejpfjknlckffaa.P

namespace Go.Proofs.Ytejpfjknlckffaa.P
open Go.Proofs.Ytejpfjknlckffaa.M
set_option linter.unusedVariables false
set_option linter.unusedSimpArgs false

theorem turn_neg {a : Int} (h : -1 ≤ a ∧ a ≤ 2) : negV a = turn a := by
  unfold negV turn
  by_cases e : a = 2
  · rw [if_neg (fun h => h e), if_pos e, e]
  · rw [if_pos e, if_neg e]
theorem turn_bd {a : Int} (h : -1 ≤ a ∧ a ≤ 2) : -1 ≤ turn a ∧ turn a ≤ 2 := by
  unfold turn
  split <;> omega
theorem four {a : Int} (h : -1 ≤ a ∧ a ≤ 2) : a = -1 ∨ a = 0 ∨ a = 1 ∨ a = 2 := by omega
theorem comb_turn (op : Int) {a b : Int} (ha : -1 ≤ a ∧ a ≤ 2) (hb : -1 ≤ b ∧ b ≤ 2) : comb op (turn a) (turn b) = turn (comb op a b) := by
  unfold comb
  by_cases h1 : op = 1
  · simp only [if_pos h1]
    rcases four ha with rfl | rfl | rfl | rfl <;> rcases four hb with rfl | rfl | rfl | rfl <;> decide
  · simp only [if_neg h1]
    by_cases h2 : op = 2
    · simp only [if_pos h2]
      rcases four ha with rfl | rfl | rfl | rfl <;> rcases four hb with rfl | rfl | rfl | rfl <;> decide
    · simp only [if_neg h2]
      rcases four ha with rfl | rfl | rfl | rfl <;> rcases four hb with rfl | rfl | rfl | rfl <;> decide
theorem getD_map {s : List Int} {f : Int → Int} (h0 : f 0 = 0) (i : Nat) : (s.map f).getD i 0 = f (s.getD i 0) := by
  simp only [List.getD, List.getElem?_map]
  cases s[i]? with
  | none => exact h0.symm
  | some a => rfl
theorem turn0 : turn 0 = 0 := rfl
theorem step_turn {x y : It} {n : Nd} {s : List Int} (h : InV s) : stepE y x n (s.map turn) = (stepE x y n s).map turn := by
  by_cases h0 : n.op = 0
  · rw [stepE_0 h0, stepE_0 h0, List.map_append, cmpIs_turn]; rfl
  · by_cases h3 : n.op = 3
    · rw [stepE_3 h3, stepE_3 h3, List.length_map, getD_map turn0, List.map_set]
      have hb := h.at_ (s.length - 1)
      rw [turn_neg hb, turn_neg (turn_bd hb)]
    · rw [stepE_2 h0 h3, stepE_2 h0 h3, List.length_map, getD_map turn0, getD_map turn0, List.map_append, List.map_take, comb_turn _ (h.at_ _) (h.at_ _)]; rfl
theorem run_turn (x y : It) (l : List Nd) : ∀ k, runE y x l k = (runE x y l k).map turn
  | 0 => rfl
  | k + 1 => by
    rw [runE, runE, run_turn x y l k]
    split
    · exact step_turn (InV.run x y l k)
    · rfl
theorem cmpE_turn (l : List Nd) (x y : It) : cmpE l y x = turn (cmpE l x y) := by
  unfold cmpE
  cases h : okE l with
  | false => rfl
  | true =>
    cases h1 : okI x <;> cases h2 : okI y <;> simp only [Bool.true_and, Bool.and_true, Bool.and_false, Bool.false_and, if_true, Bool.false_eq_true, if_false]
    · rfl
    · rfl
    · rfl
    · unfold evE
      rw [run_turn, getD_map turn0]
/-! ### an item equals itself -/
theorem comb_zero (op : Int) : comb op 0 0 = 0 := by
  unfold comb
  by_cases h1 : op = 1
  · simp [h1]
  · by_cases h2 : op = 2
    · simp [h2]
    · simp [h1, h2]
theorem zero_step {x : It} {n : Nd} {s : List Int} (hw : n.op = 0 → okW n.wish = true) (hx : okI x = true) (h : ∀ a ∈ s, a = 0) : ∀ a ∈ stepE x x n s, a = 0 := by
  have hz : ∀ i, s.getD i 0 = 0 := by
    intro i
    simp only [List.getD]
    cases e : s[i]? with
    | none => rfl
    | some a => exact h a (List.mem_of_getElem? e)
  intro a ha
  by_cases h0 : n.op = 0
  · rw [stepE_0 h0] at ha
    rcases List.mem_append.1 ha with ha | ha
    · exact h a ha
    · simp at ha
      rw [ha]
      unfold cmpIs
      rw [hw h0, hx]
      exact cmpV_refl _ _
  · by_cases h3 : n.op = 3
    · rw [stepE_3 h3, hz] at ha
      rcases List.mem_or_eq_of_mem_set ha with ha | ha
      · exact h a ha
      · rw [ha]; rfl
    · rw [stepE_2 h0 h3, hz, hz] at ha
      rcases List.mem_append.1 ha with ha | ha
      · exact h a (List.mem_of_mem_take ha)
      · simp at ha
        rw [ha]
        exact comb_zero _
theorem okN_wish {n : Nd} (h : okN n = true) (h0 : n.op = 0) : okW n.wish = true := by
  unfold okN at h
  rw [Bool.and_eq_true, if_pos h0] at h
  exact h.2
theorem run_zero {x : It} {l : List Nd} (hE : okE l = true) (hx : okI x = true) : ∀ k, ∀ a ∈ runE x x l k, a = 0
  | 0 => by simp [runE]
  | k + 1 => by
    have ih := run_zero hE hx k
    cases e : l[k]? with
    | none => rw [runE, e]; exact ih
    | some n =>
      rw [runE_succ e]
      exact zero_step (fun h0 => okN_wish (okE_at hE e).1 h0) hx ih
theorem cmpE_refl {l : List Nd} {x : It} (hE : okE l = true) (hx : okI x = true) : cmpE l x x = 0 := by
  unfold cmpE
  rw [hE, hx]
  simp only [Bool.and_self, if_true]
  unfold evE
  simp only [List.getD]
  cases e : (runE x x l l.length)[0]? with
  | none => rfl
  | some a => exact run_zero hE hx _ a (List.mem_of_getElem? e)
/-! ### being better is transitive -/
theorem comb1_up {a b : Int} (ha : -1 ≤ a ∧ a ≤ 2) (hb : -1 ≤ b ∧ b ≤ 2) : ((comb 1 a b = 0 ∨ comb 1 a b = 1) → (a = 0 ∨ a = 1) ∧ (b = 0 ∨ b = 1)) ∧ ((comb 1 a b = 0 ∨ comb 1 a b = -1) → (a = 0 ∨ a = -1) ∧ (b = 0 ∨ b = -1)) ∧ ((a = 0 ∨ a = 1) → (b = 0 ∨ b = 1) → comb 1 a b = max a b) ∧ ((a = 0 ∨ a = -1) → (b = 0 ∨ b = -1) → comb 1 a b = min a b) := by
  rcases four ha with rfl | rfl | rfl | rfl <;> rcases four hb with rfl | rfl | rfl | rfl <;> decide
theorem comb2_eq (a b : Int) : comb 2 a b = if a ≠ 0 then a else b := by
  unfold comb
  rw [if_neg (by decide), if_pos rfl]
theorem comb4_eq {op : Int} (h1 : op ≠ 1) (h2 : op ≠ 2) (a b : Int) : comb op a b = if a = b then a else 2 := by
  unfold comb
  rw [if_neg h1, if_neg h2]
theorem comb_tr (op : Int) {p1 p2 q1 q2 r1 r2 : Int} (a1 : -1 ≤ p1 ∧ p1 ≤ 2) (a2 : -1 ≤ p2 ∧ p2 ≤ 2) (b1 : -1 ≤ q1 ∧ q1 ≤ 2) (b2 : -1 ≤ q2 ∧ q2 ≤ 2) (d1 : -1 ≤ r1 ∧ r1 ≤ 2) (d2 : -1 ≤ r2 ∧ r2 ≤ 2) (h1 : Tr p1 q1 r1) (h2 : Tr p2 q2 r2) : Tr (comb op p1 p2) (comb op q1 q2) (comb op r1 r2) := by
  obtain ⟨h11, h12⟩ := h1
  obtain ⟨h21, h22⟩ := h2
  by_cases o1 : op = 1
  · subst o1
    obtain ⟨u1, u2, u3, u4⟩ := comb1_up a1 a2
    obtain ⟨v1, v2, v3, v4⟩ := comb1_up b1 b2
    obtain ⟨_, _, w3, w4⟩ := comb1_up d1 d2
    refine ⟨fun hp hq => ?_, fun hp hq => ?_⟩
    · obtain ⟨x1, x2⟩ := u1 hp
      obtain ⟨y1, y2⟩ := v1 hq
      have e1 := h11 x1 y1
      have e2 := h21 x2 y2
      rw [u3 x1 x2, v3 y1 y2, w3 (by omega) (by omega)]
      omega
    · obtain ⟨x1, x2⟩ := u2 hp
      obtain ⟨y1, y2⟩ := v2 hq
      have e1 := h12 x1 y1
      have e2 := h22 x2 y2
      rw [u4 x1 x2, v4 y1 y2, w4 (by omega) (by omega)]
      omega
  · by_cases o2 : op = 2
    · subst o2
      rw [comb2_eq, comb2_eq, comb2_eq]
      unfold Tr
      refine ⟨fun hp hq => ?_, fun hp hq => ?_⟩
      · split at hp <;> split at hq <;> split <;> omega
      · split at hp <;> split at hq <;> split <;> omega
    · rw [comb4_eq o1 o2, comb4_eq o1 o2, comb4_eq o1 o2]
      unfold Tr
      by_cases z1 : p1 = p2
      · by_cases z2 : q1 = q2
        · rw [if_pos z1, if_pos z2]
          subst z1 z2
          refine ⟨fun hp hq => ?_, fun hp hq => ?_⟩
          · have e1 := h11 hp hq
            have e2 := h21 hp hq
            rw [if_pos (by omega)]; exact e1
          · have e1 := h12 hp hq
            have e2 := h22 hp hq
            rw [if_pos (by omega)]; exact e1
        · rw [if_neg z2]
          exact ⟨fun _ hq => by omega, fun _ hq => by omega⟩
      · rw [if_neg z1]
        exact ⟨fun hp => by omega, fun hp => by omega⟩
theorem turn_tr {p q r : Int} (h : Tr p q r) : Tr (turn p) (turn q) (turn r) := by
  obtain ⟨h1, h2⟩ := h
  unfold Tr turn
  refine ⟨fun hp hq => ?_, fun hp hq => ?_⟩
  · have a : p = 0 ∨ p = -1 := by split at hp <;> omega
    have b : q = 0 ∨ q = -1 := by split at hq <;> omega
    have e := h2 a b
    rw [if_neg (by omega), if_neg (by omega), if_neg (by omega)]
    omega
  · have a : p = 0 ∨ p = 1 := by split at hp <;> omega
    have b : q = 0 ∨ q = 1 := by split at hq <;> omega
    have e := h1 a b
    rw [if_neg (by omega), if_neg (by omega), if_neg (by omega)]
    omega
theorem cmpIs_tr (w : Wi) {x y z : It} (hx : okI x = true) (hy : okI y = true) (hz : okI z = true) : Tr (cmpIs w x y) (cmpIs w y z) (cmpIs w x z) := by
  unfold cmpIs
  cases h : okW w with
  | false => exact ⟨fun hp => by simp at hp, fun hp => by simp at hp⟩
  | true =>
    rw [hx, hy, hz]
    exact cmpV_tr h _ _ _
theorem gd_app (s : List Int) (a : Int) (i : Nat) : (s ++ [a]).getD i 0 = if i < s.length then s.getD i 0 else if i = s.length then a else 0 := by
  simp only [List.getD, List.getElem?_append]
  by_cases h : i < s.length
  · rw [if_pos h, if_pos h]
  · rw [if_neg h, if_neg h]
    by_cases e : i = s.length
    · rw [if_pos e, e]; simp
    · rw [if_neg e, List.getElem?_eq_none (by simp; omega)]; rfl
theorem gd_set (s : List Int) (j : Nat) (a : Int) (i : Nat) : (s.set j a).getD i 0 = if i = j ∧ j < s.length then a else s.getD i 0 := by
  simp only [List.getD, List.getElem?_set]
  by_cases h : j = i
  · subst h
    by_cases h2 : j < s.length
    · simp [h2]
    · rw [if_pos rfl, if_neg h2, if_neg (by omega), List.getElem?_eq_none (by omega)]
  · rw [if_neg h, if_neg (by omega)]
theorem gd_take (s : List Int) (m : Nat) (i : Nat) : (s.take m).getD i 0 = if i < m then s.getD i 0 else 0 := by
  simp only [List.getD, List.getElem?_take]
  by_cases h : i < m
  · rw [if_pos h, if_pos h]
  · rw [if_neg h, if_neg h]; rfl
theorem tr0 : Tr 0 0 0 := ⟨fun _ _ => rfl, fun _ _ => rfl⟩
/-- Three stacks, place by place. -/
def TrS (p q r : List Int) : Prop := p.length = q.length ∧ p.length = r.length ∧ ∀ i, Tr (p.getD i 0) (q.getD i 0) (r.getD i 0)
theorem step_tr {x y z : It} {n : Nd} {p q r : List Int} (hx : okI x = true) (hy : okI y = true) (hz : okI z = true) (hp : InV p) (hq : InV q) (hr : InV r) (h : TrS p q r) : TrS (stepE x y n p) (stepE y z n q) (stepE x z n r) := by
  obtain ⟨l1, l2, h⟩ := h
  by_cases h0 : n.op = 0
  · rw [stepE_0 h0, stepE_0 h0, stepE_0 h0]
    refine ⟨by simp [l1], by simp [l2], fun i => ?_⟩
    rw [gd_app, gd_app, gd_app, ← l1, ← l2]
    by_cases e : i < p.length
    · rw [if_pos e, if_pos e, if_pos e]; exact h i
    · rw [if_neg e, if_neg e, if_neg e]
      by_cases e2 : i = p.length
      · rw [if_pos e2, if_pos e2, if_pos e2]; exact cmpIs_tr _ hx hy hz
      · rw [if_neg e2, if_neg e2, if_neg e2]; exact tr0
  · by_cases h3 : n.op = 3
    · rw [stepE_3 h3, stepE_3 h3, stepE_3 h3, ← l1, ← l2]
      refine ⟨by simp [l1], by simp [l2], fun i => ?_⟩
      rw [gd_set, gd_set, gd_set, ← l1, ← l2]
      by_cases e : i = p.length - 1 ∧ p.length - 1 < p.length
      · rw [if_pos e, if_pos e, if_pos e, turn_neg (hp.at_ _), turn_neg (hq.at_ _), turn_neg (hr.at_ _)]
        exact turn_tr (h _)
      · rw [if_neg e, if_neg e, if_neg e]; exact h i
    · rw [stepE_2 h0 h3, stepE_2 h0 h3, stepE_2 h0 h3, ← l1, ← l2]
      refine ⟨by simp [l1], by simp [l2], fun i => ?_⟩
      rw [gd_app, gd_app, gd_app, gd_take, gd_take, gd_take, List.length_take, List.length_take, List.length_take, ← l1, ← l2]
      by_cases e : i < min (p.length - 2) p.length
      · rw [if_pos e, if_pos e, if_pos e, if_pos (by omega), if_pos (by omega), if_pos (by omega)]; exact h i
      · rw [if_neg e, if_neg e, if_neg e]
        by_cases e2 : i = min (p.length - 2) p.length
        · rw [if_pos e2, if_pos e2, if_pos e2]
          exact comb_tr _ (hp.at_ _) (hp.at_ _) (hq.at_ _) (hq.at_ _) (hr.at_ _) (hr.at_ _) (h _) (h _)
        · rw [if_neg e2, if_neg e2, if_neg e2]; exact tr0
theorem run_tr {x y z : It} (hx : okI x = true) (hy : okI y = true) (hz : okI z = true) (l : List Nd) : ∀ k, TrS (runE x y l k) (runE y z l k) (runE x z l k)
  | 0 => ⟨rfl, rfl, fun i => by simp [runE]; exact tr0⟩
  | k + 1 => by
    have ih := run_tr hx hy hz l k
    cases e : l[k]? with
    | none => rw [runE, runE, runE, e]; exact ih
    | some n =>
      rw [runE_succ e, runE_succ e, runE_succ e]
      exact step_tr hx hy hz (InV.run x y l k) (InV.run y z l k) (InV.run x z l k) ih
/-- Being better is transitive. -/
theorem cmpE_tr {l : List Nd} {x y z : It} (hx : okI x = true) (hy : okI y = true) (hz : okI z = true) (h1 : cmpE l x y = 0 ∨ cmpE l x y = 1) (h2 : cmpE l y z = 0 ∨ cmpE l y z = 1) : cmpE l x z = max (cmpE l x y) (cmpE l y z) := by
  unfold cmpE at h1 h2 ⊢
  rw [hx, hy] at h1
  rw [hy, hz] at h2
  rw [hx, hy, hz]
  cases h : okE l with
  | false => rw [h] at h1; simp at h1
  | true =>
    rw [h] at h1 h2
    simp only [Bool.and_self, if_true] at h1 h2 ⊢
    exact ((run_tr hx hy hz l l.length).2.2 0).1 h1 h2
/-! ### at most five wishes -/
def nW (l : List Nd) : Nat := (l.filter fun x => decide (x.op = 0)).length
def nB (l : List Nd) : Nat := (l.filter fun x => decide (x.op ≠ 0 ∧ x.op ≠ 3)).length
theorem depth_cnt : ∀ (l : List Nd) (d e : Nat), depth l d = some e → d + nW l = e + nB l ∧ nW l + nB l ≤ l.length
  | [], d, e, h => by
    simp only [depth, Option.some.injEq] at h
    subst h
    simp [nW, nB]
  | n :: t, d, e, h => by
    rw [depth] at h
    split at h
    · rename_i hc
      rw [Bool.and_eq_true, decide_eq_true_eq] at hc
      obtain ⟨h1, h2⟩ := depth_cnt t _ _ h
      have hop := hc.2
      unfold opnds at hop h1
      unfold nW nB at *
      by_cases h0 : n.op = 0
      · rw [if_pos h0] at hop h1
        rw [List.filter_cons_of_pos (by simpa using h0), List.filter_cons_of_neg (by simp [h0])]
        simp only [List.length_cons]
        omega
      · rw [if_neg h0] at hop h1
        by_cases h3 : n.op = 3
        · rw [if_pos h3] at hop h1
          rw [List.filter_cons_of_neg (by simpa using h0), List.filter_cons_of_neg (by simp [h3])]
          simp only [List.length_cons]
          omega
        · rw [if_neg h3] at hop h1
          rw [List.filter_cons_of_neg (by simpa using h0), List.filter_cons_of_pos (by simp [h0, h3])]
          simp only [List.length_cons]
          omega
    · cases h
theorem five_wishes {l : List Nd} (h : okE l = true) : nW l ≤ 5 := by
  obtain ⟨h1, h2⟩ := okE_len h
  obtain ⟨h3, h4⟩ := depth_cnt l 0 1 h2
  omega
end Go.Proofs.Ytejpfjknlckffaa.P

namespace Go.Proofs.Ytejpfjknlckffaa.Wk
open Go.RowKit Go.Proofs.Ytejpfjknlckffaa.M
set_option linter.unusedVariables false
set_option linter.unusedSimpArgs false
attribute [local go_sem] cell_grow

theorem cmpE_bd (l : List Nd) (x y : It) : -1 ≤ P.cmpE l x y ∧ P.cmpE l x y ≤ 2 := by
  unfold P.cmpE
  split
  · unfold P.evE
    exact (P.InV.run x y l l.length).at_ 0
  · exact ⟨by decide, by decide⟩
theorem turn_2 {a : Int} (h : a = 2) : P.turn a = 2 := by unfold P.turn; rw [if_pos h]
theorem turn_n {a : Int} (h : a ≠ 2) : P.turn a = -a := by unfold P.turn; rw [if_neg h]
theorem wsR_five (l : List Nd) : (wsR l).length ≤ 5 := by
  unfold wsR
  split
  · rename_i h
    unfold wsT
    rw [List.take_length, List.length_map]
    exact P.five_wishes h
  · simp
theorem box97 {w' : World} {g g2 : Nat} {E : TypeId} {i j k m : Value} (h : Row w' g E [i, j]) (h2 : Row w' g2 E [k, m]) : (Row w' g E [i, j] ∧ Row w' g2 E [k, m]) ∧ (w'.cell? ⟨g, 0, none⟩ = some i ∧ w'.cell? ⟨g, 1, none⟩ = some j) ∧ w'.cell? ⟨g2, 0, none⟩ = some k ∧ w'.cell? ⟨g2, 1, none⟩ = some m := ⟨⟨h, h2⟩, ⟨h.cell 0, h.cell 1⟩, h2.cell 0, h2.cell 1⟩
theorem okIs_at {l : List It} {k : Nat} {x : It} (h : P.okIs l = true) (hx : l[k]? = some x) : P.okI x = true := by
  unfold P.okIs at h
  rw [Bool.and_eq_true, Bool.and_eq_true] at h
  exact List.all_eq_true.1 h.1.1 x (List.mem_of_getElem? hx)
theorem wsForm {w : World} {lo hi : Nat} {v : Value} {l : List Wi} (h : OwnWs w lo hi v l) : ∃ A c, v = .slice A l.length c := by
  obtain ⟨ps, _, _, _, h4, _⟩ := h
  obtain ⟨A, c, e, _, _⟩ := own_form h4
  exact ⟨A, c, e⟩
set_option maxHeartbeats 12000000 in
set_option maxRecDepth 100000 in
theorem FnExpressions (w : World) (v0 : Value) (l0 : List UInt8) (e0 : V RB 1 w w.heap.size v0 l0) : Calls Try.prog 3 #[v0] w fun e w' => e = .returned (.bool true) ∧ Below w.heap.size w w' := by
  obtain ⟨A0, n0, c0', rfl, hS⟩ := e0
  have HS := Lib.hid hS
  by_cases hbig : 1048576 < n0
  · have q : decide (1048576 < n0) = true := by simpa using hbig
    go_enter Try.func3, Try.ntmps3
    go_wp2_with fail
    refine (lawBig _ HS.out).mono ?_
    rintro e w1 ⟨rfl, rfl⟩
    rw [q]
    go_wp2
    go_ret
    exact ⟨rfl, Below.refl _ _⟩
  have q : decide (1048576 < n0) = false := by simpa using hbig
  have hn0 : n0 ≤ 1048576 := by omega
  clear hS hbig
  go_enter Try.func3, Try.ntmps3
  go_wp2_with fail
  refine (lawBig _ HS.out).mono ?_
  rintro e w1 ⟨rfl, rfl⟩
  rw [q]
  clear q
  go_wp2_with fail
  refine (drawCB _ HS.out hn0).mono ?_
  rintro e w2 ⟨v, l, y, A1, c1, z, A2, c2, rfl, ⟨A, n, c, rfl, hv⟩, ⟨hy, fy⟩, ⟨hz, fz⟩, b2⟩
  have b3 := ((Below.refl w2.heap.size w2).alloc (Nat.le_refl _) (.cells #[.int .i64 y.id, .slice A1 y.vals.length c1] 27)).alloc (by simp) (.cells #[.int .i64 z.id, .slice A2 z.vals.length c2] 27)
  have G2 := (Row.new w2 27 [.int .i64 y.id, .slice A1 y.vals.length c1]).alloc (.cells #[.int .i64 z.id, .slice A2 z.vals.length c2] 27)
  have H2 := Row.new (w2.alloc (.cells #[.int .i64 y.id, .slice A1 y.vals.length c1] 27)) 27 [.int .i64 z.id, .slice A2 z.vals.length c2]
  have s2 : (w2.alloc (.cells #[.int .i64 y.id, .slice A1 y.vals.length c1] 27)).heap.size = w2.heap.size + 1 := by simp
  rw [s2] at H2
  obtain ⟨w3, hw3⟩ : ∃ w3, (w2.alloc (.cells #[.int .i64 y.id, .slice A1 y.vals.length c1] 27)).alloc (.cells #[.int .i64 z.id, .slice A2 z.vals.length c2] 27) = w3 := ⟨_, rfl⟩
  rw [hw3] at b3 G2 H2
  have B3 := b2.trans (b3.mono b2.size)
  have HV := Lib.hid (hv.on RN.keeps b3)
  have HY := Lib.hid (hy.on RI.keeps b3)
  have HZ := Lib.hid (hz.on RI.keeps b3)
  have HW3 := Lib.hid hw3
  obtain ⟨k1, hk1⟩ : ∃ k1, Hid (P.cmpE l y z = k1) := ⟨_, rfl⟩
  obtain ⟨k2, hk2⟩ : ∃ k2, Hid (P.cmpE l z y = k2) := ⟨_, rfl⟩
  have hkb := cmpE_bd l y z
  have HTN : Hid (k2 = P.turn k1) := by show _ = _; rw [← hk1.out, ← hk2.out]; exact P.cmpE_turn l y z
  rw [hk1.out] at hkb
  obtain ⟨tb, htb⟩ : ∃ tb, Hid (P.okE l = tb) := ⟨_, rfl⟩
  obtain ⟨ti, hti⟩ : ∃ ti, Hid (P.okI y = ti) := ⟨_, rfl⟩
  have C1 : Hid (∀ w : World, Sl RN 6 w w.heap.size A n c l → Sl RI 1 w w.heap.size A1 y.vals.length c1 y.vals → Sl RI 1 w w.heap.size A2 z.vals.length c2 z.vals → Calls Try.prog 6 #[.slice A n c, .agg #[.int .i64 y.id, .slice A1 y.vals.length c1], .agg #[.int .i64 z.id, .slice A2 z.vals.length c2]] w fun e w' => e = .returned (.int .i64 k1) ∧ Below w.heap.size w w') := fun w h g k => by rw [← hk1.out]; exact implCompareBy w h g fy k fz
  have C2 : Hid (∀ w : World, Sl RN 6 w w.heap.size A n c l → Sl RI 1 w w.heap.size A1 y.vals.length c1 y.vals → Sl RI 1 w w.heap.size A2 z.vals.length c2 z.vals → Calls Try.prog 6 #[.slice A n c, .agg #[.int .i64 z.id, .slice A2 z.vals.length c2], .agg #[.int .i64 y.id, .slice A1 y.vals.length c1]] w fun e w' => e = .returned (.int .i64 k2) ∧ Below w.heap.size w w') := fun w h g k => by rw [← hk2.out]; exact implCompareBy w h k fz g fy
  have C3 : Hid (∀ w : World, Sl RN 6 w w.heap.size A n c l → Sl RI 1 w w.heap.size A1 y.vals.length c1 y.vals → Sl RI 1 w w.heap.size A2 z.vals.length c2 z.vals → Calls Try.prog 7 #[.slice A n c, .agg #[.int .i64 y.id, .slice A1 y.vals.length c1], .agg #[.int .i64 z.id, .slice A2 z.vals.length c2]] w fun e w' => e = .returned (.int .i64 k1) ∧ Below w.heap.size w w') := fun w h g k => by rw [← hk1.out]; exact specCompareBy w h g fy k fz
  have C4 : Hid (∀ w : World, Sl RN 6 w w.heap.size A n c l → Calls Try.prog 8 #[.slice A n c] w fun e w' => e = .returned (.bool tb) ∧ Below w.heap.size w w') := fun w h => by rw [← htb.out]; exact implIsExpression w h
  have C5 : Hid (∀ w : World, Sl RN 6 w w.heap.size A n c l → Calls Try.prog 9 #[.slice A n c] w fun e w' => e = .returned (.bool tb) ∧ Below w.heap.size w w') := fun w h => by rw [← htb.out]; exact specIsExpression w h
  have z3 : w3.heap.size = w2.heap.size + 2 := by rw [← hw3]; simp
  have lG := G2.lt
  have lH := H2.lt
  have g0 : w3.cell? ⟨w2.heap.size, 0, none⟩ = some (.int .i64 y.id) := G2.cell 0
  have g1 : w3.cell? ⟨w2.heap.size, 1, none⟩ = some (.slice A1 y.vals.length c1) := G2.cell 1
  have h0 : w3.cell? ⟨w2.heap.size + 1, 0, none⟩ = some (.int .i64 z.id) := H2.cell 0
  have h1 : w3.cell? ⟨w2.heap.size + 1, 1, none⟩ = some (.slice A2 z.vals.length c2) := H2.cell 1
  clear hv hy hz b3 b2 s2 hw3
  go_wp2_with fail
  rw [HW3.out]
  with_reducible refine (C1.out _ HV.out HY.out HZ.out).mono ?_
  rintro e w4 ⟨rfl, b4⟩
  have V3 := HV
  have Y3 := HY
  have Z3 := HZ
  have G3 := G2
  have H3 := H2
  have V4 := Lib.hid (V3.out.on RN.keeps b4)
  have Y4 := Lib.hid (Y3.out.on RI.keeps b4)
  have Z4 := Lib.hid (Z3.out.on RI.keeps b4)
  have G4 := G3.below b4 G3.lt
  have H4 := H3.below b4 H3.lt
  have B4 := B3.trans (b4.mono B3.size)
  have lG := G4.lt
  have lH := H4.lt
  have g0 : w4.cell? ⟨w2.heap.size, 0, none⟩ = some (.int .i64 y.id) := G4.cell 0
  have g1 : w4.cell? ⟨w2.heap.size, 1, none⟩ = some (.slice A1 y.vals.length c1) := G4.cell 1
  have h0 : w4.cell? ⟨w2.heap.size + 1, 0, none⟩ = some (.int .i64 z.id) := H4.cell 0
  have h1 : w4.cell? ⟨w2.heap.size + 1, 1, none⟩ = some (.slice A2 z.vals.length c2) := H4.cell 1
  clear HV HY HZ V3 Y3 Z3 G3 H3 G2 H2 B3 b4 z3 HW3
  go_wp2_with fail
  with_reducible refine (C2.out _ V4.out Y4.out Z4.out).mono ?_
  rintro e w5 ⟨rfl, b5⟩
  have V5 := Lib.hid (V4.out.on RN.keeps b5)
  have Y5 := Lib.hid (Y4.out.on RI.keeps b5)
  have Z5 := Lib.hid (Z4.out.on RI.keeps b5)
  have G5 := G4.below b5 G4.lt
  have H5 := H4.below b5 H4.lt
  have B5 := B4.trans (b5.mono B4.size)
  have lG := G5.lt
  have lH := H5.lt
  have g0 : w5.cell? ⟨w2.heap.size, 0, none⟩ = some (.int .i64 y.id) := G5.cell 0
  have g1 : w5.cell? ⟨w2.heap.size, 1, none⟩ = some (.slice A1 y.vals.length c1) := G5.cell 1
  have h0 : w5.cell? ⟨w2.heap.size + 1, 0, none⟩ = some (.int .i64 z.id) := H5.cell 0
  have h1 : w5.cell? ⟨w2.heap.size + 1, 1, none⟩ = some (.slice A2 z.vals.length c2) := H5.cell 1
  clear V4 Y4 Z4 G4 H4 B4 b5
  obtain ⟨kb0, kb1⟩ := hkb
  go_upto_region 6 with fail
  go_cut [61] (fun s61 wx => s61 = .bool false ∧ Below w5.heap.size w5 wx)
  case first =>
    have hc : (k1 = 2 ∧ k2 = 2) ∨ (k1 ≠ 2 ∧ k2 = -k1) := by
      have := HTN.out
      by_cases h2 : k1 = 2
      · exact .inl ⟨h2, this.trans (turn_2 h2)⟩
      · exact .inr ⟨h2, this.trans (turn_n h2)⟩
    have e1 : (k1 != k1) = false := by simp
    have e2 : (tb != tb) = false := by simp
    rcases hc with ⟨ha, hb⟩ | ⟨ha, hb⟩
    · subst ha hb
      go_wp2_with fail
      with_reducible refine (C3.out _ V5.out Y5.out Z5.out).mono ?_
      rintro e w6 ⟨rfl, b6⟩
      have V6 := Lib.hid (V5.out.on RN.keeps b6)
      go_wp2_with fail
      with_reducible refine (C4.out _ V6.out).mono ?_
      rintro e w7 ⟨rfl, b7⟩
      have V7 := Lib.hid (V6.out.on RN.keeps b7)
      go_wp2_with fail
      with_reducible refine (C5.out _ V7.out).mono ?_
      rintro e w8 ⟨rfl, b8⟩
      have B8 := b6.trans ((b7.trans (b8.mono b7.size)).mono b6.size)
      clear b6 b7 b8
      go_wp2
      go_meet
      exact ⟨rfl, B8⟩
    · have t1 : (k1 == 2) = false := by simpa using ha
      have t2 : (k1 != 2) = true := by simpa using ha
      have t3 : (-k1 != -k1) = false := by simp
      subst hb
      clear ha
      go_wp2_with fail
      with_reducible refine (C3.out _ V5.out Y5.out Z5.out).mono ?_
      rintro e w6 ⟨rfl, b6⟩
      have V6 := Lib.hid (V5.out.on RN.keeps b6)
      go_wp2_with fail
      with_reducible refine (C4.out _ V6.out).mono ?_
      rintro e w7 ⟨rfl, b7⟩
      have V7 := Lib.hid (V6.out.on RN.keeps b7)
      go_wp2_with fail
      with_reducible refine (C5.out _ V7.out).mono ?_
      rintro e w8 ⟨rfl, b8⟩
      have B8 := b6.trans ((b7.trans (b8.mono b7.size)).mono b6.size)
      clear b6 b7 b8
      go_wp2
      go_meet
      exact ⟨rfl, B8⟩
  case rest =>
    obtain ⟨rfl, bc⟩ := hcut
    have Vc := Lib.hid (V5.out.on RN.keeps bc)
    have Yc := Lib.hid (Y5.out.on RI.keeps bc)
    have Gc := G5.below bc G5.lt
    have Bc := B5.trans (bc.mono B5.size)
    have lG := Gc.lt
    have g0 : wc.cell? ⟨w2.heap.size, 0, none⟩ = some (.int .i64 y.id) := Gc.cell 0
    have g1 : wc.cell? ⟨w2.heap.size, 1, none⟩ = some (.slice A1 y.vals.length c1) := Gc.cell 1
    clear V5 Y5 Z5 G5 H5 B5 bc h0 h1 lH
    go_upto_region 8 with fail
    go_cut [74] (fun s74 wx => s74 = .bool false ∧ Below wc.heap.size wc wx)
    case first =>
      cases tb with
      | false =>
        go_wp2_with fail
        with_reducible refine (C5.out _ Vc.out).mono ?_
        rintro e w6 ⟨rfl, b6⟩
        go_wp2
        go_meet
        exact ⟨rfl, b6⟩
      | true =>
        have hx0 : P.okI y = true → P.cmpE l y y = 0 := fun h => P.cmpE_refl htb.out h
        have HX0 := Lib.hid hx0
        have C6 : Hid (∀ w : World, Sl RI 1 w w.heap.size A1 y.vals.length c1 y.vals → Calls Try.prog 10 #[.agg #[.int .i64 y.id, .slice A1 y.vals.length c1]] w fun e w' => e = .returned (.bool ti) ∧ Below w.heap.size w w') := fun w h => by rw [← hti.out]; exact specIsItem w h (Nat.le_refl _)
        clear hx0
        cases ti with
        | false =>
          go_wp2_with fail
          with_reducible refine (C5.out _ Vc.out).mono ?_
          rintro e w6 ⟨rfl, b6⟩
          have V6 := Lib.hid (Vc.out.on RN.keeps b6)
          have Y6 := Lib.hid (Yc.out.on RI.keeps b6)
          have G6 := Gc.below b6 Gc.lt
          have B6 := Bc.trans (b6.mono Bc.size)
          have lG := G6.lt
          have g0 : w6.cell? ⟨w2.heap.size, 0, none⟩ = some (.int .i64 y.id) := G6.cell 0
          have g1 : w6.cell? ⟨w2.heap.size, 1, none⟩ = some (.slice A1 y.vals.length c1) := G6.cell 1
          go_wp2_with fail
          with_reducible refine (C6.out _ Y6.out).mono ?_
          rintro e w7 ⟨rfl, b7⟩
          have B7 := b6.trans (b7.mono b6.size)
          go_wp2
          go_meet
          exact ⟨rfl, B7⟩
        | true =>
          have C7 : Hid (∀ w : World, Sl RN 6 w w.heap.size A n c l → Sl RI 1 w w.heap.size A1 y.vals.length c1 y.vals → Calls Try.prog 6 #[.slice A n c, .agg #[.int .i64 y.id, .slice A1 y.vals.length c1], .agg #[.int .i64 y.id, .slice A1 y.vals.length c1]] w fun e w' => e = .returned (.int .i64 0) ∧ Below w.heap.size w w') := fun w h g => by rw [← HX0.out hti.out]; exact implCompareBy w h g fy g fy
          go_wp2_with fail
          with_reducible refine (C5.out _ Vc.out).mono ?_
          rintro e w6 ⟨rfl, b6⟩
          have V6 := Lib.hid (Vc.out.on RN.keeps b6)
          have Y6 := Lib.hid (Yc.out.on RI.keeps b6)
          have G6 := Gc.below b6 Gc.lt
          have B6 := Bc.trans (b6.mono Bc.size)
          have lG := G6.lt
          have g0 : w6.cell? ⟨w2.heap.size, 0, none⟩ = some (.int .i64 y.id) := G6.cell 0
          have g1 : w6.cell? ⟨w2.heap.size, 1, none⟩ = some (.slice A1 y.vals.length c1) := G6.cell 1
          go_wp2_with fail
          with_reducible refine (C6.out _ Y6.out).mono ?_
          rintro e w7 ⟨rfl, b7⟩
          have V7 := Lib.hid (V6.out.on RN.keeps b7)
          have Y7 := Lib.hid (Y6.out.on RI.keeps b7)
          have G7 := G6.below b7 G6.lt
          have B7 := B6.trans (b7.mono B6.size)
          have lG := G7.lt
          have g0 : w7.cell? ⟨w2.heap.size, 0, none⟩ = some (.int .i64 y.id) := G7.cell 0
          have g1 : w7.cell? ⟨w2.heap.size, 1, none⟩ = some (.slice A1 y.vals.length c1) := G7.cell 1
          go_wp2_with fail
          with_reducible refine (C7.out _ V7.out Y7.out).mono ?_
          rintro e w8 ⟨rfl, b8⟩
          have B8 := b6.trans ((b7.trans (b8.mono b7.size)).mono b6.size)
          go_wp2
          go_meet
          exact ⟨rfl, B8⟩
    case rest =>
      obtain ⟨rfl, bd⟩ := hcut
      have Bd := Bc.trans (bd.mono Bc.size)
      have Vd := Lib.hid (Vc.out.on RN.keeps bd)
      have HW5 := Lib.hid (wsR_five l)
      have WI : Hid (∀ w : World, Sl RN 6 w w.heap.size A n c l → Calls Try.prog 13 #[.slice A n c] w (RetWs w (wsR l))) := fun w h => implWishesOf w h
      have WS : Hid (∀ w : World, Sl RN 6 w w.heap.size A n c l → Calls Try.prog 14 #[.slice A n c] w (RetWs w (wsR l))) := fun w h => specWishesOf w h
      clear Vc Yc Gc Bc bd g0 g1 lG C1 C2 C3 C4 C5
      go_wp2_with fail
      with_reducible refine (drawBI _ (HS.out.on RB.keeps Bd) hn0).mono ?_
      rintro e we ⟨vi, vu, li, es, rfl, ⟨Ai, ni, ci, rfl, hli⟩, ⟨Au, nu, cu, rfl, hue⟩, be⟩
      have Be := Bd.trans (be.mono Bd.size)
      have Ve := Lib.hid (Vd.out.on RN.keeps be)
      have HI := Lib.hid hli
      have HU := Lib.hid hue
      have hile := hli.le
      have himx := Nat.le_trans hli.le hli.max
      unfold maxLen at himx
      have p3 : (ni : Int) ≤ (ci : Int) := by omega
      clear hli hue be Bd Vd
      obtain ⟨ta, hto⟩ : ∃ ta, Hid (P.okIs li = ta) := ⟨_, rfl⟩
      have CA : Hid (∀ w : World, Sl RIt 2 w w.heap.size Ai ni ci li → Calls Try.prog 12 #[.slice Ai ni ci] w fun e w' => e = .returned (.bool ta) ∧ Below w.heap.size w w') := fun w h => by rw [← hto.out]; exact specAreItems w h
      go_wp2
      go_loopw [10, 11, 12, 13, 14] (fun vi vk vj vp vq wr => ∃ i : Nat, i ≤ ni ∧ vi = .int .i64 i ∧ Below we.heap.size we wr) (fun vi _ _ _ _ _ => ni - (intOf vi).toNat)
      case atStart => exact ⟨0, Nat.zero_le _, rfl, Below.refl _ _⟩
      case round =>
        obtain ⟨i, hi, rfl, hbw⟩ := hrel
        by_cases hlt : i < ni
        · have p1 : (i : Int) < (ni : Int) := by omega
          cases ta with
          | false =>
            go_wp2_with fail
            with_reducible refine (CA.out _ (HI.out.on RIt.keeps hbw)).mono ?_
            rintro e w9 ⟨rfl, b9⟩
            have hbw := hbw.trans (b9.mono hbw.size)
            clear b9
            have V9 := Lib.hid (Ve.out.on RN.keeps hbw)
            have B9 := Be.trans (hbw.mono Be.size)
            clear hbw HI HU Be Ve
            go_wp2_with fail
            with_reducible refine (WI.out _ V9.out).mono ?_
            rintro e w10 ⟨va, rfl, oa, b10⟩
            have V10 := Lib.hid (V9.out.on RN.keeps b10)
            have B10 := B9.trans (b10.mono B9.size)
            obtain ⟨Aa, ca, rfl⟩ := wsForm oa
            clear oa b10 B9 V9
            go_wp2_with fail
            with_reducible refine (WS.out _ V10.out).mono ?_
            rintro e w11 ⟨vb, rfl, ob, b11⟩
            have V11 := Lib.hid (V10.out.on RN.keeps b11)
            have B11 := B10.trans (b11.mono B10.size)
            obtain ⟨Ab, cb, rfl⟩ := wsForm ob
            clear ob b11 B10 V10
            go_wp2_with fail
            with_reducible refine (WS.out _ V11.out).mono ?_
            rintro e w12 ⟨vd, rfl, od, b12⟩
            have B12 := B11.trans (b12.mono B11.size)
            obtain ⟨Ad, cd, rfl⟩ := wsForm od
            clear od b12 B11 V11
            have q9 : ((wsR l).length : Int) ≤ 5 := by have := HW5.out; omega
            go_wp2
            go_ret
            exact ⟨rfl, B12⟩
          | true =>
            obtain ⟨b, o, xi, X1, m1, d1, hA, hb, hx, fi, hxi, g0, g1⟩ := itemAt HI.out hlt
            have OI : Hid (P.okI xi = true) := okIs_at hto.out hx
            have HXI := Lib.hid hxi
            have G0 := Lib.hid g0
            have G1 := Lib.hid g1
            subst hA
            clear hx hxi g0 g1
            go_wp2_with fail
            with_reducible refine (CA.out _ (HI.out.on RIt.keeps hbw)).mono ?_
            rintro e w9 ⟨rfl, b9⟩
            have hb9 := Lib.hid (hbw.trans (b9.mono hbw.size))
            clear b9 hbw
            go_wp2
            rename_i wr1
            go_loopw [11, 12, 13, 14] (fun vk vj vp vq wr => ∃ k : Nat, k ≤ ni ∧ vk = .int .i64 k ∧ Below we.heap.size we wr) (fun vk _ _ _ _ => ni - (intOf vk).toNat)
            case atStart => exact ⟨0, Nat.zero_le _, rfl, hb9.out⟩
            case round =>
              obtain ⟨k, hk, rfl, hbw⟩ := hrel
              by_cases hlt2 : k < ni
              · have p2 : (k : Int) < (ni : Int) := by omega
                obtain ⟨_, _, xk, X2, m2, d2, hA2, _, hx2, fk, hxk, g2, g3⟩ := itemAt HI.out hlt2
                injection hA2 with hA2
                injection hA2 with hA2 hA3 _
                subst hA2 hA3
                have OK : Hid (P.okI xk = true) := okIs_at hto.out hx2
                have HXK := Lib.hid hxk
                have G2 := Lib.hid g2
                have G3 := Lib.hid g3
                have hb9 := Lib.hid hbw
                clear hx2 hxk g2 g3 hbw
                go_wp2
                rename_i wr2
                go_loopw [12, 13, 14] (fun vj vp vq wr => ∃ j : Nat, j ≤ ni ∧ vj = .int .i64 j ∧ Below we.heap.size we wr) (fun vj _ _ _ => ni - (intOf vj).toNat)
                case atStart => exact ⟨0, Nat.zero_le _, rfl, hb9.out⟩
                case round =>
                  obtain ⟨j, hj, rfl, hbw⟩ := hrel
                  by_cases hlt3 : j < ni
                  · have p4 : (j : Int) < (ni : Int) := by omega
                    obtain ⟨_, _, xj, X3, m3, d3, hA4, _, hx3, fj, hxj, g4, g5⟩ := itemAt HI.out hlt3
                    injection hA4 with hA4
                    injection hA4 with hA4 hA5 _
                    subst hA4 hA5
                    have OJ : Hid (P.okI xj = true) := okIs_at hto.out hx3
                    have HXJ := Lib.hid hxj
                    obtain ⟨pv, hpv⟩ : ∃ pv, Hid (P.cmpE es xi xk = pv) := ⟨_, rfl⟩
                    obtain ⟨qv, hqv⟩ : ∃ qv, Hid (P.cmpE es xk xj = qv) := ⟨_, rfl⟩
                    have pb := cmpE_bd es xi xk
                    have qb := cmpE_bd es xk xj
                    rw [hpv.out] at pb
                    rw [hqv.out] at qb
                    have D1 : Hid (∀ w : World, Sl RN 6 w w.heap.size Au nu cu es → Sl RI 1 w w.heap.size X1 m1 d1 xi.vals → Sl RI 1 w w.heap.size X2 m2 d2 xk.vals → Calls Try.prog 7 #[.slice Au nu cu, .agg #[.int .i64 xi.id, .slice X1 m1 d1], .agg #[.int .i64 xk.id, .slice X2 m2 d2]] w fun e w' => e = .returned (.int .i64 pv) ∧ Below w.heap.size w w') := fun w h g k => by rw [← hpv.out]; exact specCompareBy w h g fi k fk
                    have D2 : Hid (∀ w : World, Sl RN 6 w w.heap.size Au nu cu es → Sl RI 1 w w.heap.size X2 m2 d2 xk.vals → Sl RI 1 w w.heap.size X3 m3 d3 xj.vals → Calls Try.prog 7 #[.slice Au nu cu, .agg #[.int .i64 xk.id, .slice X2 m2 d2], .agg #[.int .i64 xj.id, .slice X3 m3 d3]] w fun e w' => e = .returned (.int .i64 qv) ∧ Below w.heap.size w w') := fun w h g k => by rw [← hqv.out]; exact specCompareBy w h g fk k fj
                    have e0 := ((cell_of hbw) b (o + i * 2) hb).trans G0.out
                    have e1 := ((cell_of hbw) b (o + i * 2 + 1) hb).trans G1.out
                    have e2 := ((cell_of hbw) b (o + k * 2) hb).trans G2.out
                    have e3 := ((cell_of hbw) b (o + k * 2 + 1) hb).trans G3.out
                    have e4 := ((cell_of hbw) b (o + j * 2) hb).trans g4
                    have e5 := ((cell_of hbw) b (o + j * 2 + 1) hb).trans g5
                    have G4 := Lib.hid g4
                    have G5 := Lib.hid g5
                    have hsz := hbw.size
                    have i2 : b < wr.heap.size := by omega
                    have HUr := Lib.hid (HU.out.on RN.keeps hbw)
                    have XIr := Lib.hid (HXI.out.on RI.keeps hbw)
                    have XKr := Lib.hid (HXK.out.on RI.keeps hbw)
                    have XJr := Lib.hid (HXJ.out.on RI.keeps hbw)
                    have HB := Lib.hid hbw
                    clear hx3 hxj g4 g5 hbw
                    go_wp2_with fail
                    refine wp_region_qb (by kernel_rfl) (by kernel_rfl) ?_; (repeat (go_big_quiet_step ((go_at_call 7; with_reducible exact quietB (D1.out _ (HUr.out.gr RN.keeps _ _) (XIr.out.gr RI.keeps _ _) (XKr.out.gr RI.keeps _ _)))))); refine wpQuiet_nil ?_; intro wx hbx
                    have hbxx := HB.out.trans (hbx.mono hsz)
                    have HB2 := Lib.hid hbxx
                    have e0 := ((cell_of hbxx) b (o + i * 2) hb).trans G0.out
                    have e1 := ((cell_of hbxx) b (o + i * 2 + 1) hb).trans G1.out
                    have e2 := ((cell_of hbxx) b (o + k * 2) hb).trans G2.out
                    have e3 := ((cell_of hbxx) b (o + k * 2 + 1) hb).trans G3.out
                    have e4 := ((cell_of hbxx) b (o + j * 2) hb).trans G4.out
                    have e5 := ((cell_of hbxx) b (o + j * 2 + 1) hb).trans G5.out
                    have i2 : b < wx.heap.size := by have := hbx.size; omega
                    have hszx := hbxx.size
                    have HUx := Lib.hid (HUr.out.on RN.keeps hbx)
                    have XIx := Lib.hid (XIr.out.on RI.keeps hbx)
                    have XKx := Lib.hid (XKr.out.on RI.keeps hbx)
                    have XJx := Lib.hid (XJr.out.on RI.keeps hbx)
                    clear hbx hbxx HUr XIr XKr XJr HB hsz
                    go_wp2_with fail
                    refine wp_region_qb (by kernel_rfl) (by kernel_rfl) ?_; (repeat (go_big_quiet_step ((go_at_call 7; with_reducible exact quietB (D2.out _ (HUx.out.gr RN.keeps _ _) (XKx.out.gr RI.keeps _ _) (XJx.out.gr RI.keeps _ _)))))); refine wpQuiet_nil ?_; intro wy hby
                    have hbyy := HB2.out.trans (hby.mono hszx)
                    have HB3 := Lib.hid hbyy
                    have e0 := ((cell_of hbyy) b (o + i * 2) hb).trans G0.out
                    have e1 := ((cell_of hbyy) b (o + i * 2 + 1) hb).trans G1.out
                    have e4 := ((cell_of hbyy) b (o + j * 2) hb).trans G4.out
                    have e5 := ((cell_of hbyy) b (o + j * 2 + 1) hb).trans G5.out
                    have i2 : b < wy.heap.size := by have := hby.size; omega
                    have hszy := hbyy.size
                    have HUy := Lib.hid (HUx.out.on RN.keeps hby)
                    have XIy := Lib.hid (XIx.out.on RI.keeps hby)
                    have XJy := Lib.hid (XJx.out.on RI.keeps hby)
                    clear hby hbyy HUx XIx XKx XJx HB2 hszx e2 e3
                    by_cases hpq : (pv = 0 ∨ pv = 1) ∧ (qv = 0 ∨ qv = 1)
                    · have hmx : P.cmpE es xi xj = max pv qv := by
                        rw [← hpv.out, ← hqv.out] at hpq ⊢
                        exact P.cmpE_tr OI.out OK.out OJ.out hpq.1 hpq.2
                      have HMX := Lib.hid hmx
                      have D3 : Hid (∀ w : World, Sl RN 6 w w.heap.size Au nu cu es → Sl RI 1 w w.heap.size X1 m1 d1 xi.vals → Sl RI 1 w w.heap.size X3 m3 d3 xj.vals → Calls Try.prog 6 #[.slice Au nu cu, .agg #[.int .i64 xi.id, .slice X1 m1 d1], .agg #[.int .i64 xj.id, .slice X3 m3 d3]] w fun e w' => e = .returned (.int .i64 (max pv qv)) ∧ Below w.heap.size w w') := fun w h g k => by rw [← HMX.out]; exact implCompareBy w h g fi k fj
                      have t1 : (pv != 2) = true := by simp; omega
                      have t2 : (qv != 2) = true := by simp; omega
                      have t3 : decide (0 ≤ pv) = true := by simp; omega
                      have t4 : decide (0 ≤ qv) = true := by simp; omega
                      have t5 : (max pv qv != max pv qv) = false := by simp
                      clear hpq hmx
                      go_wp2_with fail
                      refine wp_region_qb (by kernel_rfl) (by kernel_rfl) ?_; (repeat (go_big_quiet_step ((go_at_call 6; with_reducible exact quietB (D3.out _ (HUy.out.gr RN.keeps _ _) (XIy.out.gr RI.keeps _ _) (XJy.out.gr RI.keeps _ _)))))); refine wpQuiet_nil ?_; intro wz hbz
                      have hbq := Lib.hid (HB3.out.trans (hbz.mono hszy))
                      clear hbz e0 e1 e4 e5
                      go_wp2
                      go_roundw
                      case rel => exact ⟨j + 1, by omega, by go_num, hbq.out⟩
                      case measure => simp [intOf]; omega
                    · have h4 : pv = 2 ∨ (pv ≠ 2 ∧ qv = 2) ∨ (pv ≠ 2 ∧ qv ≠ 2 ∧ pv < 0) ∨ (pv ≠ 2 ∧ qv ≠ 2 ∧ 0 ≤ pv ∧ qv < 0) := by omega
                      rcases h4 with h4 | h4 | h4 | h4
                      · have t1 : (pv != 2) = false := by simp [h4]
                        clear hpq h4
                        go_wp2_with fail
                        refine wp_region_qb (by kernel_rfl) (by kernel_rfl) ?_; (repeat (go_big_quiet_step ((fail)))); refine wpQuiet_nil ?_; intro wz hbz
                        have hbq := Lib.hid (HB3.out.trans (hbz.mono hszy))
                        clear hbz e0 e1 e4 e5
                        go_wp2
                        go_roundw
                        case rel => exact ⟨j + 1, by omega, by go_num, hbq.out⟩
                        case measure => simp [intOf]; omega
                      · have t1 : (pv != 2) = true := by simp; omega
                        have t2 : (qv != 2) = false := by simp [h4.2]
                        clear hpq h4
                        go_wp2_with fail
                        refine wp_region_qb (by kernel_rfl) (by kernel_rfl) ?_; (repeat (go_big_quiet_step ((fail)))); refine wpQuiet_nil ?_; intro wz hbz
                        have hbq := Lib.hid (HB3.out.trans (hbz.mono hszy))
                        clear hbz e0 e1 e4 e5
                        go_wp2
                        go_roundw
                        case rel => exact ⟨j + 1, by omega, by go_num, hbq.out⟩
                        case measure => simp [intOf]; omega
                      · have t1 : (pv != 2) = true := by simp; omega
                        have t2 : (qv != 2) = true := by simp; omega
                        have t3 : decide (0 ≤ pv) = false := by simp; omega
                        clear hpq h4
                        go_wp2_with fail
                        refine wp_region_qb (by kernel_rfl) (by kernel_rfl) ?_; (repeat (go_big_quiet_step ((fail)))); refine wpQuiet_nil ?_; intro wz hbz
                        have hbq := Lib.hid (HB3.out.trans (hbz.mono hszy))
                        clear hbz e0 e1 e4 e5
                        go_wp2
                        go_roundw
                        case rel => exact ⟨j + 1, by omega, by go_num, hbq.out⟩
                        case measure => simp [intOf]; omega
                      · have t1 : (pv != 2) = true := by simp; omega
                        have t2 : (qv != 2) = true := by simp; omega
                        have t3 : decide (0 ≤ pv) = true := by simp; omega
                        have t4 : decide (0 ≤ qv) = false := by simp; omega
                        clear hpq h4
                        go_wp2_with fail
                        refine wp_region_qb (by kernel_rfl) (by kernel_rfl) ?_; (repeat (go_big_quiet_step ((fail)))); refine wpQuiet_nil ?_; intro wz hbz
                        have hbq := Lib.hid (HB3.out.trans (hbz.mono hszy))
                        clear hbz e0 e1 e4 e5
                        go_wp2
                        go_roundw
                        case rel => exact ⟨j + 1, by omega, by go_num, hbq.out⟩
                        case measure => simp [intOf]; omega
                  · have p4 : ¬ (j : Int) < (ni : Int) := by omega
                    go_wp2
                    refine ⟨⟨k + 1, by omega, by go_num, hbw⟩, by simp [intOf]; omega⟩
              · have p2 : ¬ (k : Int) < (ni : Int) := by omega
                go_wp2
                refine ⟨⟨i + 1, by omega, by go_num, hbw⟩, by simp [intOf]; omega⟩
        · have p1 : ¬ (i : Int) < (ni : Int) := by omega
          have V9 := Lib.hid (Ve.out.on RN.keeps hbw)
          have B9 := Be.trans (hbw.mono Be.size)
          clear hbw HI HU Be Ve
          go_wp2_with fail
          with_reducible refine (WI.out _ V9.out).mono ?_
          rintro e w10 ⟨va, rfl, oa, b10⟩
          have V10 := Lib.hid (V9.out.on RN.keeps b10)
          have B10 := B9.trans (b10.mono B9.size)
          obtain ⟨Aa, ca, rfl⟩ := wsForm oa
          clear oa b10 B9 V9
          go_wp2_with fail
          with_reducible refine (WS.out _ V10.out).mono ?_
          rintro e w11 ⟨vb, rfl, ob, b11⟩
          have V11 := Lib.hid (V10.out.on RN.keeps b11)
          have B11 := B10.trans (b11.mono B10.size)
          obtain ⟨Ab, cb, rfl⟩ := wsForm ob
          clear ob b11 B10 V10
          go_wp2_with fail
          with_reducible refine (WS.out _ V11.out).mono ?_
          rintro e w12 ⟨vd, rfl, od, b12⟩
          have B12 := B11.trans (b12.mono B11.size)
          obtain ⟨Ad, cd, rfl⟩ := wsForm od
          clear od b12 B11 V11
          have q9 : ((wsR l).length : Int) ≤ 5 := by have := HW5.out; omega
          go_wp2
          go_ret
          exact ⟨rfl, B12⟩
end Go.Proofs.Ytejpfjknlckffaa.Wk

namespace Go.Proofs.Ytejpfjknlckffaa
open Go Go.RowKit Go.ChangeShapes Go.WideShapes Go.Deep Go.Proofs.Ytejpfjknlckffaa.M

theorem cells_byte : Try.prog.cellsOf 5 = 1 := by kernel_rfl
section
variable {H : Type} {enc : TypeId × Value → H} {W : World} {b0 : Nat} {v : Value} {d : DataW H} {p : List MemPlace}
theorem op_byte {P : Program} {w : World} {base : Nat} {spare : Nat → Bool} {held : Bool} {e : TypeId} (he : P.underlying e = some (.int .u8)) {fuel : Nat} {cs : List Value} {x : DataW H × List MemPlace} (h : DataW.trod enc P w base spare held fuel e cs = some x) : ∃ a, RB w w.heap.size a cs := by
  obtain ⟨n, hcs, _, hw⟩ := DataW.trod_int he h
  simp [Lit.wf, IntKind.min, IntKind.max, IntKind.signed, IntKind.bits] at hw
  refine ⟨UInt8.ofNat n.toNat, ?_⟩
  show cs = [.int .u8 ((UInt8.ofNat n.toNat).toNat : Int)]
  have e : ((UInt8.ofNat n.toNat).toNat : Int) = n := by
    rw [UInt8.toNat_ofNat']
    omega
  rw [e]; exact hcs
set_option maxRecDepth 100000 in
theorem open_bytes (hv : Value.okWide Try.prog W .any b0 22 v) (h : DataW.Trod enc Try.prog W 0 (fun _ => true) true 22 v d p) : ∃ l, V RB 1 W W.heap.size v l :=
  trod_slice_V Try.underlying22 cells_byte (by omega) (fun _ _ _ hh => op_byte Try.underlying5 hh) hv h
end
end Go.Proofs.Ytejpfjknlckffaa

namespace Go.Proofs.Ytejpfjknlckffaa.LFnExpressions
open Go.ChangeShapes Go.WideShapes Go.ChangeAt Go.RowKit
open Go.ChangeMaps (open_string shut_string)
set_option linter.unusedVariables false

theorem own : ownKnob Try.prog.godebug = none := by kernel_rfl
theorem laidOut : laidOutB Try.prog = true := by kernel_rfl

set_option maxRecDepth 100000 in
theorem lifted (os : Os) (started : os.Started) (H : Type) (enc : TypeId × Value → H) :
    ReturnsInHanded {} Try.checked os 3 .any (Rows.fnExpressionsSpec.pre6 enc Try.prog Try.f3 Rows.fnExpressionsRow.domain false) (Rows.fnExpressionsSpec.post enc Try.prog Try.f3 false true false false) := by
  refine returnsInHanded_of_change (C := Try.checked) own started (by kernel_rfl) Try.func3
    (ChangeSpec.witness6 (enc := enc) (C := Try.checked) false ⟨#[], #[.slice none 0 0], []⟩ 8 (by kernel_rfl) (by kernel_rfl) (by kernel_rfl) (by kernel_rfl)) ?_
  intro W base args ds gs before hval0 hW hcnd _
  have hval : ∀ (j : Nat) t v, Try.f3.params[j]? = some t → args[j]? = some v → Value.okWide Try.prog W .any base t v := hval0
  have hW' := hW
  obtain ⟨p, q, hA0, hV, rfl, hfz, hnd⟩ := hW
  have hA : DataW.TrodAll enc Try.prog W 0 (fun _ => true) true Try.f3.params.toList args.toList ds p := hA0
  rw [Try.params3] at hA hval
  obtain ⟨v0, vs0, d0, ds0, p0, q0, hargs, rfl, rfl, h0, r0⟩ := trodAll_cons hA
  obtain ⟨rfl, rfl, rfl⟩ := trodAll_nil r0
  obtain rfl : args = #[v0] := by cases args; simp_all
  obtain ⟨rfl, rfl⟩ := trodVars_none hV
  have k0 := h0
  have lt0 : ∀ x ∈ p0, x.block < W.heap.size := by obtain ⟨m, hm⟩ := k0; exact DataW.trod_lt m _ _ _ hm
  obtain ⟨l0, w0⟩ := open_bytes (hval 0 22 v0 rfl rfl) h0
  clear hA0 hval0
  refine (Wk.FnExpressions (w := W) v0 l0 w0).mono fun e W' ⟨he, bel⟩ => ?_
  subst he
  exact ⟨_, rfl, _, _, _, [], _, [], hW', trodAll_mk1 (shut_bool Try.underlying4 _), (trodAll_cons_mk (Below.trod laidOut (by kernel_rfl) (of_decide_eq_true (by kernel_rfl)) k0 bel lt0) trodAll_mk0), rfl, bel.frame _, fun h => by cases h⟩

/-- The given statement. -/
theorem proved : Rows.FnExpressionsSaid :=
  OpenClaim.holds_of_wide 3 Try.f3 rfl rfl rfl rfl rfl rfl rfl ⟨rfl, rfl, rfl, rfl, rfl⟩ rfl rfl rfl rfl rfl (by as_aux_lemma => kernel_rfl) Try.func3 (by as_aux_lemma => kernel_rfl)
    (of_decide_eq_true (by as_aux_lemma => kernel_rfl)) (by unfold Func.isWrapper; first | (rw [if_pos (by decide +kernel)]; kernel_rfl) | (rw [if_neg (by decide +kernel)]; exact ⟨rfl, rfl⟩))
    (fun os started H enc _ => lifted os started H enc)
#print axioms proved
end Go.Proofs.Ytejpfjknlckffaa.LFnExpressions
