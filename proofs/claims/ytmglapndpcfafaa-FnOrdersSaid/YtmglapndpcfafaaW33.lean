/-
  Walks of chapter 3: IsAbove, HeightOf.
  Conditions: none beyond the bounds that each states.
-/
import Derived.Test.YtmglapndpcfafaaW31
import Derived.Test.YtmglapndpcfafaaW32
import Derived.Test.YtmglapndpcfafaaP11
namespace Go.Proofs.Ytmglapndpcfafaa.Wk
open Go.RowKit Go.Proofs.Ytmglapndpcfafaa.M
set_option linter.unusedVariables false
attribute [local go_sem] cell_grow

/-- A row of a table. -/
def rowL (r : Nat → Bool) : List Value := (List.range 10).map fun j => .bool (r j)
theorem ix_tab (M : Nat → Nat → Bool) (w : World) : ∀ i : Nat, i < 10 → (Instr.index 43 (.agg (matC M).toArray) (.int .i64 (i : Int))).run Try.prog w = .ok (.agg (rowL (M i)).toArray) w
  | 0, _ => by kernel_rfl
  | 1, _ => by kernel_rfl
  | 2, _ => by kernel_rfl
  | 3, _ => by kernel_rfl
  | 4, _ => by kernel_rfl
  | 5, _ => by kernel_rfl
  | 6, _ => by kernel_rfl
  | 7, _ => by kernel_rfl
  | 8, _ => by kernel_rfl
  | 9, _ => by kernel_rfl
theorem ix_row (r : Nat → Bool) (w : World) : ∀ i : Nat, i < 10 → (Instr.index 42 (.agg (rowL r).toArray) (.int .i64 (i : Int))).run Try.prog w = .ok (.bool (r i)) w
  | 0, _ => by kernel_rfl
  | 1, _ => by kernel_rfl
  | 2, _ => by kernel_rfl
  | 3, _ => by kernel_rfl
  | 4, _ => by kernel_rfl
  | 5, _ => by kernel_rfl
  | 6, _ => by kernel_rfl
  | 7, _ => by kernel_rfl
  | 8, _ => by kernel_rfl
  | 9, _ => by kernel_rfl
/-- What IsAbove answers. -/
noncomputable def isAbv (l : List (Int × Int)) (a b : Int) : Bool := P.okP l && P.abv l a b
set_option maxHeartbeats 800000 in
theorem specIsAbove {A : Option Addr} {n c : Nat} {l : List (Int × Int)} {a b : Int} (w : World) (h : Sl RP 2 w w.heap.size A n c l) (ha : Fit a) (hb : Fit b) : Calls Try.prog 15 #[.slice A n c, .int .i64 a, .int .i64 b] w fun e w' => e = .returned (.bool (isAbv l a b)) ∧ Below w.heap.size w w' := by
  cases hok : P.okP l with
  | false =>
    have HE : Hid (isAbv l a b = false) := by show _ = _; unfold isAbv; rw [hok]; rfl
    go_enter Try.func15, Try.ntmps15
    go_wp2_with (go_at_call 9; refine (specArePairs _ h).mono ?_; rintro e w2 ⟨rfl, hb2⟩; rw [hok])
    go_ret
    exact ⟨ret_bool HE.out.symm, hb2⟩
  | true =>
    have HE : Hid (isAbv l a b = P.abv l a b) := by show _ = _; unfold isAbv; rw [hok]; rfl
    have hn : n ≤ 8 := by have := P.okP_len hok; have := h.len; omega
    go_enter Try.func15, Try.ntmps15
    go_wp2_with fail
    refine (specArePairs _ h).mono ?_
    rintro e w2 ⟨rfl, hb2⟩
    rw [hok]
    have h2 := h.on RP.keeps hb2
    go_wp2_with (go_at_call 22; refine (l3Reach _ h2 hn ha).mono ?_; rintro e w3 ⟨rfl, hb3⟩)
    go_ret
    exact ⟨ret_bool HE.out.symm, hb2.trans (hb3.mono hb2.size)⟩
set_option maxHeartbeats 800000 in
theorem implIsAbove {A : Option Addr} {n c : Nat} {l : List (Int × Int)} {a b : Int} (w : World) (h : Sl RP 2 w w.heap.size A n c l) (ha : Fit a) (hb : Fit b) : Calls Try.prog 10 #[.slice A n c, .int .i64 a, .int .i64 b] w fun e w' => e = .returned (.bool (isAbv l a b)) ∧ Below w.heap.size w w' := by
  cases hok : P.okP l with
  | false =>
    have HE : Hid (isAbv l a b = false) := by show _ = _; unfold isAbv; rw [hok]; rfl
    go_enter Try.func10, Try.ntmps10
    go_wp2_with (go_at_call 8; refine (implArePairs _ h).mono ?_; rintro e w2 ⟨rfl, hb2⟩; rw [hok])
    go_ret
    exact ⟨ret_bool HE.out.symm, hb2⟩
  | true =>
    have hin := P.okP_in hok
    cases h1 : P.inR a 0 9 with
    | false =>
      have HE : Hid (isAbv l a b = false) := by show _ = _; unfold isAbv; rw [abv_no hin (.inl h1)]; simp
      clear hin
      go_enter Try.func10, Try.ntmps10
      go_wp2_with (first | (go_at_call 8; refine (implArePairs _ h).mono ?_; rintro e w2 ⟨rfl, hb2⟩; rw [hok]) | (go_at_call 23; refine (within _ _ _ _).mono ?_; rintro e w' ⟨rfl, rfl⟩))
      go_ret
      exact ⟨ret_bool HE.out.symm, hb2⟩
    | true =>
      cases h2 : P.inR b 0 9 with
      | false =>
        have HE : Hid (isAbv l a b = false) := by show _ = _; unfold isAbv; rw [abv_no hin (.inr h2)]; simp
        clear hin
        go_enter Try.func10, Try.ntmps10
        go_wp2_with (first | (go_at_call 8; refine (implArePairs _ h).mono ?_; rintro e w2 ⟨rfl, hb2⟩; rw [hok]) | (go_at_call 23; refine (within _ _ _ _).mono ?_; rintro e w' ⟨rfl, rfl⟩))
        go_ret
        exact ⟨ret_bool HE.out.symm, hb2⟩
      | true =>
        have HE : Hid (isAbv l a b = P.abv l a b) := by show _ = _; unfold isAbv; rw [hok]; rfl
        have HIN := Lib.hid hin
        obtain ⟨a0, a1⟩ := P.inR_t h1
        obtain ⟨b0, b1⟩ := P.inR_t h2
        obtain ⟨i, rfl⟩ := Int.eq_ofNat_of_zero_le a0
        obtain ⟨j, rfl⟩ := Int.eq_ofNat_of_zero_le b0
        have x1 := fun w => ix_tab (fun x y => P.abv l x y) w i (by omega)
        have x2 := fun w => ix_row (fun y => P.abv l i y) w j (by omega)
        clear hin
        go_enter Try.func10, Try.ntmps10
        go_wp2_with fail
        refine (implArePairs _ h).mono ?_
        rintro e w2 ⟨rfl, hb2⟩
        rw [hok]
        have h3 := h.on RP.keeps hb2
        go_wp2_with (first | (go_at_call 23; refine (within _ _ _ _).mono ?_; rintro e w' ⟨rfl, rfl⟩) | (go_at_call 21; refine (above _ h3 HIN.out).mono ?_; rintro e w3 ⟨rfl, hb3⟩))
        go_ret
        exact ⟨ret_bool HE.out.symm, hb2.trans (hb3.mono hb2.size)⟩
set_option maxHeartbeats 1600000 in
theorem l3Height {A : Option Addr} {n c : Nat} {l : List (Int × Int)} (hok : P.okP l = true) : ∀ (f : Nat) (v : Int) (w : World), Sl RP 2 w w.heap.size A n c l → P.rnk l v < f → f ≤ 100 →
    Calls Try.prog 29 #[.slice A n c, .int .i64 v] w fun e w' => e = .returned (.int .i64 (P.hgt l f v)) ∧ Below w.heap.size w w' := by
  intro f
  induction f with
  | zero => intro v w _ h; omega
  | succ f ih =>
    intro v w h hr hf
    have m1 := Nat.le_trans h.le h.max
    unfold maxLen at m1
    have HL := Lib.hid h.len
    have HOK := Lib.hid hok
    clear hok
    go_enter Try.func29, Try.ntmps29
    go_wp2_with fail
    go_loopw [5, 6] (fun vn vk wr => ∃ k : Nat, k ≤ n ∧ vk = .int .i64 k ∧ vn = .int .i64 (P.hgtK l f v k) ∧ Below w.heap.size w wr) (fun vn vk _ => n - (intOf vk).toNat)
    case atStart => exact ⟨0, Nat.zero_le _, rfl, vint (P.hgtK_zero l f v).symm, Below.refl _ _⟩
    case round =>
      obtain ⟨k, hk, rfl, rfl, hbw⟩ := hrel
      have s1 := P.hgtK_bd l f v k
      by_cases hlt : k < n
      · obtain ⟨b, o, p, rfl, hb, hx, hf1, hf2, g0, g1⟩ := pairAt h hlt
        have e0 := ((cell_of hbw) b (o + k * 2) hb).trans g0
        have e1 := ((cell_of hbw) b (o + k * 2 + 1) hb).trans g1
        have hsz := hbw.size
        have hbw1 := hbw
        have H1 := Lib.hid (h.on RP.keeps hbw1)
        have HB1 := Lib.hid hbw1
        have HX := Lib.hid hx
        have hlt2 := P.rnk_lt HOK.out (List.mem_of_getElem? hx)
        clear hx g0 g1 h hbw1
        by_cases hv : p.2 = v
        · have t1 : (p.2 == v) = true := by simpa using hv
          have HE := Lib.hid (P.hgtK_yes (f := f) HX.out hv)
          have hr1 : P.rnk l p.1 < f := by rw [hv] at hlt2; omega
          have s2 := P.hgt_bd l f p.1
          have IH := Lib.hid (ih p.1 _ H1.out hr1 (by omega))
          clear hv ih
          go_wp2_with (go_at_call 29; refine IH.out.mono ?_; rintro e w3 ⟨rfl, hb3⟩)
          go_roundw
          case rel => exact ⟨k + 1, by omega, by go_num, vint (by rw [HE.out]; split <;> omega), HB1.out.trans (hb3.mono HB1.out.size)⟩
          case measure => simp [intOf]; omega
        · have t1 : (p.2 == v) = false := by simpa using hv
          have HE := Lib.hid (P.hgtK_no (f := f) HX.out hv)
          clear hv ih
          go_wp2_with fail
          go_roundw
          case rel => exact ⟨k + 1, by omega, by go_num, vint HE.out.symm, HB1.out⟩
          case measure => simp [intOf]; omega
      · have HE := Lib.hid (P.hgtK_all (l := l) (f := f) (v := v) (k := k) (by have := HL.out; omega))
        clear h ih
        go_wp2_with fail
        go_ret
        exact ⟨ret_int HE.out.symm ▸ rfl, hbw⟩
set_option maxHeartbeats 1600000 in
theorem height {A : Option Addr} {n c : Nat} {l : List (Int × Int)} (hok : P.okP l = true) : ∀ (f : Nat) (v : Int) (w : World), Sl RP 2 w w.heap.size A n c l → P.rnk l v < f → f ≤ 100 →
    Calls Try.prog 25 #[.slice A n c, .int .i64 v] w fun e w' => e = .returned (.int .i64 (P.hgt l f v)) ∧ Below w.heap.size w w' := by
  intro f
  induction f with
  | zero => intro v w _ h; omega
  | succ f ih =>
    intro v w h hr hf
    have m1 := Nat.le_trans h.le h.max
    unfold maxLen at m1
    have HL := Lib.hid h.len
    have HOK := Lib.hid hok
    clear hok
    go_enter Try.func25, Try.ntmps25
    go_wp2_with fail
    go_loopw [5, 7, 10] (fun vn va vk wr => ∃ k : Nat, k ≤ n ∧ vk = .int .i64 k ∧ vn = .int .i64 (P.hgtK l f v k) ∧ Below w.heap.size w wr) (fun vn va vk _ => n - (intOf vk).toNat)
    case atStart => exact ⟨0, Nat.zero_le _, rfl, vint (P.hgtK_zero l f v).symm, Below.refl _ _⟩
    case round =>
      obtain ⟨k, hk, rfl, rfl, hbw⟩ := hrel
      have s1 := P.hgtK_bd l f v k
      by_cases hlt : k < n
      · obtain ⟨b, o, p, rfl, hb, hx, hf1, hf2, g0, g1⟩ := pairAt h hlt
        have e0 := ((cell_of hbw) b (o + k * 2) hb).trans g0
        have e1 := ((cell_of hbw) b (o + k * 2 + 1) hb).trans g1
        have hsz := hbw.size
        have hbw1 := hbw.alloc hbw.size (.cells #[.int .i64 p.1, .int .i64 p.2] 29)
        have H1 := Lib.hid (h.on RP.keeps hbw1)
        have HB1 := Lib.hid hbw1
        have HX := Lib.hid hx
        have hlt2 := P.rnk_lt HOK.out (List.mem_of_getElem? hx)
        clear hx g0 g1 h hbw1
        by_cases hv : p.2 = v
        · have t1 : (p.2 == v) = true := by simpa using hv
          have HE := Lib.hid (P.hgtK_yes (f := f) HX.out hv)
          have hr1 : P.rnk l p.1 < f := by rw [hv] at hlt2; omega
          have s2 := P.hgt_bd l f p.1
          have IH := Lib.hid (ih p.1 _ H1.out hr1 (by omega))
          clear hv ih
          go_wp2_with (go_at_call 25; refine IH.out.mono ?_; rintro e w3 ⟨rfl, hb3⟩)
          go_roundw
          case rel => exact ⟨k + 1, by omega, by go_num, vint (by rw [HE.out]; split <;> omega), HB1.out.trans (hb3.mono HB1.out.size)⟩
          case measure => simp [intOf]; omega
        · have t1 : (p.2 == v) = false := by simpa using hv
          have HE := Lib.hid (P.hgtK_no (f := f) HX.out hv)
          clear hv ih
          go_wp2_with fail
          go_roundw
          case rel => exact ⟨k + 1, by omega, by go_num, vint HE.out.symm, HB1.out⟩
          case measure => simp [intOf]; omega
      · have HE := Lib.hid (P.hgtK_all (l := l) (f := f) (v := v) (k := k) (by have := HL.out; omega))
        clear h ih
        go_wp2_with fail
        go_ret
        exact ⟨ret_int HE.out.symm ▸ rfl, hbw⟩
/-- What HeightOf answers. -/
noncomputable def heightOf (l : List (Int × Int)) (v : Int) : Int := if P.okP l && P.inR v 0 9 then P.hgt l 11 v else -1
set_option maxHeartbeats 800000 in
theorem specHeightOf {A : Option Addr} {n c : Nat} {l : List (Int × Int)} {v : Int} (w : World) (h : Sl RP 2 w w.heap.size A n c l) (hv : Fit v) : Calls Try.prog 18 #[.slice A n c, .int .i64 v] w fun e w' => e = .returned (.int .i64 (heightOf l v)) ∧ Below w.heap.size w w' := by
  cases hok : P.okP l with
  | false =>
    have HE : Hid (heightOf l v = -1) := by show _ = _; unfold heightOf; rw [hok]; rfl
    go_enter Try.func18, Try.ntmps18
    go_wp2_with (first | (go_at_call 9; refine (specArePairs _ h).mono ?_; rintro e w2 ⟨rfl, hb2⟩; rw [hok]) | (go_at_call 28; refine (l1In _ _ _ _).mono ?_; rintro e w' ⟨rfl, rfl⟩))
    go_ret
    exact ⟨ret_int HE.out.symm, hb2⟩
  | true =>
    cases h1 : P.inR v 0 9 with
    | false =>
      have HE : Hid (heightOf l v = -1) := by show _ = _; unfold heightOf; rw [hok, h1]; rfl
      go_enter Try.func18, Try.ntmps18
      go_wp2_with (first | (go_at_call 9; refine (specArePairs _ h).mono ?_; rintro e w2 ⟨rfl, hb2⟩; rw [hok]) | (go_at_call 28; refine (l1In _ _ _ _).mono ?_; rintro e w' ⟨rfl, rfl⟩))
      go_ret
      exact ⟨ret_int HE.out.symm, hb2⟩
    | true =>
      have HE : Hid (heightOf l v = P.hgt l 11 v) := by show _ = _; unfold heightOf; rw [hok, h1]; rfl
      have HK := Lib.hid hok
      have hr : P.rnk l v < 11 := by have := P.rnk_le l v; omega
      go_enter Try.func18, Try.ntmps18
      go_wp2_with fail
      refine (specArePairs _ h).mono ?_
      rintro e w2 ⟨rfl, hb2⟩
      rw [hok]
      have h3 := Lib.hid (h.on RP.keeps hb2)
      clear hok h
      go_wp2_with (first | (go_at_call 28; refine (l1In _ _ _ _).mono ?_; rintro e w' ⟨rfl, rfl⟩) | (go_at_call 29; refine (l3Height HK.out 11 v _ h3.out hr (by omega)).mono ?_; rintro e w3 ⟨rfl, hb3⟩))
      go_ret
      exact ⟨ret_int HE.out.symm, hb2.trans (hb3.mono hb2.size)⟩
set_option maxHeartbeats 800000 in
theorem implHeightOf {A : Option Addr} {n c : Nat} {l : List (Int × Int)} {v : Int} (w : World) (h : Sl RP 2 w w.heap.size A n c l) (hv : Fit v) : Calls Try.prog 11 #[.slice A n c, .int .i64 v] w fun e w' => e = .returned (.int .i64 (heightOf l v)) ∧ Below w.heap.size w w' := by
  cases hok : P.okP l with
  | false =>
    have HE : Hid (heightOf l v = -1) := by show _ = _; unfold heightOf; rw [hok]; rfl
    go_enter Try.func11, Try.ntmps11
    go_wp2_with (first | (go_at_call 8; refine (implArePairs _ h).mono ?_; rintro e w2 ⟨rfl, hb2⟩; rw [hok]) | (go_at_call 23; refine (within _ _ _ _).mono ?_; rintro e w' ⟨rfl, rfl⟩))
    go_ret
    exact ⟨ret_int HE.out.symm, hb2⟩
  | true =>
    cases h1 : P.inR v 0 9 with
    | false =>
      have HE : Hid (heightOf l v = -1) := by show _ = _; unfold heightOf; rw [hok, h1]; rfl
      go_enter Try.func11, Try.ntmps11
      go_wp2_with (first | (go_at_call 8; refine (implArePairs _ h).mono ?_; rintro e w2 ⟨rfl, hb2⟩; rw [hok]) | (go_at_call 23; refine (within _ _ _ _).mono ?_; rintro e w' ⟨rfl, rfl⟩))
      go_ret
      exact ⟨ret_int HE.out.symm, hb2⟩
    | true =>
      have HE : Hid (heightOf l v = P.hgt l 11 v) := by show _ = _; unfold heightOf; rw [hok, h1]; rfl
      have HK := Lib.hid hok
      have hr : P.rnk l v < 11 := by have := P.rnk_le l v; omega
      go_enter Try.func11, Try.ntmps11
      go_wp2_with fail
      refine (implArePairs _ h).mono ?_
      rintro e w2 ⟨rfl, hb2⟩
      rw [hok]
      have h3 := Lib.hid (h.on RP.keeps hb2)
      clear hok h
      go_wp2_with (first | (go_at_call 23; refine (within _ _ _ _).mono ?_; rintro e w' ⟨rfl, rfl⟩) | (go_at_call 25; refine (height HK.out 11 v _ h3.out hr (by omega)).mono ?_; rintro e w3 ⟨rfl, hb3⟩))
      go_ret
      exact ⟨ret_int HE.out.symm, hb2.trans (hb3.mono hb2.size)⟩
end Go.Proofs.Ytmglapndpcfafaa.Wk
