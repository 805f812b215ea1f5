/-
  Walks of chapter 2: EqualItems.
  Conditions: none beyond the bounds that each states.
-/
import Derived.Test.YtncaamjmidmmdaaW17
import Derived.Test.YtncaamjmidmmdaaP7
namespace Go.Proofs.Ytncaamjmidmmdaa.Wk
open Go.RowKit Go.Proofs.Ytncaamjmidmmdaa.M
set_option linter.unusedVariables false
attribute [local go_sem] cell_grow

set_option maxHeartbeats 800000 in
theorem l2Ints {A A' : Option Addr} {n n' c c' : Nat} {xs ys : List Int} (w : World) (h : Sl RI 1 w w.heap.size A n c xs) (h' : Sl RI 1 w w.heap.size A' n' c' ys) :
    Calls Try.prog 43 #[.slice A n c, .slice A' n' c'] w fun e w' => e = .returned (.bool (decide (xs = ys))) ∧ Below w.heap.size w w' := by
  have m1 := Nat.le_trans h.le h.max
  have m2 := Nat.le_trans h'.le h'.max
  unfold maxLen at m1 m2
  have HL := Lib.hid h.len
  have HL' := Lib.hid h'.len
  by_cases hne : n = n'
  · have HN := Lib.hid hne
    have ht : ((n : Int) != (n' : Int)) = false := by simp [hne]
    clear hne
    go_enter Try.func43, Try.ntmps43
    go_wp2
    go_loopw [5] (fun vk wr => ∃ k : Nat, k ≤ n ∧ vk = .int .i64 k ∧ Hid (P.Agree xs ys k) ∧ Below w.heap.size w wr) (fun vk _ => n - (intOf vk).toNat)
    case atStart => exact ⟨0, Nat.zero_le _, rfl, rfl, Below.refl _ _⟩
    case round =>
      obtain ⟨k, hk, rfl, hup, hbw⟩ := hrel
      by_cases hlt : k < n
      · have hlt' : k < n' := by have := HN.out; omega
        obtain ⟨b, o, x, rfl, hb, hx, hf, hc⟩ := h.int hlt
        obtain ⟨b', o', y, rfl, hb', hy, hf', hc'⟩ := h'.int hlt'
        have hsz := hbw.size
        have g1 : b < wr.heap.size := by omega
        have g2 : b' < wr.heap.size := by omega
        have e1 := ((cell_of hbw) b (o + k) hb).trans hc
        have e2 := ((cell_of hbw) b' (o' + k) hb').trans hc'
        have q1 : (k : Int) < (n : Int) := by omega
        have q2 : (k : Int) < (n' : Int) := by omega
        have HX := Lib.hid hx
        have HY := Lib.hid hy
        clear hx hy h h' hc hc'
        by_cases hxy : x = y
        · have q : (x != y) = false := by simpa using hxy
          have HE := Lib.hid (P.agree_step hup.out HX.out (hxy ▸ HY.out))
          clear hxy
          go_wp2_with fail
          refine wp_region_qb (by kernel_rfl) (by kernel_rfl) ?_; (repeat (go_big_quiet_step ((fail)))); refine wpQuiet_nil ?_; intro w8 hb8
          go_wp2
          go_roundw
          case rel => exact ⟨k + 1, by omega, by go_num, HE, hbw.trans (hb8.mono hsz)⟩
          case measure => simp [intOf]; omega
        · have q : (x != y) = true := by simpa using hxy
          have HE : Hid (decide (xs = ys) = false) := by
            show _ = _
            rw [decide_eq_false_iff_not]; exact P.agree_no HX.out HY.out hxy
          clear hxy
          go_wp2_with fail
          refine wp_region_qb (by kernel_rfl) (by kernel_rfl) ?_; (repeat (go_big_quiet_step ((fail)))); refine wpQuiet_nil ?_; intro w8 hb8
          go_wp2
          go_ret
          exact ⟨ret_bool HE.out.symm, hbw.trans (hb8.mono hsz)⟩
      · have HE : Hid (decide (xs = ys) = true) := by
          show _ = _
          rw [decide_eq_true_iff]
          exact P.agree_all hup.out HL.out (by rw [HL'.out]; exact HN.out.symm) (by omega)
        clear h h'
        go_wp2
        go_ret
        exact ⟨ret_bool HE.out.symm, hbw⟩
  · have ht : ((n : Int) != (n' : Int)) = true := by simp; omega
    have HE : Hid (decide (xs = ys) = false) := by
      show _ = _
      rw [decide_eq_false_iff_not]
      rintro rfl
      exact hne (HL.out.symm.trans HL'.out)
    clear hne h h'
    go_enter Try.func43, Try.ntmps43
    go_wp2
    go_ret
    exact ⟨ret_bool HE.out.symm, Below.refl _ _⟩
set_option maxHeartbeats 800000 in
theorem equalInts {A A' : Option Addr} {n n' c c' : Nat} {xs ys : List Int} (w : World) (h : Sl RI 1 w w.heap.size A n c xs) (h' : Sl RI 1 w w.heap.size A' n' c' ys) :
    Calls Try.prog 55 #[.slice A n c, .slice A' n' c'] w fun e w' => e = .returned (.bool (decide (xs = ys))) ∧ Below w.heap.size w w' := by
  have m1 := Nat.le_trans h.le h.max
  have m2 := Nat.le_trans h'.le h'.max
  unfold maxLen at m1 m2
  have HL := Lib.hid h.len
  have HL' := Lib.hid h'.len
  by_cases hne : n = n'
  · have HN := Lib.hid hne
    have ht : ((n : Int) != (n' : Int)) = false := by simp [hne]
    clear hne
    go_enter Try.func55, Try.ntmps55
    go_wp2
    go_loopw [5, 13] (fun vi vk wr => ∃ k : Nat, k ≤ n ∧ vk = .int .i64 k ∧ Hid (P.Agree xs ys k) ∧ Below w.heap.size w wr) (fun vi vk _ => n - (intOf vk).toNat)
    case atStart => exact ⟨0, Nat.zero_le _, rfl, rfl, Below.refl _ _⟩
    case round =>
      obtain ⟨k, hk, rfl, hup, hbw⟩ := hrel
      by_cases hlt : k < n
      · have hlt' : k < n' := by have := HN.out; omega
        obtain ⟨b, o, x, rfl, hb, hx, hf, hc⟩ := h.int hlt
        obtain ⟨b', o', y, rfl, hb', hy, hf', hc'⟩ := h'.int hlt'
        have hsz := hbw.size
        have g1 : b < wr.heap.size := by omega
        have g2 : b' < wr.heap.size := by omega
        have e1 := ((cell_of hbw) b (o + k) hb).trans hc
        have e2 := ((cell_of hbw) b' (o' + k) hb').trans hc'
        have q1 : (k : Int) < (n : Int) := by omega
        have q2 : (k : Int) < (n' : Int) := by omega
        have HX := Lib.hid hx
        have HY := Lib.hid hy
        clear hx hy h h' hc hc'
        by_cases hxy : x = y
        · have q : (x != y) = false := by simpa using hxy
          have HE := Lib.hid (P.agree_step hup.out HX.out (hxy ▸ HY.out))
          clear hxy
          go_wp2_with fail
          refine wp_region_qb (by kernel_rfl) (by kernel_rfl) ?_; (repeat (go_big_quiet_step ((fail)))); refine wpQuiet_nil ?_; intro w8 hb8
          go_wp2
          go_roundw
          case rel => exact ⟨k + 1, by omega, by go_num, HE, hbw.trans (hb8.mono hsz)⟩
          case measure => simp [intOf]; omega
        · have q : (x != y) = true := by simpa using hxy
          have HE : Hid (decide (xs = ys) = false) := by
            show _ = _
            rw [decide_eq_false_iff_not]; exact P.agree_no HX.out HY.out hxy
          clear hxy
          go_wp2_with fail
          refine wp_region_qb (by kernel_rfl) (by kernel_rfl) ?_; (repeat (go_big_quiet_step ((fail)))); refine wpQuiet_nil ?_; intro w8 hb8
          go_wp2
          go_ret
          exact ⟨ret_bool HE.out.symm, hbw.trans (hb8.mono hsz)⟩
      · have HE : Hid (decide (xs = ys) = true) := by
          show _ = _
          rw [decide_eq_true_iff]
          exact P.agree_all hup.out HL.out (by rw [HL'.out]; exact HN.out.symm) (by omega)
        clear h h'
        go_wp2
        go_ret
        exact ⟨ret_bool HE.out.symm, hbw⟩
  · have ht : ((n : Int) != (n' : Int)) = true := by simp; omega
    have HE : Hid (decide (xs = ys) = false) := by
      show _ = _
      rw [decide_eq_false_iff_not]
      rintro rfl
      exact hne (HL.out.symm.trans HL'.out)
    clear hne h h'
    go_enter Try.func55, Try.ntmps55
    go_wp2
    go_ret
    exact ⟨ret_bool HE.out.symm, Below.refl _ _⟩
theorem it_eq (x y : It) : decide (x = y) = (decide (x.id = y.id) && decide (x.vals = y.vals)) := by
  obtain ⟨a, b⟩ := x
  obtain ⟨c, d⟩ := y
  simp [It.mk.injEq, Bool.decide_and]
set_option maxHeartbeats 800000 in
theorem equalItem {A A' : Option Addr} {n n' c c' : Nat} {x y : It} (w : World) (h : Sl RI 1 w w.heap.size A n c x.vals) (h' : Sl RI 1 w w.heap.size A' n' c' y.vals) :
    Calls Try.prog 45 #[.agg #[.int .i64 x.id, .slice A n c], .agg #[.int .i64 y.id, .slice A' n' c']] w fun e w' => e = .returned (.bool (decide (x = y))) ∧ Below w.heap.size w w' := by
  have B2 : Below w.heap.size w ((w.alloc (.cells #[.int .i64 x.id, .slice A n c] 27)).alloc (.cells #[.int .i64 y.id, .slice A' n' c'] 27)) := ((Below.refl _ _).alloc (Nat.le_refl _) _).alloc (by simp) _
  have H := Lib.hid (h.on RI.keeps B2)
  have H' := Lib.hid (h'.on RI.keeps B2)
  have HB := Lib.hid B2
  clear h h' B2
  by_cases hid : x.id = y.id
  · have q : (x.id == y.id) = true := by simpa using hid
    have HR : Hid (decide (x = y) = decide (x.vals = y.vals)) := by show _ = _; rw [it_eq]; simp [hid]
    clear hid
    go_enter Try.func45, Try.ntmps45
    go_wp2_with fail
    refine (equalInts _ H.out H'.out).mono ?_
    rintro e w9 ⟨rfl, b9⟩
    go_wp2
    go_ret
    exact ⟨ret_bool HR.out.symm, HB.out.trans (b9.mono HB.out.size)⟩
  · have q : (x.id == y.id) = false := by simpa using hid
    have HR : Hid (decide (x = y) = false) := by show _ = _; rw [it_eq]; simp [hid]
    clear hid
    go_enter Try.func45, Try.ntmps45
    go_wp2_with fail
    go_ret
    exact ⟨ret_bool HR.out.symm, HB.out⟩
set_option maxHeartbeats 1600000 in
set_option maxRecDepth 100000 in
theorem specEqualItems {A A' : Option Addr} {n n' c c' : Nat} {xs ys : List It} (w : World) (h : Sl RIt 2 w w.heap.size A n c xs) (h' : Sl RIt 2 w w.heap.size A' n' c' ys) :
    Calls Try.prog 28 #[.slice A n c, .slice A' n' c'] w fun e w' => e = .returned (.bool (decide (xs = ys))) ∧ Below w.heap.size w w' := by
  have m1 := Nat.le_trans h.le h.max
  have m2 := Nat.le_trans h'.le h'.max
  unfold maxLen at m1 m2
  have HL := Lib.hid h.len
  have HL' := Lib.hid h'.len
  by_cases hne : n = n'
  · have HN := Lib.hid hne
    have ht : ((n : Int) != (n' : Int)) = false := by simp [hne]
    clear hne
    go_enter Try.func28, Try.ntmps28
    go_wp2
    go_loopw [5] (fun vk wr => ∃ k : Nat, k ≤ n ∧ vk = .int .i64 k ∧ Hid (P.Agree xs ys k) ∧ Below w.heap.size w wr) (fun vk _ => n - (intOf vk).toNat)
    case atStart => exact ⟨0, Nat.zero_le _, rfl, rfl, Below.refl _ _⟩
    case round =>
      obtain ⟨k, hk, rfl, hup, hbw⟩ := hrel
      by_cases hlt : k < n
      · have hlt' : k < n' := by have := HN.out; omega
        obtain ⟨b, o, x, A1, n1, c1, rfl, hb, hx, hf, hs, hc0, hc1⟩ := itemAt h hlt
        obtain ⟨b', o', y, A2, n2, c2, rfl, hb', hy, hf', hs', hd0, hd1⟩ := itemAt h' hlt'
        have hsz := hbw.size
        have g1 : b < wr.heap.size := by omega
        have g2 : b' < wr.heap.size := by omega
        have e1 := ((cell_of hbw) b (o + k * 2) hb).trans hc0
        have e2 := ((cell_of hbw) b (o + k * 2 + 1) hb).trans hc1
        have e3 := ((cell_of hbw) b' (o' + k * 2) hb').trans hd0
        have e4 := ((cell_of hbw) b' (o' + k * 2 + 1) hb').trans hd1
        have q1 : (k : Int) < (n : Int) := by omega
        have q2 : (k : Int) < (n' : Int) := by omega
        have HX := Lib.hid hx
        have HY := Lib.hid hy
        have HS := Lib.hid (hs.on RI.keeps hbw)
        have HS' := Lib.hid (hs'.on RI.keeps hbw)
        have HBW := Lib.hid hbw
        clear hx hy h h' hc0 hc1 hd0 hd1 hbw hs hs'
        by_cases hxy : x = y
        · have HE := Lib.hid (P.agree_step hup.out HX.out (hxy ▸ HY.out))
          have hd : decide (x = y) = true := by simpa using hxy
          have q : (x.id != y.id) = false := by simp [hxy]
          have hv : decide (x.vals = y.vals) = true := by simp [hxy]
          clear hxy
          go_wp2_with fail
          refine wp_region_qb (by kernel_rfl) (by kernel_rfl) ?_; (repeat (go_big_quiet_step ((go_at_call 43; exact quietBb hv (l2Ints _ (HS.out.gr RI.keeps _ _) (HS'.out.gr RI.keeps _ _)))))); refine wpQuiet_nil ?_; intro w8 hb8
          go_wp2
          go_roundw
          case rel => exact ⟨k + 1, by omega, by go_num, HE, HBW.out.trans (hb8.mono hsz)⟩
          case measure => simp [intOf]; omega
        · have HE : Hid (decide (xs = ys) = false) := by
            show _ = _
            rw [decide_eq_false_iff_not]; exact P.agree_no HX.out HY.out hxy
          by_cases hid : x.id = y.id
          · have q : (x.id != y.id) = false := by simp [hid]
            have hv : decide (x.vals = y.vals) = false := by
              rw [decide_eq_false_iff_not]
              intro hh
              apply hxy
              obtain ⟨a, b⟩ := x
              obtain ⟨c, d⟩ := y
              simp_all
            clear hxy hid
            go_wp2_with fail
            refine wp_region_qb (by kernel_rfl) (by kernel_rfl) ?_; (repeat (go_big_quiet_step ((go_at_call 43; exact quietBb hv (l2Ints _ (HS.out.gr RI.keeps _ _) (HS'.out.gr RI.keeps _ _)))))); refine wpQuiet_nil ?_; intro w8 hb8
            go_wp2
            go_ret
            exact ⟨ret_bool HE.out.symm, HBW.out.trans (hb8.mono hsz)⟩
          · have q : (x.id != y.id) = true := by simpa using hid
            clear hxy hid
            go_wp2_with fail
            refine wp_region_qb (by kernel_rfl) (by kernel_rfl) ?_; (repeat (go_big_quiet_step ((go_at_call 43; exact quietBb hv (l2Ints _ (HS.out.gr RI.keeps _ _) (HS'.out.gr RI.keeps _ _)))))); refine wpQuiet_nil ?_; intro w8 hb8
            go_wp2
            go_ret
            exact ⟨ret_bool HE.out.symm, HBW.out.trans (hb8.mono hsz)⟩
      · have HE : Hid (decide (xs = ys) = true) := by
          show _ = _
          rw [decide_eq_true_iff]
          exact P.agree_all hup.out HL.out (by rw [HL'.out]; exact HN.out.symm) (by omega)
        clear h h'
        go_wp2
        go_ret
        exact ⟨ret_bool HE.out.symm, hbw⟩
  · have ht : ((n : Int) != (n' : Int)) = true := by simp; omega
    have HE : Hid (decide (xs = ys) = false) := by
      show _ = _
      rw [decide_eq_false_iff_not]
      rintro rfl
      exact hne (HL.out.symm.trans HL'.out)
    clear hne h h'
    go_enter Try.func28, Try.ntmps28
    go_wp2
    go_ret
    exact ⟨ret_bool HE.out.symm, Below.refl _ _⟩
set_option maxHeartbeats 1600000 in
set_option maxRecDepth 100000 in
theorem equalFunc {A A' : Option Addr} {n n' c c' : Nat} {xs ys : List It} (w : World) (h : Sl RIt 2 w w.heap.size A n c xs) (h' : Sl RIt 2 w w.heap.size A' n' c' ys) :
    Calls Try.prog 44 #[.slice A n c, .slice A' n' c', .func (Fn.func 45) #[] #[]] w fun e w' => e = .returned (.bool (decide (xs = ys))) ∧ Below w.heap.size w w' := by
  have m1 := Nat.le_trans h.le h.max
  have m2 := Nat.le_trans h'.le h'.max
  unfold maxLen at m1 m2
  have HL := Lib.hid h.len
  have HL' := Lib.hid h'.len
  by_cases hne : n = n'
  · have HN := Lib.hid hne
    have ht : ((n : Int) != (n' : Int)) = false := by simp [hne]
    clear hne
    go_enter Try.func44, Try.ntmps44
    go_wp2
    go_loopw [7, 8, 9, 17] (fun va vb vc vk wr => ∃ k : Nat, k ≤ n ∧ vk = .int .i64 k ∧ Hid (P.Agree xs ys k) ∧ Below w.heap.size w wr) (fun va vb vc vk _ => n - (intOf vk).toNat)
    case atStart => exact ⟨0, Nat.zero_le _, rfl, rfl, Below.refl _ _⟩
    case round =>
      obtain ⟨k, hk, rfl, hup, hbw⟩ := hrel
      by_cases hlt : k < n
      · have hlt' : k < n' := by have := HN.out; omega
        obtain ⟨b, o, x, A1, n1, c1, rfl, hb, hx, hf, hs, hc0, hc1⟩ := itemAt h hlt
        obtain ⟨b', o', y, A2, n2, c2, rfl, hb', hy, hf', hs', hd0, hd1⟩ := itemAt h' hlt'
        have hsz := hbw.size
        have g1 : b < wr.heap.size := by omega
        have g2 : b' < wr.heap.size := by omega
        have e1 := ((cell_of hbw) b (o + k * 2) hb).trans hc0
        have e2 := ((cell_of hbw) b (o + k * 2 + 1) hb).trans hc1
        have e3 := ((cell_of hbw) b' (o' + k * 2) hb').trans hd0
        have e4 := ((cell_of hbw) b' (o' + k * 2 + 1) hb').trans hd1
        have q1 : (k : Int) < (n : Int) := by omega
        have q2 : (k : Int) < (n' : Int) := by omega
        have HX := Lib.hid hx
        have HY := Lib.hid hy
        have BW : Below wr.heap.size wr ((wr.alloc (.cells #[.int .i64 x.id, .slice A1 n1 c1] 27)).alloc (.cells #[.int .i64 y.id, .slice A2 n2 c2] 27)) := ((Below.refl _ _).alloc (Nat.le_refl _) _).alloc (by simp) _
        have HS := Lib.hid ((hs.on RI.keeps hbw).on RI.keeps BW)
        have HS' := Lib.hid ((hs'.on RI.keeps hbw).on RI.keeps BW)
        have HBW := Lib.hid (hbw.trans (BW.mono hsz))
        have g1' : b < wr.heap.size + 1 := by omega
        have g2' : b' < wr.heap.size + 1 := by omega
        clear hx hy h h' hc0 hc1 hd0 hd1 hbw hs hs' BW
        by_cases hxy : x = y
        · have HE := Lib.hid (P.agree_step hup.out HX.out (hxy ▸ HY.out))
          have hd : decide (x = y) = true := by simpa using hxy
          skip
          skip
          clear hxy
          go_wp2_with (go_at_call 45; refine (equalItem _ HS.out HS'.out).mono ?_; rintro e w9 ⟨rfl, b9⟩; rw [hd])
          go_roundw
          case rel => exact ⟨k + 1, by omega, by go_num, HE, HBW.out.trans (b9.mono (by simp; omega))⟩
          case measure => simp [intOf]; omega
        · have hd : decide (x = y) = false := by simpa using hxy
          have HE : Hid (decide (xs = ys) = false) := by
            show _ = _
            rw [decide_eq_false_iff_not]; exact P.agree_no HX.out HY.out hxy
          clear hxy
          go_wp2_with (go_at_call 45; refine (equalItem _ HS.out HS'.out).mono ?_; rintro e w9 ⟨rfl, b9⟩; rw [hd])
          go_ret
          exact ⟨ret_bool HE.out.symm, HBW.out.trans (b9.mono (by simp; omega))⟩
      · have HE : Hid (decide (xs = ys) = true) := by
          show _ = _
          rw [decide_eq_true_iff]
          exact P.agree_all hup.out HL.out (by rw [HL'.out]; exact HN.out.symm) (by omega)
        clear h h'
        go_wp2
        go_ret
        exact ⟨ret_bool HE.out.symm, hbw⟩
  · have ht : ((n : Int) != (n' : Int)) = true := by simp; omega
    have HE : Hid (decide (xs = ys) = false) := by
      show _ = _
      rw [decide_eq_false_iff_not]
      rintro rfl
      exact hne (HL.out.symm.trans HL'.out)
    clear hne h h'
    go_enter Try.func44, Try.ntmps44
    go_wp2
    go_ret
    exact ⟨ret_bool HE.out.symm, Below.refl _ _⟩
theorem implEqualItems {A A' : Option Addr} {n n' c c' : Nat} {xs ys : List It} (w : World) (h : Sl RIt 2 w w.heap.size A n c xs) (h' : Sl RIt 2 w w.heap.size A' n' c' ys) :
    Calls Try.prog 29 #[.slice A n c, .slice A' n' c'] w fun e w' => e = .returned (.bool (decide (xs = ys))) ∧ Below w.heap.size w w' := by
  go_enter Try.func29, Try.ntmps29
  go_wp2_with fail
  refine (equalFunc _ h h').mono ?_
  rintro e w1 ⟨rfl, b1⟩
  clear h h'
  go_wp2
  go_ret
  exact ⟨rfl, b1⟩
end Go.Proofs.Ytncaamjmidmmdaa.Wk
