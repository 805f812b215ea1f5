/-
  Walks of chapter 5: EqualExpressions.
  Conditions: none beyond the bounds that each states.
-/
import Derived.Test.YtgjghpaenliliaaW19
import Derived.Test.YtgjghpaenliliaaW50
import Derived.Test.YtgjghpaenliliaaP13
import Derived.Test.YtgjghpaenliliaaP7
namespace Go.Proofs.Ytgjghpaenliliaa.Wk
open Go.RowKit Go.Proofs.Ytgjghpaenliliaa.M
set_option linter.unusedVariables false
attribute [local go_sem] cell_grow

theorem wi_eq (x y : Wi) : decide (x = y) = (decide (x.kind = y.kind) && decide (x.field = y.field) && decide (x.value = y.value) && decide (x.list = y.list) && decide (x.pairs = y.pairs)) := by
  obtain ⟨a, b, c, d, e⟩ := x
  obtain ⟨a', b', c', d', e'⟩ := y
  simp [Wi.mk.injEq, Bool.decide_and, Bool.and_assoc]
theorem nd_eq (x y : Nd) : decide (x = y) = (decide (x.op = y.op) && decide (x.wish = y.wish)) := by
  obtain ⟨a, b⟩ := x
  obtain ⟨c, d⟩ := y
  simp [Nd.mk.injEq, Bool.decide_and]
set_option maxHeartbeats 1600000 in
set_option maxRecDepth 100000 in
theorem l5SamePairs {A A' : Option Addr} {n n' c c' : Nat} {xs ys : List (Int × Int)} (w : World) (h : Sl RP 2 w w.heap.size A n c xs) (h' : Sl RP 2 w w.heap.size A' n' c' ys) :
    Calls Try.prog 112 #[.slice A n c, .slice A' n' c'] w fun e w' => e = .returned (.bool (decide (xs = ys))) ∧ Below w.heap.size w w' := by
  have m1 := Nat.le_trans h.le h.max
  have m2 := Nat.le_trans h'.le h'.max
  unfold maxLen at m1 m2
  have HL := Lib.hid h.len
  have HL' := Lib.hid h'.len
  by_cases hne : n = n'
  · have HN := Lib.hid hne
    have ht : ((n : Int) != (n' : Int)) = false := by simp [hne]
    clear hne
    go_enter Try.func112, Try.ntmps112
    go_wp2
    go_loopw [5] (fun vk wr => ∃ k : Nat, k ≤ n ∧ vk = .int .i64 k ∧ Hid (P.Agree xs ys k) ∧ Below w.heap.size w wr) (fun vk _ => n - (intOf vk).toNat)
    case atStart => exact ⟨0, Nat.zero_le _, rfl, rfl, Below.refl _ _⟩
    case round =>
      obtain ⟨k, hk, rfl, hup, hbw⟩ := hrel
      by_cases hlt : k < n
      · have hlt' : k < n' := by have := HN.out; omega
        obtain ⟨b, o, x, rfl, hb, hx, hf1, hf2, hc0, hc1⟩ := pairAt h hlt
        obtain ⟨b', o', y, rfl, hb', hy, hf1', hf2', hd0, hd1⟩ := pairAt h' hlt'
        have hsz := hbw.size
        have g1 : b < wr.heap.size := by omega
        have g2 : b' < wr.heap.size := by omega
        have e1 := ((cell_of hbw) b (o + k * 2) hb).trans hc0
        have e2 := ((cell_of hbw) b (o + k * 2 + 1) hb).trans hc1
        have e3 := ((cell_of hbw) b' (o' + k * 2) hb').trans hd0
        have e4 := ((cell_of hbw) b' (o' + k * 2 + 1) hb').trans hd1
        have q1 : (k : Int) < (n : Int) := by omega
        have q2 : (k : Int) < (n' : Int) := by omega
        have HX := Lib.hid hx
        have HY := Lib.hid hy
        clear hx hy h h' hc0 hc1 hd0 hd1
        by_cases hxy : x = y
        · have q : (x.1 != y.1) = false := by simp [hxy]
          have q' : (x.2 != y.2) = false := by simp [hxy]
          have q3 : (x.1 == y.1) = true := by simp [hxy]
          have q4 : (x.2 == y.2) = true := by simp [hxy]
          have HE := Lib.hid (P.agree_step hup.out HX.out (hxy ▸ HY.out))
          clear hxy
          go_wp2_with fail
          refine wp_region_qb (by kernel_rfl) (by kernel_rfl) ?_; (repeat (go_big_quiet_step ((fail)))); refine wpQuiet_nil ?_; intro w8 hb8
          go_wp2
          go_roundw
          case rel => exact ⟨k + 1, by omega, by go_num, HE, hbw.trans (hb8.mono hsz)⟩
          case measure => simp [intOf]; omega
        · have HE : Hid (decide (xs = ys) = false) := by
            show _ = _
            rw [decide_eq_false_iff_not]; exact P.agree_no HX.out HY.out hxy
          by_cases h1 : x.1 = y.1
          · have h2 : x.2 ≠ y.2 := fun h2 => hxy (Prod.ext h1 h2)
            have q : (x.1 != y.1) = false := by simpa using h1
            have q' : (x.2 != y.2) = true := by simpa using h2
            have q3 : (x.1 == y.1) = true := by simpa using h1
            have q4 : (x.2 == y.2) = false := by simpa using h2
            clear hxy h1 h2
            go_wp2_with fail
            refine wp_region_qb (by kernel_rfl) (by kernel_rfl) ?_; (repeat (go_big_quiet_step ((fail)))); refine wpQuiet_nil ?_; intro w8 hb8
            go_wp2
            go_ret
            exact ⟨ret_bool HE.out.symm, hbw.trans (hb8.mono hsz)⟩
          · have q : (x.1 != y.1) = true := by simpa using h1
            have q3 : (x.1 == y.1) = false := by simpa using h1
            clear hxy h1
            go_wp2_with fail
            refine wp_region_qb (by kernel_rfl) (by kernel_rfl) ?_; (repeat (go_big_quiet_step ((fail)))); refine wpQuiet_nil ?_; intro w8 hb8
            go_wp2
            go_ret
            exact ⟨ret_bool HE.out.symm, hbw.trans (hb8.mono hsz)⟩
      · have HE : Hid (decide (xs = ys) = true) := by
          show _ = _
          rw [decide_eq_true_iff]
          exact P.agree_all hup.out HL.out (by rw [HL'.out]; exact HN.out.symm) (by omega)
        clear h h'
        go_wp2
        go_ret
        exact ⟨ret_bool HE.out.symm, hbw⟩
  · have ht : ((n : Int) != (n' : Int)) = true := by simp; omega
    have HE : Hid (decide (xs = ys) = false) := by
      show _ = _
      rw [decide_eq_false_iff_not]
      rintro rfl
      exact hne (HL.out.symm.trans HL'.out)
    clear hne h h'
    go_enter Try.func112, Try.ntmps112
    go_wp2
    go_ret
    exact ⟨ret_bool HE.out.symm, Below.refl _ _⟩
set_option maxHeartbeats 1600000 in
set_option maxRecDepth 100000 in
theorem equalPairs {A A' : Option Addr} {n n' c c' : Nat} {xs ys : List (Int × Int)} (w : World) (h : Sl RP 2 w w.heap.size A n c xs) (h' : Sl RP 2 w w.heap.size A' n' c' ys) :
    Calls Try.prog 91 #[.slice A n c, .slice A' n' c'] w fun e w' => e = .returned (.bool (decide (xs = ys))) ∧ Below w.heap.size w w' := by
  have m1 := Nat.le_trans h.le h.max
  have m2 := Nat.le_trans h'.le h'.max
  unfold maxLen at m1 m2
  have HL := Lib.hid h.len
  have HL' := Lib.hid h'.len
  by_cases hne : n = n'
  · have HN := Lib.hid hne
    have ht : ((n : Int) != (n' : Int)) = false := by simp [hne]
    clear hne
    go_enter Try.func91, Try.ntmps91
    go_wp2
    go_loopw [5, 13] (fun vi vk wr => ∃ k : Nat, k ≤ n ∧ vk = .int .i64 k ∧ Hid (P.Agree xs ys k) ∧ Below w.heap.size w wr) (fun vi vk _ => n - (intOf vk).toNat)
    case atStart => exact ⟨0, Nat.zero_le _, rfl, rfl, Below.refl _ _⟩
    case round =>
      obtain ⟨k, hk, rfl, hup, hbw⟩ := hrel
      by_cases hlt : k < n
      · have hlt' : k < n' := by have := HN.out; omega
        obtain ⟨b, o, x, rfl, hb, hx, hf1, hf2, hc0, hc1⟩ := pairAt h hlt
        obtain ⟨b', o', y, rfl, hb', hy, hf1', hf2', hd0, hd1⟩ := pairAt h' hlt'
        have hsz := hbw.size
        have g1 : b < wr.heap.size := by omega
        have g2 : b' < wr.heap.size := by omega
        have e1 := ((cell_of hbw) b (o + k * 2) hb).trans hc0
        have e2 := ((cell_of hbw) b (o + k * 2 + 1) hb).trans hc1
        have e3 := ((cell_of hbw) b' (o' + k * 2) hb').trans hd0
        have e4 := ((cell_of hbw) b' (o' + k * 2 + 1) hb').trans hd1
        have q1 : (k : Int) < (n : Int) := by omega
        have q2 : (k : Int) < (n' : Int) := by omega
        have HX := Lib.hid hx
        have HY := Lib.hid hy
        clear hx hy h h' hc0 hc1 hd0 hd1
        by_cases hxy : x = y
        · have q : (x.1 != y.1) = false := by simp [hxy]
          have q' : (x.2 != y.2) = false := by simp [hxy]
          have q3 : (x.1 == y.1) = true := by simp [hxy]
          have q4 : (x.2 == y.2) = true := by simp [hxy]
          have HE := Lib.hid (P.agree_step hup.out HX.out (hxy ▸ HY.out))
          clear hxy
          go_wp2_with fail
          refine wp_region_qb (by kernel_rfl) (by kernel_rfl) ?_; (repeat (go_big_quiet_step ((fail)))); refine wpQuiet_nil ?_; intro w8 hb8
          go_wp2
          go_roundw
          case rel => exact ⟨k + 1, by omega, by go_num, HE, hbw.trans (hb8.mono hsz)⟩
          case measure => simp [intOf]; omega
        · have HE : Hid (decide (xs = ys) = false) := by
            show _ = _
            rw [decide_eq_false_iff_not]; exact P.agree_no HX.out HY.out hxy
          by_cases h1 : x.1 = y.1
          · have h2 : x.2 ≠ y.2 := fun h2 => hxy (Prod.ext h1 h2)
            have q : (x.1 != y.1) = false := by simpa using h1
            have q' : (x.2 != y.2) = true := by simpa using h2
            have q3 : (x.1 == y.1) = true := by simpa using h1
            have q4 : (x.2 == y.2) = false := by simpa using h2
            clear hxy h1 h2
            go_wp2_with fail
            refine wp_region_qb (by kernel_rfl) (by kernel_rfl) ?_; (repeat (go_big_quiet_step ((fail)))); refine wpQuiet_nil ?_; intro w8 hb8
            go_wp2
            go_ret
            exact ⟨ret_bool HE.out.symm, hbw.trans (hb8.mono hsz)⟩
          · have q : (x.1 != y.1) = true := by simpa using h1
            have q3 : (x.1 == y.1) = false := by simpa using h1
            clear hxy h1
            go_wp2_with fail
            refine wp_region_qb (by kernel_rfl) (by kernel_rfl) ?_; (repeat (go_big_quiet_step ((fail)))); refine wpQuiet_nil ?_; intro w8 hb8
            go_wp2
            go_ret
            exact ⟨ret_bool HE.out.symm, hbw.trans (hb8.mono hsz)⟩
      · have HE : Hid (decide (xs = ys) = true) := by
          show _ = _
          rw [decide_eq_true_iff]
          exact P.agree_all hup.out HL.out (by rw [HL'.out]; exact HN.out.symm) (by omega)
        clear h h'
        go_wp2
        go_ret
        exact ⟨ret_bool HE.out.symm, hbw⟩
  · have ht : ((n : Int) != (n' : Int)) = true := by simp; omega
    have HE : Hid (decide (xs = ys) = false) := by
      show _ = _
      rw [decide_eq_false_iff_not]
      rintro rfl
      exact hne (HL.out.symm.trans HL'.out)
    clear hne h h'
    go_enter Try.func91, Try.ntmps91
    go_wp2
    go_ret
    exact ⟨ret_bool HE.out.symm, Below.refl _ _⟩
set_option maxHeartbeats 1600000 in
set_option maxRecDepth 100000 in
theorem l5SameWish {A E A' E' : Option Addr} {n c m d n' c' m' d' : Nat} {x y : Wi} (w : World) (h : Sl RI 1 w w.heap.size A n c x.list) (g : Sl RP 2 w w.heap.size E m d x.pairs) (h' : Sl RI 1 w w.heap.size A' n' c' y.list) (g' : Sl RP 2 w w.heap.size E' m' d' y.pairs) :
    Calls Try.prog 98 #[.agg #[.int .i64 x.kind, .int .i64 x.field, .int .i64 x.value, .slice A n c, .slice E m d], .agg #[.int .i64 y.kind, .int .i64 y.field, .int .i64 y.value, .slice A' n' c', .slice E' m' d']] w fun e w' => e = .returned (.bool (decide (x = y))) ∧ Below w.heap.size w w' := by
  have B2 := ((Below.refl w.heap.size w).alloc (Nat.le_refl _) (.cells #[.int .i64 x.kind, .int .i64 x.field, .int .i64 x.value, .slice A n c, .slice E m d] 53)).alloc (by simp) (.cells #[.int .i64 y.kind, .int .i64 y.field, .int .i64 y.value, .slice A' n' c', .slice E' m' d'] 53)
  have H := Lib.hid (h.on RI.keeps B2)
  have H' := Lib.hid (h'.on RI.keeps B2)
  have G := Lib.hid (g.on RP.keeps B2)
  have G' := Lib.hid (g'.on RP.keeps B2)
  clear h h' g g'
  by_cases h0 : x.kind = y.kind
  · have q0 : (x.kind == y.kind) = true := by simpa using h0
    by_cases h1 : x.field = y.field
    · have q1 : (x.field == y.field) = true := by simpa using h1
      by_cases h2 : x.value = y.value
      · have q2 : (x.value == y.value) = true := by simpa using h2
        cases hl : decide (x.list = y.list) with
        | false =>
          have HE : Hid (decide (x = y) = false) := by show _ = _; rw [wi_eq, hl]; simp
          clear h0 h1 h2
          go_enter Try.func98, Try.ntmps98
          go_wp2_with (go_at_call 111; refine (l2Ints _ H.out H'.out).mono ?_; rintro e w2 ⟨rfl, b2⟩; rw [hl])
          go_ret
          exact ⟨ret_bool HE.out.symm, B2.trans (b2.mono B2.size)⟩
        | true =>
          have HE : Hid (decide (x = y) = decide (x.pairs = y.pairs)) := by show _ = _; rw [wi_eq, hl]; simp [h0, h1, h2]
          clear h0 h1 h2
          go_enter Try.func98, Try.ntmps98
          go_wp2_with fail
          refine (l2Ints _ H.out H'.out).mono ?_
          rintro e w2 ⟨rfl, b2⟩
          rw [hl]
          have K := G.out.on RP.keeps b2
          have K' := G'.out.on RP.keeps b2
          have hC := cell_of b2
          have z1 : w.heap.size < w2.heap.size := by have := b2.size; simp at this; omega
          have z2 : w.heap.size + 1 < w2.heap.size := by have := b2.size; simp at this; omega
          go_wp2_with fail
          refine (l5SamePairs _ K K').mono ?_
          rintro e w3 ⟨rfl, b3⟩
          have B3 := (B2.trans (b2.mono B2.size)).trans (b3.mono (B2.trans (b2.mono B2.size)).size)
          clear K K' hC b2 b3 B2
          go_wp2_with fail
          go_ret
          exact ⟨ret_bool HE.out.symm, B3⟩
      · have q2 : (x.value == y.value) = false := by simpa using h2
        have HE : Hid (decide (x = y) = false) := by show _ = _; rw [wi_eq]; simp [h2]
        clear h0 h1 h2
        go_enter Try.func98, Try.ntmps98
        go_wp2_with fail
        go_ret
        exact ⟨ret_bool HE.out.symm, B2⟩
    · have q1 : (x.field == y.field) = false := by simpa using h1
      have HE : Hid (decide (x = y) = false) := by show _ = _; rw [wi_eq]; simp [h1]
      clear h0 h1
      go_enter Try.func98, Try.ntmps98
      go_wp2_with fail
      go_ret
      exact ⟨ret_bool HE.out.symm, B2⟩
  · have q0 : (x.kind == y.kind) = false := by simpa using h0
    have HE : Hid (decide (x = y) = false) := by show _ = _; rw [wi_eq]; simp [h0]
    clear h0
    go_enter Try.func98, Try.ntmps98
    go_wp2_with fail
    go_ret
    exact ⟨ret_bool HE.out.symm, B2⟩
set_option maxHeartbeats 1600000 in
set_option maxRecDepth 100000 in
theorem equalWish {A E A' E' : Option Addr} {n c m d n' c' m' d' : Nat} {x y : Wi} (w : World) (h : Sl RI 1 w w.heap.size A n c x.list) (g : Sl RP 2 w w.heap.size E m d x.pairs) (h' : Sl RI 1 w w.heap.size A' n' c' y.list) (g' : Sl RP 2 w w.heap.size E' m' d' y.pairs) :
    Calls Try.prog 64 #[.agg #[.int .i64 x.kind, .int .i64 x.field, .int .i64 x.value, .slice A n c, .slice E m d], .agg #[.int .i64 y.kind, .int .i64 y.field, .int .i64 y.value, .slice A' n' c', .slice E' m' d']] w fun e w' => e = .returned (.bool (decide (x = y))) ∧ Below w.heap.size w w' := by
  have B2 := ((Below.refl w.heap.size w).alloc (Nat.le_refl _) (.cells #[.int .i64 x.kind, .int .i64 x.field, .int .i64 x.value, .slice A n c, .slice E m d] 53)).alloc (by simp) (.cells #[.int .i64 y.kind, .int .i64 y.field, .int .i64 y.value, .slice A' n' c', .slice E' m' d'] 53)
  have H := Lib.hid (h.on RI.keeps B2)
  have H' := Lib.hid (h'.on RI.keeps B2)
  have G := Lib.hid (g.on RP.keeps B2)
  have G' := Lib.hid (g'.on RP.keeps B2)
  clear h h' g g'
  by_cases h0 : x.kind = y.kind
  · have q0 : (x.kind == y.kind) = true := by simpa using h0
    by_cases h1 : x.field = y.field
    · have q1 : (x.field == y.field) = true := by simpa using h1
      by_cases h2 : x.value = y.value
      · have q2 : (x.value == y.value) = true := by simpa using h2
        cases hl : decide (x.list = y.list) with
        | false =>
          have HE : Hid (decide (x = y) = false) := by show _ = _; rw [wi_eq, hl]; simp
          clear h0 h1 h2
          go_enter Try.func64, Try.ntmps64
          go_wp2_with (go_at_call 90; refine (equalInts _ H.out H'.out).mono ?_; rintro e w2 ⟨rfl, b2⟩; rw [hl])
          go_ret
          exact ⟨ret_bool HE.out.symm, B2.trans (b2.mono B2.size)⟩
        | true =>
          have HE : Hid (decide (x = y) = decide (x.pairs = y.pairs)) := by show _ = _; rw [wi_eq, hl]; simp [h0, h1, h2]
          clear h0 h1 h2
          go_enter Try.func64, Try.ntmps64
          go_wp2_with fail
          refine (equalInts _ H.out H'.out).mono ?_
          rintro e w2 ⟨rfl, b2⟩
          rw [hl]
          have K := G.out.on RP.keeps b2
          have K' := G'.out.on RP.keeps b2
          have hC := cell_of b2
          have z1 : w.heap.size < w2.heap.size := by have := b2.size; simp at this; omega
          have z2 : w.heap.size + 1 < w2.heap.size := by have := b2.size; simp at this; omega
          go_wp2_with fail
          refine (equalPairs _ K K').mono ?_
          rintro e w3 ⟨rfl, b3⟩
          have B3 := (B2.trans (b2.mono B2.size)).trans (b3.mono (B2.trans (b2.mono B2.size)).size)
          clear K K' hC b2 b3 B2
          go_wp2_with fail
          go_ret
          exact ⟨ret_bool HE.out.symm, B3⟩
      · have q2 : (x.value == y.value) = false := by simpa using h2
        have HE : Hid (decide (x = y) = false) := by show _ = _; rw [wi_eq]; simp [h2]
        clear h0 h1 h2
        go_enter Try.func64, Try.ntmps64
        go_wp2_with fail
        go_ret
        exact ⟨ret_bool HE.out.symm, B2⟩
    · have q1 : (x.field == y.field) = false := by simpa using h1
      have HE : Hid (decide (x = y) = false) := by show _ = _; rw [wi_eq]; simp [h1]
      clear h0 h1
      go_enter Try.func64, Try.ntmps64
      go_wp2_with fail
      go_ret
      exact ⟨ret_bool HE.out.symm, B2⟩
  · have q0 : (x.kind == y.kind) = false := by simpa using h0
    have HE : Hid (decide (x = y) = false) := by show _ = _; rw [wi_eq]; simp [h0]
    clear h0
    go_enter Try.func64, Try.ntmps64
    go_wp2_with fail
    go_ret
    exact ⟨ret_bool HE.out.symm, B2⟩
set_option maxHeartbeats 1600000 in
set_option maxRecDepth 100000 in
theorem equalNode {A E A' E' : Option Addr} {n c m d n' c' m' d' : Nat} {x y : Nd} (w : World) (h : Sl RI 1 w w.heap.size A n c x.wish.list) (g : Sl RP 2 w w.heap.size E m d x.wish.pairs) (h' : Sl RI 1 w w.heap.size A' n' c' y.wish.list) (g' : Sl RP 2 w w.heap.size E' m' d' y.wish.pairs) :
    Calls Try.prog 101 #[.agg #[.int .i64 x.op, .int .i64 x.wish.kind, .int .i64 x.wish.field, .int .i64 x.wish.value, .slice A n c, .slice E m d], .agg #[.int .i64 y.op, .int .i64 y.wish.kind, .int .i64 y.wish.field, .int .i64 y.wish.value, .slice A' n' c', .slice E' m' d']] w fun e w' => e = .returned (.bool (decide (x = y))) ∧ Below w.heap.size w w' := by
  have B2 := ((Below.refl w.heap.size w).alloc (Nat.le_refl _) (.cells #[.int .i64 x.op, .int .i64 x.wish.kind, .int .i64 x.wish.field, .int .i64 x.wish.value, .slice A n c, .slice E m d] 55)).alloc (by simp) (.cells #[.int .i64 y.op, .int .i64 y.wish.kind, .int .i64 y.wish.field, .int .i64 y.wish.value, .slice A' n' c', .slice E' m' d'] 55)
  have H := Lib.hid (h.on RI.keeps B2)
  have H' := Lib.hid (h'.on RI.keeps B2)
  have G := Lib.hid (g.on RP.keeps B2)
  have G' := Lib.hid (g'.on RP.keeps B2)
  clear h h' g g'
  by_cases h0 : x.op = y.op
  · have q0 : (x.op == y.op) = true := by simpa using h0
    have HE : Hid (decide (x = y) = decide (x.wish = y.wish)) := by show _ = _; rw [nd_eq]; simp [h0]
    clear h0
    go_enter Try.func101, Try.ntmps101
    go_wp2_with (go_at_call 64; refine (equalWish _ H.out G.out H'.out G'.out).mono ?_; rintro e w2 ⟨rfl, b2⟩)
    go_ret
    exact ⟨ret_bool HE.out.symm, B2.trans (b2.mono B2.size)⟩
  · have q0 : (x.op == y.op) = false := by simpa using h0
    have HE : Hid (decide (x = y) = false) := by show _ = _; rw [nd_eq]; simp [h0]
    clear h0
    go_enter Try.func101, Try.ntmps101
    go_wp2_with fail
    go_ret
    exact ⟨ret_bool HE.out.symm, B2⟩
set_option maxHeartbeats 1600000 in
set_option maxRecDepth 100000 in
theorem specEqualExpressions {A A' : Option Addr} {n n' c c' : Nat} {xs ys : List Nd} (w : World) (h : Sl RN 6 w w.heap.size A n c xs) (h' : Sl RN 6 w w.heap.size A' n' c' ys) :
    Calls Try.prog 78 #[.slice A n c, .slice A' n' c'] w fun e w' => e = .returned (.bool (decide (xs = ys))) ∧ Below w.heap.size w w' := by
  have mx1 := Nat.le_trans h.le h.max
  have mx2 := Nat.le_trans h'.le h'.max
  unfold maxLen at mx1 mx2
  have HL := Lib.hid h.len
  have HL' := Lib.hid h'.len
  by_cases hne : n = n'
  · have HN := Lib.hid hne
    have ht : ((n : Int) != (n' : Int)) = false := by simp [hne]
    clear hne
    go_enter Try.func78, Try.ntmps78
    go_wp2
    go_loopw [5] (fun vk wr => ∃ k : Nat, k ≤ n ∧ vk = .int .i64 k ∧ Hid (P.Agree xs ys k) ∧ Below w.heap.size w wr) (fun vk _ => n - (intOf vk).toNat)
    case atStart => exact ⟨0, Nat.zero_le _, rfl, rfl, Below.refl _ _⟩
    case round =>
      obtain ⟨k, hk, rfl, hup, hbw⟩ := hrel
      by_cases hlt : k < n
      · have hlt' : k < n' := by have := HN.out; omega
        obtain ⟨b, o, x, A1, n1, c1, E1, m1, d1, rfl, hb, hx, hf, hs, ht1, g0, g1, g2, g3, g4, g5⟩ := nodeAt h hlt
        obtain ⟨b', o', y, A2, n2, c2, E2, m2, d2, rfl, hb', hy, hf', hs', ht1', g0', g1', g2', g3', g4', g5'⟩ := nodeAt h' hlt'
        have hsz := hbw.size
        have i1 : b < wr.heap.size := by omega
        have i2 : b' < wr.heap.size := by omega
        have i3 : b < wr.heap.size + 1 := by omega
        have i4 : b' < wr.heap.size + 1 := by omega
        have e0 := ((cell_of hbw) b (o + k * 6) hb).trans g0
        have e1 := ((cell_of hbw) b (o + k * 6 + 1) hb).trans g1
        have e2 := ((cell_of hbw) b (o + k * 6 + 2) hb).trans g2
        have e3 := ((cell_of hbw) b (o + k * 6 + 3) hb).trans g3
        have e4 := ((cell_of hbw) b (o + k * 6 + 4) hb).trans g4
        have e5 := ((cell_of hbw) b (o + k * 6 + 5) hb).trans g5
        have e0' := ((cell_of hbw) b' (o' + k * 6) hb').trans g0'
        have e1' := ((cell_of hbw) b' (o' + k * 6 + 1) hb').trans g1'
        have e2' := ((cell_of hbw) b' (o' + k * 6 + 2) hb').trans g2'
        have e3' := ((cell_of hbw) b' (o' + k * 6 + 3) hb').trans g3'
        have e4' := ((cell_of hbw) b' (o' + k * 6 + 4) hb').trans g4'
        have e5' := ((cell_of hbw) b' (o' + k * 6 + 5) hb').trans g5'
        have q1 : (k : Int) < (n : Int) := by omega
        have q2 : (k : Int) < (n' : Int) := by omega
        have HX := Lib.hid hx
        have HY := Lib.hid hy
        have HS := Lib.hid (hs.on RI.keeps hbw)
        have HS' := Lib.hid (hs'.on RI.keeps hbw)
        have HT := Lib.hid (ht1.on RP.keeps hbw)
        have HT' := Lib.hid (ht1'.on RP.keeps hbw)
        have HBW := Lib.hid hbw
        have f0 : o + k * 6 + 1 + 1 = o + k * 6 + 2 := rfl
        clear hx hy h h' hbw hs hs' ht1 ht1' g0 g1 g2 g3 g4 g5 g0' g1' g2' g3' g4' g5' f0
        by_cases hop : x.op = y.op
        · have q : (x.op != y.op) = false := by simpa using hop
          cases hv : decide (x.wish = y.wish) with
          | true =>
            have hxy : x = y := by
              have := nd_eq x y
              rw [hv] at this
              simpa [hop] using this
            have HE := Lib.hid (P.agree_step hup.out HX.out (hxy ▸ HY.out))
            clear hxy hop
            go_wp2_with fail
            refine wp_region_qb (by kernel_rfl) (by kernel_rfl) ?_; (repeat (go_big_quiet_step ((go_at_call 98; exact quietBb hv (l5SameWish _ (HS.out.gr RI.keeps _ _) (HT.out.gr RP.keeps _ _) (HS'.out.gr RI.keeps _ _) (HT'.out.gr RP.keeps _ _)))))); refine wpQuiet_nil ?_; intro w8 hb8
            go_wp2
            go_roundw
            case rel => exact ⟨k + 1, by omega, by go_num, HE, HBW.out.trans (hb8.mono hsz)⟩
            case measure => simp [intOf]; omega
          | false =>
            have HE : Hid (decide (xs = ys) = false) := by
              show _ = _
              rw [decide_eq_false_iff_not]
              exact P.agree_no HX.out HY.out (by rintro rfl; simp at hv)
            clear hop
            go_wp2_with fail
            refine wp_region_qb (by kernel_rfl) (by kernel_rfl) ?_; (repeat (go_big_quiet_step ((go_at_call 98; exact quietBb hv (l5SameWish _ (HS.out.gr RI.keeps _ _) (HT.out.gr RP.keeps _ _) (HS'.out.gr RI.keeps _ _) (HT'.out.gr RP.keeps _ _)))))); refine wpQuiet_nil ?_; intro w8 hb8
            go_wp2
            go_ret
            exact ⟨ret_bool HE.out.symm, HBW.out.trans (hb8.mono hsz)⟩
        · have q : (x.op != y.op) = true := by simpa using hop
          have HE : Hid (decide (xs = ys) = false) := by
            show _ = _
            rw [decide_eq_false_iff_not]
            exact P.agree_no HX.out HY.out (by rintro rfl; exact hop rfl)
          clear hop
          go_wp2_with fail
          refine wp_region_qb (by kernel_rfl) (by kernel_rfl) ?_; (repeat (go_big_quiet_step ((fail)))); refine wpQuiet_nil ?_; intro w8 hb8
          go_wp2
          go_ret
          exact ⟨ret_bool HE.out.symm, HBW.out.trans (hb8.mono hsz)⟩
      · have HE : Hid (decide (xs = ys) = true) := by
          show _ = _
          rw [decide_eq_true_iff]
          exact P.agree_all hup.out HL.out (by rw [HL'.out]; exact HN.out.symm) (by omega)
        clear h h'
        go_wp2
        go_ret
        exact ⟨ret_bool HE.out.symm, hbw⟩
  · have ht : ((n : Int) != (n' : Int)) = true := by simp; omega
    have HE : Hid (decide (xs = ys) = false) := by
      show _ = _
      rw [decide_eq_false_iff_not]
      rintro rfl
      exact hne (HL.out.symm.trans HL'.out)
    clear hne h h'
    go_enter Try.func78, Try.ntmps78
    go_wp2
    go_ret
    exact ⟨ret_bool HE.out.symm, Below.refl _ _⟩
set_option maxHeartbeats 1600000 in
set_option maxRecDepth 100000 in
theorem equalFuncN {A A' : Option Addr} {n n' c c' : Nat} {xs ys : List Nd} (w : World) (h : Sl RN 6 w w.heap.size A n c xs) (h' : Sl RN 6 w w.heap.size A' n' c' ys) :
    Calls Try.prog 100 #[.slice A n c, .slice A' n' c', .func (Fn.func 101) #[] #[]] w fun e w' => e = .returned (.bool (decide (xs = ys))) ∧ Below w.heap.size w w' := by
  have mx1 := Nat.le_trans h.le h.max
  have mx2 := Nat.le_trans h'.le h'.max
  unfold maxLen at mx1 mx2
  have HL := Lib.hid h.len
  have HL' := Lib.hid h'.len
  by_cases hne : n = n'
  · have HN := Lib.hid hne
    have ht : ((n : Int) != (n' : Int)) = false := by simp [hne]
    clear hne
    go_enter Try.func100, Try.ntmps100
    go_wp2
    go_loopw [7, 8, 9, 17] (fun va vb vc vk wr => ∃ k : Nat, k ≤ n ∧ vk = .int .i64 k ∧ Hid (P.Agree xs ys k) ∧ Below w.heap.size w wr) (fun va vb vc vk _ => n - (intOf vk).toNat)
    case atStart => exact ⟨0, Nat.zero_le _, rfl, rfl, Below.refl _ _⟩
    case round =>
      obtain ⟨k, hk, rfl, hup, hbw⟩ := hrel
      by_cases hlt : k < n
      · have hlt' : k < n' := by have := HN.out; omega
        obtain ⟨b, o, x, A1, n1, c1, E1, m1, d1, rfl, hb, hx, hf, hs, ht1, g0, g1, g2, g3, g4, g5⟩ := nodeAt h hlt
        obtain ⟨b', o', y, A2, n2, c2, E2, m2, d2, rfl, hb', hy, hf', hs', ht1', g0', g1', g2', g3', g4', g5'⟩ := nodeAt h' hlt'
        have hsz := hbw.size
        have i1 : b < wr.heap.size := by omega
        have i2 : b' < wr.heap.size := by omega
        have i3 : b < wr.heap.size + 1 := by omega
        have i4 : b' < wr.heap.size + 1 := by omega
        have e0 := ((cell_of hbw) b (o + k * 6) hb).trans g0
        have e1 := ((cell_of hbw) b (o + k * 6 + 1) hb).trans g1
        have e2 := ((cell_of hbw) b (o + k * 6 + 2) hb).trans g2
        have e3 := ((cell_of hbw) b (o + k * 6 + 3) hb).trans g3
        have e4 := ((cell_of hbw) b (o + k * 6 + 4) hb).trans g4
        have e5 := ((cell_of hbw) b (o + k * 6 + 5) hb).trans g5
        have e0' := ((cell_of hbw) b' (o' + k * 6) hb').trans g0'
        have e1' := ((cell_of hbw) b' (o' + k * 6 + 1) hb').trans g1'
        have e2' := ((cell_of hbw) b' (o' + k * 6 + 2) hb').trans g2'
        have e3' := ((cell_of hbw) b' (o' + k * 6 + 3) hb').trans g3'
        have e4' := ((cell_of hbw) b' (o' + k * 6 + 4) hb').trans g4'
        have e5' := ((cell_of hbw) b' (o' + k * 6 + 5) hb').trans g5'
        have q1 : (k : Int) < (n : Int) := by omega
        have q2 : (k : Int) < (n' : Int) := by omega
        have HX := Lib.hid hx
        have HY := Lib.hid hy
        have BW : Below wr.heap.size wr ((wr.alloc (.cells #[.int .i64 x.op, .int .i64 x.wish.kind, .int .i64 x.wish.field, .int .i64 x.wish.value, .slice A1 n1 c1, .slice E1 m1 d1] 55)).alloc (.cells #[.int .i64 y.op, .int .i64 y.wish.kind, .int .i64 y.wish.field, .int .i64 y.wish.value, .slice A2 n2 c2, .slice E2 m2 d2] 55)) := ((Below.refl _ _).alloc (Nat.le_refl _) _).alloc (by simp) _
        have HS := Lib.hid ((hs.on RI.keeps hbw).on RI.keeps BW)
        have HS' := Lib.hid ((hs'.on RI.keeps hbw).on RI.keeps BW)
        have HT := Lib.hid ((ht1.on RP.keeps hbw).on RP.keeps BW)
        have HT' := Lib.hid ((ht1'.on RP.keeps hbw).on RP.keeps BW)
        have HBW := Lib.hid (hbw.trans (BW.mono hsz))
        clear hx hy h h' hbw hs hs' ht1 ht1' BW g0 g1 g2 g3 g4 g5 g0' g1' g2' g3' g4' g5'
        cases hd : decide (x = y) with
        | true =>
          have HE := Lib.hid (P.agree_step hup.out HX.out ((decide_eq_true_iff.1 hd) ▸ HY.out))
          go_wp2_with (go_at_call 101; refine (equalNode _ HS.out HT.out HS'.out HT'.out).mono ?_; rintro e w9 ⟨rfl, b9⟩; rw [hd])
          go_roundw
          case rel => exact ⟨k + 1, by omega, by go_num, HE, HBW.out.trans (b9.mono (by simp; omega))⟩
          case measure => simp [intOf]; omega
        | false =>
          have HE : Hid (decide (xs = ys) = false) := by
            show _ = _
            rw [decide_eq_false_iff_not]; exact P.agree_no HX.out HY.out (decide_eq_false_iff_not.1 hd)
          go_wp2_with (go_at_call 101; refine (equalNode _ HS.out HT.out HS'.out HT'.out).mono ?_; rintro e w9 ⟨rfl, b9⟩; rw [hd])
          go_ret
          exact ⟨ret_bool HE.out.symm, HBW.out.trans (b9.mono (by simp; omega))⟩
      · have HE : Hid (decide (xs = ys) = true) := by
          show _ = _
          rw [decide_eq_true_iff]
          exact P.agree_all hup.out HL.out (by rw [HL'.out]; exact HN.out.symm) (by omega)
        clear h h'
        go_wp2
        go_ret
        exact ⟨ret_bool HE.out.symm, hbw⟩
  · have ht : ((n : Int) != (n' : Int)) = true := by simp; omega
    have HE : Hid (decide (xs = ys) = false) := by
      show _ = _
      rw [decide_eq_false_iff_not]
      rintro rfl
      exact hne (HL.out.symm.trans HL'.out)
    clear hne h h'
    go_enter Try.func100, Try.ntmps100
    go_wp2
    go_ret
    exact ⟨ret_bool HE.out.symm, Below.refl _ _⟩
theorem implEqualExpressions {A A' : Option Addr} {n n' c c' : Nat} {xs ys : List Nd} (w : World) (h : Sl RN 6 w w.heap.size A n c xs) (h' : Sl RN 6 w w.heap.size A' n' c' ys) :
    Calls Try.prog 80 #[.slice A n c, .slice A' n' c'] w fun e w' => e = .returned (.bool (decide (xs = ys))) ∧ Below w.heap.size w w' := by
  go_enter Try.func80, Try.ntmps80
  go_wp2_with fail
  refine (equalFuncN _ h h').mono ?_
  rintro e w1 ⟨rfl, b1⟩
  clear h h'
  go_wp2
  go_ret
  exact ⟨rfl, b1⟩
end Go.Proofs.Ytgjghpaenliliaa.Wk
