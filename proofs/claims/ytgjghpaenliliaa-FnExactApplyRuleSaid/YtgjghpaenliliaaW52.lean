/-
  Walks of chapter 5: IsExpression.
  Conditions: none beyond the bounds that each states.
-/
import Derived.Test.YtgjghpaenliliaaW51
import Derived.Test.YtgjghpaenliliaaW41
import Derived.Test.YtgjghpaenliliaaP13
namespace Go.Proofs.Ytgjghpaenliliaa.Wk
open Go.RowKit Go.Proofs.Ytgjghpaenliliaa.M
set_option linter.unusedVariables false
attribute [local go_sem] cell_grow

set_option maxHeartbeats 3200000 in
set_option maxRecDepth 100000 in
theorem l5NoWish {A E : Option Addr} {n c m d : Nat} {x : Wi} (w : World) (h : Sl RI 1 w w.heap.size A n c x.list) (g : Sl RP 2 w w.heap.size E m d x.pairs) :
    Calls Try.prog 57 #[.agg #[.int .i64 x.kind, .int .i64 x.field, .int .i64 x.value, .slice A n c, .slice E m d]] w fun e w' => e = .returned (.bool (P.noW x)) ∧ Below w.heap.size w w' := by
  have B1 := (Below.refl w.heap.size w).alloc (Nat.le_refl _) (.cells #[.int .i64 x.kind, .int .i64 x.field, .int .i64 x.value, .slice A n c, .slice E m d] 53)
  have NL := nil_iff h.len
  have NM := nil_iff g.len
  have mx1 := Nat.le_trans h.le h.max
  have mx2 := Nat.le_trans g.le g.max
  unfold maxLen at mx1 mx2
  clear h g
  by_cases h0 : x.kind = 0
  · have q0 : (x.kind == 0) = true := by simpa using h0
    by_cases h1 : x.field = 0
    · have q1 : (x.field == 0) = true := by simpa using h1
      by_cases h2 : x.value = 0
      · have q2 : (x.value == 0) = true := by simpa using h2
        by_cases h3 : n = 0
        · have q3 : ((n : Int) == 0) = true := by simpa using h3
          by_cases h4 : m = 0
          · have q4 : ((m : Int) == 0) = true := by simpa using h4
            have HE : Hid (P.noW x = true) := by show _ = _; rw [P.noW]; simp [h0, h1, h2, NL, NM, h3, h4]
            clear NL NM h0 h1 h2 h3 h4
            go_enter Try.func57, Try.ntmps57
            go_wp2_with fail
            go_ret
            exact ⟨ret_bool HE.out.symm, B1⟩
          · have q4 : ((m : Int) == 0) = false := by simpa using h4
            have HE : Hid (P.noW x = false) := by show _ = _; rw [P.noW]; simp [NL, NM, h4]
            clear NL NM h0 h1 h2 h3 h4
            go_enter Try.func57, Try.ntmps57
            go_wp2_with fail
            go_ret
            exact ⟨ret_bool HE.out.symm, B1⟩
        · have q3 : ((n : Int) == 0) = false := by simpa using h3
          have HE : Hid (P.noW x = false) := by show _ = _; rw [P.noW]; simp [NL, NM, h3]
          clear NL NM h0 h1 h2 h3
          go_enter Try.func57, Try.ntmps57
          go_wp2_with fail
          go_ret
          exact ⟨ret_bool HE.out.symm, B1⟩
      · have q2 : (x.value == 0) = false := by simpa using h2
        have HE : Hid (P.noW x = false) := by show _ = _; rw [P.noW]; simp [NL, NM, h2]
        clear NL NM h0 h1 h2
        go_enter Try.func57, Try.ntmps57
        go_wp2_with fail
        go_ret
        exact ⟨ret_bool HE.out.symm, B1⟩
    · have q1 : (x.field == 0) = false := by simpa using h1
      have HE : Hid (P.noW x = false) := by show _ = _; rw [P.noW]; simp [NL, NM, h1]
      clear NL NM h0 h1
      go_enter Try.func57, Try.ntmps57
      go_wp2_with fail
      go_ret
      exact ⟨ret_bool HE.out.symm, B1⟩
  · have q0 : (x.kind == 0) = false := by simpa using h0
    have HE : Hid (P.noW x = false) := by show _ = _; rw [P.noW]; simp [NL, NM, h0]
    clear NL NM h0
    go_enter Try.func57, Try.ntmps57
    go_wp2_with fail
    go_ret
    exact ⟨ret_bool HE.out.symm, B1⟩
set_option maxHeartbeats 3200000 in
set_option maxRecDepth 100000 in
theorem specIsExpression {A : Option Addr} {n c : Nat} {l : List Nd} (w : World) (h : Sl RN 6 w w.heap.size A n c l) :
    Calls Try.prog 24 #[.slice A n c] w fun e w' => e = .returned (.bool (P.okE l)) ∧ Below w.heap.size w w' := by
  have mx1 := Nat.le_trans h.le h.max
  unfold maxLen at mx1
  have HL := Lib.hid h.len
  go_enter Try.func24, Try.ntmps24
  go_wp2
  go_loopw [3, 4] (fun vd vk wr => ∃ k d : Nat, k ≤ n ∧ vk = .int .i64 k ∧ vd = .int .i64 d ∧ d ≤ k ∧ Hid (P.Dep l k d) ∧ Below w.heap.size w wr) (fun _ vk _ => n - (intOf vk).toNat)
  case atStart => exact ⟨0, 0, Nat.zero_le _, rfl, rfl, Nat.le_refl _, P.dep_zero l, Below.refl _ _⟩
  case round =>
    obtain ⟨k, dp, hk, rfl, rfl, hdk, hdep, hbw⟩ := hrel
    by_cases hlt : k < n
    · have q1 : (k : Int) < (n : Int) := by omega
      obtain ⟨b, o, x, A1, n1, c1, E1, m1, d1, rfl, hb, hx, hf, hs, ht1, g0, g1, g2, g3, g4, g5⟩ := nodeAt h hlt
      have hsz := hbw.size
      have i1 : b < wr.heap.size := by omega
      have e0 := ((cell_of hbw) b (o + k * 6) hb).trans g0
      have e1 := ((cell_of hbw) b (o + k * 6 + 1) hb).trans g1
      have e2 := ((cell_of hbw) b (o + k * 6 + 2) hb).trans g2
      have e3 := ((cell_of hbw) b (o + k * 6 + 3) hb).trans g3
      have e4 := ((cell_of hbw) b (o + k * 6 + 4) hb).trans g4
      have e5 := ((cell_of hbw) b (o + k * 6 + 5) hb).trans g5
      have HS := Lib.hid (hs.on RI.keeps hbw)
      have HT := Lib.hid (ht1.on RP.keeps hbw)
      have HX := Lib.hid hx
      have HB := Lib.hid hbw
      clear hx h hs ht1 hbw g0 g1 g2 g3 g4 g5 HL
      by_cases h0 : x.op = 0
      · have q0 : (x.op == 0) = true := by simpa using h0
        cases hw : P.okW x.wish with
        | false =>
          have HE : Hid (P.okE l = false) := P.dep_bad hdep.out HX.out (.inl (by rw [P.okN_0 h0]; exact hw))
          clear h0
          go_wp2_with (go_at_call 56; refine (specIsWish (x := x.wish) _ HS.out HT.out).mono ?_; rintro e w2 ⟨rfl, b2⟩; rw [hw])
          go_ret
          exact ⟨ret_bool HE.out.symm, HB.out.trans (b2.mono hsz)⟩
        | true =>
          have HD := Lib.hid (P.dep_step hdep.out HX.out (by rw [P.okN_0 h0]; exact hw) (by rw [h0]; exact Nat.zero_le _))
          rw [h0] at HD
          clear h0
          go_wp2_with (go_at_call 56; refine (specIsWish (x := x.wish) _ HS.out HT.out).mono ?_; rintro e w2 ⟨rfl, b2⟩; rw [hw])
          go_roundw
          case rel => exact ⟨k + 1, _, by omega, by go_num, vint (by rw [P.opnds_0]; omega), by rw [P.opnds_0]; omega, HD, HB.out.trans (b2.mono hsz)⟩
          case measure => simp [intOf]; omega
      · have q0 : (x.op == 0) = false := by simpa using h0
        by_cases h3 : x.op = 3
        · have q3 : (x.op == 3) = true := by simpa using h3
          have hc := h3
          clear h3
          have hin : P.inR x.op 0 4 = true := by rw [hc]; rfl
          by_cases hd : dp < 1
          · have q9 : ((dp : Int) < 1) := by omega
            have HE : Hid (P.okE l = false) := P.dep_bad hdep.out HX.out (.inr (by rw [hc]; exact hd))
            clear hc hd h0
            go_wp2_with fail
            go_ret
            exact ⟨ret_bool HE.out.symm, HB.out⟩
          · have q9 : ¬ ((dp : Int) < 1) := by omega
            cases hw : P.noW x.wish with
            | false =>
              have HE : Hid (P.okE l = false) := P.dep_bad hdep.out HX.out (.inl (by rw [P.okN_1 hin h0]; exact hw))
              clear hc hd h0
              go_wp2_with (go_at_call 57; refine (l5NoWish (x := x.wish) _ HS.out HT.out).mono ?_; rintro e w2 ⟨rfl, b2⟩; rw [hw])
              go_ret
              exact ⟨ret_bool HE.out.symm, HB.out.trans (b2.mono hsz)⟩
            | true =>
              have HD := Lib.hid (P.dep_step hdep.out HX.out (by rw [P.okN_1 hin h0]; exact hw) (by rw [hc]; exact Nat.le_of_not_lt hd))
              rw [hc] at HD
              clear hc hd h0 hin
              go_wp2_with (go_at_call 57; refine (l5NoWish (x := x.wish) _ HS.out HT.out).mono ?_; rintro e w2 ⟨rfl, b2⟩; rw [hw])
              go_roundw
              case rel => exact ⟨k + 1, _, by omega, by go_num, vint (by rw [P.opnds_3]; omega), by rw [P.opnds_3]; omega, HD, HB.out.trans (b2.mono hsz)⟩
              case measure => simp [intOf]; omega
        · have q3 : (x.op == 3) = false := by simpa using h3
          by_cases h1 : x.op = 1
          · have q1 : (x.op == 1) = true := by simpa using h1
            have hc := h1
            clear h1
            have hin : P.inR x.op 0 4 = true := by rw [hc]; rfl
            by_cases hd : dp < 2
            · have q9 : ((dp : Int) < 2) := by omega
              have HE : Hid (P.okE l = false) := P.dep_bad hdep.out HX.out (.inr (by rw [hc]; exact hd))
              clear hc hd h0
              go_wp2_with fail
              go_ret
              exact ⟨ret_bool HE.out.symm, HB.out⟩
            · have q9 : ¬ ((dp : Int) < 2) := by omega
              cases hw : P.noW x.wish with
              | false =>
                have HE : Hid (P.okE l = false) := P.dep_bad hdep.out HX.out (.inl (by rw [P.okN_1 hin h0]; exact hw))
                clear hc hd h0
                go_wp2_with (go_at_call 57; refine (l5NoWish (x := x.wish) _ HS.out HT.out).mono ?_; rintro e w2 ⟨rfl, b2⟩; rw [hw])
                go_ret
                exact ⟨ret_bool HE.out.symm, HB.out.trans (b2.mono hsz)⟩
              | true =>
                have HD := Lib.hid (P.dep_step hdep.out HX.out (by rw [P.okN_1 hin h0]; exact hw) (by rw [hc]; exact Nat.le_of_not_lt hd))
                rw [hc] at HD
                clear hc hd h0 hin
                go_wp2_with (go_at_call 57; refine (l5NoWish (x := x.wish) _ HS.out HT.out).mono ?_; rintro e w2 ⟨rfl, b2⟩; rw [hw])
                go_roundw
                case rel => exact ⟨k + 1, _, by omega, by go_num, vint (by rw [P.opnds_1]; omega), by rw [P.opnds_1]; omega, HD, HB.out.trans (b2.mono hsz)⟩
                case measure => simp [intOf]; omega
          · have q1 : (x.op == 1) = false := by simpa using h1
            by_cases h2 : x.op = 2
            · have q2 : (x.op == 2) = true := by simpa using h2
              have hc := h2
              clear h2
              have hin : P.inR x.op 0 4 = true := by rw [hc]; rfl
              by_cases hd : dp < 2
              · have q9 : ((dp : Int) < 2) := by omega
                have HE : Hid (P.okE l = false) := P.dep_bad hdep.out HX.out (.inr (by rw [hc]; exact hd))
                clear hc hd h0
                go_wp2_with fail
                go_ret
                exact ⟨ret_bool HE.out.symm, HB.out⟩
              · have q9 : ¬ ((dp : Int) < 2) := by omega
                cases hw : P.noW x.wish with
                | false =>
                  have HE : Hid (P.okE l = false) := P.dep_bad hdep.out HX.out (.inl (by rw [P.okN_1 hin h0]; exact hw))
                  clear hc hd h0
                  go_wp2_with (go_at_call 57; refine (l5NoWish (x := x.wish) _ HS.out HT.out).mono ?_; rintro e w2 ⟨rfl, b2⟩; rw [hw])
                  go_ret
                  exact ⟨ret_bool HE.out.symm, HB.out.trans (b2.mono hsz)⟩
                | true =>
                  have HD := Lib.hid (P.dep_step hdep.out HX.out (by rw [P.okN_1 hin h0]; exact hw) (by rw [hc]; exact Nat.le_of_not_lt hd))
                  rw [hc] at HD
                  clear hc hd h0 hin
                  go_wp2_with (go_at_call 57; refine (l5NoWish (x := x.wish) _ HS.out HT.out).mono ?_; rintro e w2 ⟨rfl, b2⟩; rw [hw])
                  go_roundw
                  case rel => exact ⟨k + 1, _, by omega, by go_num, vint (by rw [P.opnds_2]; omega), by rw [P.opnds_2]; omega, HD, HB.out.trans (b2.mono hsz)⟩
                  case measure => simp [intOf]; omega
            · have q2 : (x.op == 2) = false := by simpa using h2
              by_cases h4 : x.op = 4
              · have q4 : (x.op == 4) = true := by simpa using h4
                have hc := h4
                clear h4
                have hin : P.inR x.op 0 4 = true := by rw [hc]; rfl
                by_cases hd : dp < 2
                · have q9 : ((dp : Int) < 2) := by omega
                  have HE : Hid (P.okE l = false) := P.dep_bad hdep.out HX.out (.inr (by rw [hc]; exact hd))
                  clear hc hd h0
                  go_wp2_with fail
                  go_ret
                  exact ⟨ret_bool HE.out.symm, HB.out⟩
                · have q9 : ¬ ((dp : Int) < 2) := by omega
                  cases hw : P.noW x.wish with
                  | false =>
                    have HE : Hid (P.okE l = false) := P.dep_bad hdep.out HX.out (.inl (by rw [P.okN_1 hin h0]; exact hw))
                    clear hc hd h0
                    go_wp2_with (go_at_call 57; refine (l5NoWish (x := x.wish) _ HS.out HT.out).mono ?_; rintro e w2 ⟨rfl, b2⟩; rw [hw])
                    go_ret
                    exact ⟨ret_bool HE.out.symm, HB.out.trans (b2.mono hsz)⟩
                  | true =>
                    have HD := Lib.hid (P.dep_step hdep.out HX.out (by rw [P.okN_1 hin h0]; exact hw) (by rw [hc]; exact Nat.le_of_not_lt hd))
                    rw [hc] at HD
                    clear hc hd h0 hin
                    go_wp2_with (go_at_call 57; refine (l5NoWish (x := x.wish) _ HS.out HT.out).mono ?_; rintro e w2 ⟨rfl, b2⟩; rw [hw])
                    go_roundw
                    case rel => exact ⟨k + 1, _, by omega, by go_num, vint (by rw [P.opnds_4]; omega), by rw [P.opnds_4]; omega, HD, HB.out.trans (b2.mono hsz)⟩
                    case measure => simp [intOf]; omega
              · have q4 : (x.op == 4) = false := by simpa using h4
                have hin : P.inR x.op 0 4 = false := by
                  cases hh : P.inR x.op 0 4 with
                  | false => rfl
                  | true => have := P.inR_t hh; omega
                have HE : Hid (P.okE l = false) := P.dep_bad hdep.out HX.out (.inl (P.okN_op hin))
                clear h0 h1 h2 h3 h4 hin
                go_wp2_with fail
                go_ret
                exact ⟨ret_bool HE.out.symm, HB.out⟩
    · have HE := Lib.hid (P.dep_end hdep.out HL.out (by omega))
      have hkn : k = n := by omega
      clear h
      by_cases hd1 : (dp : Int) = 1
      · have q : ((dp : Int) == 1) = true := by simpa using hd1
        have HE2 : Hid (P.okE l = decide ((n : Int) ≤ 9)) := by show _ = _; rw [HE.out, hd1]; rfl
        clear hd1
        go_wp2
        go_ret
        exact ⟨ret_bool HE2.out.symm, hbw⟩
      · have q : ((dp : Int) == 1) = false := by simpa using hd1
        have HE2 : Hid (P.okE l = false) := by show _ = _; rw [HE.out]; simp; omega
        clear hd1
        go_wp2
        go_ret
        exact ⟨ret_bool HE2.out.symm, hbw⟩
theorem operands (op : Int) (w : World) : Calls Try.prog 62 #[.int .i64 op] w fun e w' => e = .returned (.int .i64 (P.opnds op)) ∧ w = w' := by
  by_cases h0 : op = 0
  · subst h0
    go_enter Try.func62, Try.ntmps62
    go_wp2
    go_ret
    exact ⟨rfl, rfl⟩
  · by_cases h3 : op = 3
    · subst h3
      go_enter Try.func62, Try.ntmps62
      go_wp2
      go_ret
      exact ⟨rfl, rfl⟩
    · have q0 : (op == 0) = false := by simpa using h0
      have q3 : (op == 3) = false := by simpa using h3
      have HE : Hid (P.opnds op = 2) := by show _ = _; rw [P.opnds, if_neg h0, if_neg h3]
      clear h0 h3
      go_enter Try.func62, Try.ntmps62
      go_wp2
      go_ret
      exact ⟨ret_int (by rw [HE.out]; rfl), rfl⟩
set_option maxHeartbeats 3200000 in
set_option maxRecDepth 100000 in
theorem implIsExpression {A : Option Addr} {n c : Nat} {l : List Nd} (w : World) (h : Sl RN 6 w w.heap.size A n c l) :
    Calls Try.prog 28 #[.slice A n c] w fun e w' => e = .returned (.bool (P.okE l)) ∧ Below w.heap.size w w' := by
  have mx1 := Nat.le_trans h.le h.max
  unfold maxLen at mx1
  have HL := Lib.hid h.len
  go_enter Try.func28, Try.ntmps28
  go_wp2
  go_loopw [3, 5, 8] (fun vd vb vk wr => ∃ k d : Nat, k ≤ n ∧ vk = .int .i64 k ∧ vd = .int .i64 d ∧ d ≤ k ∧ Hid (P.Dep l k d) ∧ Below w.heap.size w wr) (fun _ _ vk _ => n - (intOf vk).toNat)
  case atStart => exact ⟨0, 0, Nat.zero_le _, rfl, rfl, Nat.le_refl _, P.dep_zero l, Below.refl _ _⟩
  case round =>
    obtain ⟨k, dp, hk, rfl, rfl, hdk, hdep, hbw⟩ := hrel
    by_cases hlt : k < n
    · have q1 : (k : Int) < (n : Int) := by omega
      obtain ⟨b, o, x, A1, n1, c1, E1, m1, d1, rfl, hb, hx, hf, hs, ht1, g0, g1, g2, g3, g4, g5⟩ := nodeAt h hlt
      have hsz := hbw.size
      have i1 : b < wr.heap.size := by omega
      have e0 := ((cell_of hbw) b (o + k * 6) hb).trans g0
      have e1 := ((cell_of hbw) b (o + k * 6 + 1) hb).trans g1
      have e2 := ((cell_of hbw) b (o + k * 6 + 2) hb).trans g2
      have e3 := ((cell_of hbw) b (o + k * 6 + 3) hb).trans g3
      have e4 := ((cell_of hbw) b (o + k * 6 + 4) hb).trans g4
      have e5 := ((cell_of hbw) b (o + k * 6 + 5) hb).trans g5
      have BW := (Below.refl wr.heap.size wr).alloc (Nat.le_refl _) (.cells #[.int .i64 x.op, .int .i64 x.wish.kind, .int .i64 x.wish.field, .int .i64 x.wish.value, .slice A1 n1 c1, .slice E1 m1 d1] 55)
      have HS := Lib.hid ((hs.on RI.keeps hbw).on RI.keeps BW)
      have HT := Lib.hid ((ht1.on RP.keeps hbw).on RP.keeps BW)
      have HX := Lib.hid hx
      have HB := Lib.hid (hbw.trans (BW.mono hsz))
      have hsz2 := HB.out.size
      have ww : wr.heap.size < (wr.alloc (.cells #[.int .i64 x.op, .int .i64 x.wish.kind, .int .i64 x.wish.field, .int .i64 x.wish.value, .slice A1 n1 c1, .slice E1 m1 d1] 55)).heap.size := by simp
      clear hx h hs ht1 hbw g0 g1 g2 g3 g4 g5 HL BW
      cases hin : P.inR x.op 0 4 with
      | false =>
        have HE : Hid (P.okE l = false) := P.dep_bad hdep.out HX.out (.inl (P.okN_op hin))
        go_wp2_with (first | (go_at_call 42; refine (within _ _ _ _).mono ?_; rintro e w9 ⟨rfl, rfl⟩; rw [hin]) | (go_at_call 62; refine (operands _ _).mono ?_; rintro e w9 ⟨rfl, rfl⟩))
        go_ret
        exact ⟨ret_bool HE.out.symm, HB.out⟩
      | true =>
        have hop2 : P.opnds x.op ≤ 2 := by unfold P.opnds; split <;> (try split) <;> omega
        by_cases hd : dp < P.opnds x.op
        · have q9 : ((dp : Int) < (P.opnds x.op : Int)) := by omega
          have HE : Hid (P.okE l = false) := P.dep_bad hdep.out HX.out (.inr hd)
          clear hd
          go_wp2_with (first | (go_at_call 42; refine (within _ _ _ _).mono ?_; rintro e w9 ⟨rfl, rfl⟩; rw [hin]) | (go_at_call 62; refine (operands _ _).mono ?_; rintro e w9 ⟨rfl, rfl⟩))
          go_ret
          exact ⟨ret_bool HE.out.symm, HB.out⟩
        · have q9 : ¬ ((dp : Int) < (P.opnds x.op : Int)) := by omega
          by_cases h0 : x.op = 0
          · have q0 : (x.op == 0) = true := by simpa using h0
            have q0' : (x.op != 0) = false := by simpa using h0
            cases hw : P.okW x.wish with
            | false =>
              have HE : Hid (P.okE l = false) := P.dep_bad hdep.out HX.out (.inl (by rw [P.okN_0 h0]; exact hw))
              clear h0 hd
              go_wp2_with (first | (go_at_call 42; refine (within _ _ _ _).mono ?_; rintro e w9 ⟨rfl, rfl⟩; rw [hin]) | (go_at_call 62; refine (operands _ _).mono ?_; rintro e w9 ⟨rfl, rfl⟩) | (go_at_call 63; refine (implIsWish (x := x.wish) _ HS.out HT.out).mono ?_; rintro e w2 ⟨rfl, b2⟩; rw [hw]))
              go_ret
              exact ⟨ret_bool HE.out.symm, HB.out.trans (b2.mono hsz2)⟩
            | true =>
              have HD := Lib.hid (P.dep_step hdep.out HX.out (by rw [P.okN_0 h0]; exact hw) (Nat.le_of_not_lt hd))
              have hdp := Nat.le_of_not_lt hd
              clear h0 hd
              go_wp2_with (first | (go_at_call 42; refine (within _ _ _ _).mono ?_; rintro e w9 ⟨rfl, rfl⟩; rw [hin]) | (go_at_call 62; refine (operands _ _).mono ?_; rintro e w9 ⟨rfl, rfl⟩) | (go_at_call 63; refine (implIsWish (x := x.wish) _ HS.out HT.out).mono ?_; rintro e w2 ⟨rfl, b2⟩; rw [hw]; have hC2 := cell_of b2; have z0 : wr.heap.size < w2.heap.size := Nat.lt_of_lt_of_le ww b2.size))
              go_roundw
              case rel => exact ⟨k + 1, _, by omega, by go_num, vint (by omega), by omega, HD, HB.out.trans (b2.mono hsz2)⟩
              case measure => simp [intOf]; omega
          · have q0 : (x.op == 0) = false := by simpa using h0
            have q0' : (x.op != 0) = true := by simpa using h0
            cases hw : decide (x.wish = ⟨0, 0, 0, [], []⟩) with
            | false =>
              have HE : Hid (P.okE l = false) := P.dep_bad hdep.out HX.out (.inl (by rw [P.okN_1 hin h0, P.noW_eq]; exact hw))
              clear h0 hd
              go_wp2_with (first | (go_at_call 42; refine (within _ _ _ _).mono ?_; rintro e w9 ⟨rfl, rfl⟩; rw [hin]) | (go_at_call 62; refine (operands _ _).mono ?_; rintro e w9 ⟨rfl, rfl⟩) | (go_at_call 64; refine (equalWish (x := x.wish) (y := ⟨0, 0, 0, [], []⟩) _ HS.out HT.out (Sl.nil _ _) (Sl.nil _ _)).mono ?_; rintro e w2 ⟨rfl, b2⟩; rw [hw]))
              go_ret
              exact ⟨ret_bool HE.out.symm, HB.out.trans (b2.mono hsz2)⟩
            | true =>
              have HD := Lib.hid (P.dep_step hdep.out HX.out (by rw [P.okN_1 hin h0, P.noW_eq]; exact hw) (Nat.le_of_not_lt hd))
              have hdp := Nat.le_of_not_lt hd
              clear h0 hd
              go_wp2_with (first | (go_at_call 42; refine (within _ _ _ _).mono ?_; rintro e w9 ⟨rfl, rfl⟩; rw [hin]) | (go_at_call 62; refine (operands _ _).mono ?_; rintro e w9 ⟨rfl, rfl⟩) | (go_at_call 64; refine (equalWish (x := x.wish) (y := ⟨0, 0, 0, [], []⟩) _ HS.out HT.out (Sl.nil _ _) (Sl.nil _ _)).mono ?_; rintro e w2 ⟨rfl, b2⟩; rw [hw]; have hC2 := cell_of b2; have z0 : wr.heap.size < w2.heap.size := Nat.lt_of_lt_of_le ww b2.size))
              go_roundw
              case rel => exact ⟨k + 1, _, by omega, by go_num, vint (by omega), by omega, HD, HB.out.trans (b2.mono hsz2)⟩
              case measure => simp [intOf]; omega
    · have HE := Lib.hid (P.dep_end hdep.out HL.out (by omega))
      have hkn : k = n := by omega
      clear h
      by_cases hd1 : (dp : Int) = 1
      · have q : ((dp : Int) == 1) = true := by simpa using hd1
        have HE2 : Hid (P.okE l = decide ((n : Int) ≤ 9)) := by show _ = _; rw [HE.out, hd1]; rfl
        clear hd1
        go_wp2
        go_ret
        exact ⟨ret_bool HE2.out.symm, hbw⟩
      · have q : ((dp : Int) == 1) = false := by simpa using hd1
        have HE2 : Hid (P.okE l = false) := by show _ = _; rw [HE.out]; simp; omega
        clear hd1
        go_wp2
        go_ret
        exact ⟨ret_bool HE2.out.symm, hbw⟩
end Go.Proofs.Ytgjghpaenliliaa.Wk
