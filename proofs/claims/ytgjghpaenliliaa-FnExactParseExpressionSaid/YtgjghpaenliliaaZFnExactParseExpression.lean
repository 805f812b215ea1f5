/-
  The given statement on laws.FnExactParseExpression: for every input that the row speaks of, the call returns true and the arguments read as before.
  Conditions: none beyond the row's own.
-/
import Derived.Test.YtgjghpaenliliaaZFnExactParseExpressionB
import Derived.Test.YtgjghpaenliliaaZFnExactParseExpressionA
import Derived.Test.YtgjghpaenliliaaP8
import Derived.Test.YtgjghpaenliliaaU5
import Derived.Test.YtgjghpaenliliaaM13
import Derived.Laws.AppendOwnNone
import Derived.Deep.RegionHeld3
import Derived.Deep.AppendLies
import Derived.Maps.AppendAt
import Derived.Test.YtgjghpaenliliaaRows
import Derived.ProofKit
import Derived.OpenShut
import Derived.ShutString
import Derived.ChangeOld
import Derived.Below
namespace Go.Proofs.Ytgjghpaenliliaa.Wk
open Go.RowKit Go.Proofs.Ytgjghpaenliliaa.M
set_option linter.unusedVariables false
attribute [local go_sem] cell_grow

set_option maxHeartbeats 3200000 in
set_option maxRecDepth 100000 in
theorem l5NoWish {A E : Option Addr} {n c m d : Nat} {x : Wi} (w : World) (h : Sl RI 1 w w.heap.size A n c x.list) (g : Sl RP 2 w w.heap.size E m d x.pairs) :
    Calls Try.prog 57 #[.agg #[.int .i64 x.kind, .int .i64 x.field, .int .i64 x.value, .slice A n c, .slice E m d]] w fun e w' => e = .returned (.bool (P.noW x)) ∧ Below w.heap.size w w' := by
  have B1 := (Below.refl w.heap.size w).alloc (Nat.le_refl _) (.cells #[.int .i64 x.kind, .int .i64 x.field, .int .i64 x.value, .slice A n c, .slice E m d] 53)
  have NL := nil_iff h.len
  have NM := nil_iff g.len
  have mx1 := Nat.le_trans h.le h.max
  have mx2 := Nat.le_trans g.le g.max
  unfold maxLen at mx1 mx2
  clear h g
  by_cases h0 : x.kind = 0
  · have q0 : (x.kind == 0) = true := by simpa using h0
    by_cases h1 : x.field = 0
    · have q1 : (x.field == 0) = true := by simpa using h1
      by_cases h2 : x.value = 0
      · have q2 : (x.value == 0) = true := by simpa using h2
        by_cases h3 : n = 0
        · have q3 : ((n : Int) == 0) = true := by simpa using h3
          by_cases h4 : m = 0
          · have q4 : ((m : Int) == 0) = true := by simpa using h4
            have HE : Hid (P.noW x = true) := by show _ = _; rw [P.noW]; simp [h0, h1, h2, NL, NM, h3, h4]
            clear NL NM h0 h1 h2 h3 h4
            go_enter Try.func57, Try.ntmps57
            go_wp2_with fail
            go_ret
            exact ⟨ret_bool HE.out.symm, B1⟩
          · have q4 : ((m : Int) == 0) = false := by simpa using h4
            have HE : Hid (P.noW x = false) := by show _ = _; rw [P.noW]; simp [NL, NM, h4]
            clear NL NM h0 h1 h2 h3 h4
            go_enter Try.func57, Try.ntmps57
            go_wp2_with fail
            go_ret
            exact ⟨ret_bool HE.out.symm, B1⟩
        · have q3 : ((n : Int) == 0) = false := by simpa using h3
          have HE : Hid (P.noW x = false) := by show _ = _; rw [P.noW]; simp [NL, NM, h3]
          clear NL NM h0 h1 h2 h3
          go_enter Try.func57, Try.ntmps57
          go_wp2_with fail
          go_ret
          exact ⟨ret_bool HE.out.symm, B1⟩
      · have q2 : (x.value == 0) = false := by simpa using h2
        have HE : Hid (P.noW x = false) := by show _ = _; rw [P.noW]; simp [NL, NM, h2]
        clear NL NM h0 h1 h2
        go_enter Try.func57, Try.ntmps57
        go_wp2_with fail
        go_ret
        exact ⟨ret_bool HE.out.symm, B1⟩
    · have q1 : (x.field == 0) = false := by simpa using h1
      have HE : Hid (P.noW x = false) := by show _ = _; rw [P.noW]; simp [NL, NM, h1]
      clear NL NM h0 h1
      go_enter Try.func57, Try.ntmps57
      go_wp2_with fail
      go_ret
      exact ⟨ret_bool HE.out.symm, B1⟩
  · have q0 : (x.kind == 0) = false := by simpa using h0
    have HE : Hid (P.noW x = false) := by show _ = _; rw [P.noW]; simp [NL, NM, h0]
    clear NL NM h0
    go_enter Try.func57, Try.ntmps57
    go_wp2_with fail
    go_ret
    exact ⟨ret_bool HE.out.symm, B1⟩
set_option maxHeartbeats 3200000 in
set_option maxRecDepth 100000 in
theorem specIsExpression {A : Option Addr} {n c : Nat} {l : List Nd} (w : World) (h : Sl RN 6 w w.heap.size A n c l) :
    Calls Try.prog 24 #[.slice A n c] w fun e w' => e = .returned (.bool (P.okE l)) ∧ Below w.heap.size w w' := by
  have mx1 := Nat.le_trans h.le h.max
  unfold maxLen at mx1
  have HL := Lib.hid h.len
  go_enter Try.func24, Try.ntmps24
  go_wp2
  go_loopw [3, 4] (fun vd vk wr => ∃ k d : Nat, k ≤ n ∧ vk = .int .i64 k ∧ vd = .int .i64 d ∧ d ≤ k ∧ Hid (P.Dep l k d) ∧ Below w.heap.size w wr) (fun _ vk _ => n - (intOf vk).toNat)
  case atStart => exact ⟨0, 0, Nat.zero_le _, rfl, rfl, Nat.le_refl _, P.dep_zero l, Below.refl _ _⟩
  case round =>
    obtain ⟨k, dp, hk, rfl, rfl, hdk, hdep, hbw⟩ := hrel
    by_cases hlt : k < n
    · have q1 : (k : Int) < (n : Int) := by omega
      obtain ⟨b, o, x, A1, n1, c1, E1, m1, d1, rfl, hb, hx, hf, hs, ht1, g0, g1, g2, g3, g4, g5⟩ := nodeAt h hlt
      have hsz := hbw.size
      have i1 : b < wr.heap.size := by omega
      have e0 := ((cell_of hbw) b (o + k * 6) hb).trans g0
      have e1 := ((cell_of hbw) b (o + k * 6 + 1) hb).trans g1
      have e2 := ((cell_of hbw) b (o + k * 6 + 2) hb).trans g2
      have e3 := ((cell_of hbw) b (o + k * 6 + 3) hb).trans g3
      have e4 := ((cell_of hbw) b (o + k * 6 + 4) hb).trans g4
      have e5 := ((cell_of hbw) b (o + k * 6 + 5) hb).trans g5
      have HS := Lib.hid (hs.on RI.keeps hbw)
      have HT := Lib.hid (ht1.on RP.keeps hbw)
      have HX := Lib.hid hx
      have HB := Lib.hid hbw
      clear hx h hs ht1 hbw g0 g1 g2 g3 g4 g5 HL
      by_cases h0 : x.op = 0
      · have q0 : (x.op == 0) = true := by simpa using h0
        cases hw : P.okW x.wish with
        | false =>
          have HE : Hid (P.okE l = false) := P.dep_bad hdep.out HX.out (.inl (by rw [P.okN_0 h0]; exact hw))
          clear h0
          go_wp2_with (go_at_call 56; refine (specIsWish (x := x.wish) _ HS.out HT.out).mono ?_; rintro e w2 ⟨rfl, b2⟩; rw [hw])
          go_ret
          exact ⟨ret_bool HE.out.symm, HB.out.trans (b2.mono hsz)⟩
        | true =>
          have HD := Lib.hid (P.dep_step hdep.out HX.out (by rw [P.okN_0 h0]; exact hw) (by rw [h0]; exact Nat.zero_le _))
          rw [h0] at HD
          clear h0
          go_wp2_with (go_at_call 56; refine (specIsWish (x := x.wish) _ HS.out HT.out).mono ?_; rintro e w2 ⟨rfl, b2⟩; rw [hw])
          go_roundw
          case rel => exact ⟨k + 1, _, by omega, by go_num, vint (by rw [P.opnds_0]; omega), by rw [P.opnds_0]; omega, HD, HB.out.trans (b2.mono hsz)⟩
          case measure => simp [intOf]; omega
      · have q0 : (x.op == 0) = false := by simpa using h0
        by_cases h3 : x.op = 3
        · have q3 : (x.op == 3) = true := by simpa using h3
          have hc := h3
          clear h3
          have hin : P.inR x.op 0 4 = true := by rw [hc]; rfl
          by_cases hd : dp < 1
          · have q9 : ((dp : Int) < 1) := by omega
            have HE : Hid (P.okE l = false) := P.dep_bad hdep.out HX.out (.inr (by rw [hc]; exact hd))
            clear hc hd h0
            go_wp2_with fail
            go_ret
            exact ⟨ret_bool HE.out.symm, HB.out⟩
          · have q9 : ¬ ((dp : Int) < 1) := by omega
            cases hw : P.noW x.wish with
            | false =>
              have HE : Hid (P.okE l = false) := P.dep_bad hdep.out HX.out (.inl (by rw [P.okN_1 hin h0]; exact hw))
              clear hc hd h0
              go_wp2_with (go_at_call 57; refine (l5NoWish (x := x.wish) _ HS.out HT.out).mono ?_; rintro e w2 ⟨rfl, b2⟩; rw [hw])
              go_ret
              exact ⟨ret_bool HE.out.symm, HB.out.trans (b2.mono hsz)⟩
            | true =>
              have HD := Lib.hid (P.dep_step hdep.out HX.out (by rw [P.okN_1 hin h0]; exact hw) (by rw [hc]; exact Nat.le_of_not_lt hd))
              rw [hc] at HD
              clear hc hd h0 hin
              go_wp2_with (go_at_call 57; refine (l5NoWish (x := x.wish) _ HS.out HT.out).mono ?_; rintro e w2 ⟨rfl, b2⟩; rw [hw])
              go_roundw
              case rel => exact ⟨k + 1, _, by omega, by go_num, vint (by rw [P.opnds_3]; omega), by rw [P.opnds_3]; omega, HD, HB.out.trans (b2.mono hsz)⟩
              case measure => simp [intOf]; omega
        · have q3 : (x.op == 3) = false := by simpa using h3
          by_cases h1 : x.op = 1
          · have q1 : (x.op == 1) = true := by simpa using h1
            have hc := h1
            clear h1
            have hin : P.inR x.op 0 4 = true := by rw [hc]; rfl
            by_cases hd : dp < 2
            · have q9 : ((dp : Int) < 2) := by omega
              have HE : Hid (P.okE l = false) := P.dep_bad hdep.out HX.out (.inr (by rw [hc]; exact hd))
              clear hc hd h0
              go_wp2_with fail
              go_ret
              exact ⟨ret_bool HE.out.symm, HB.out⟩
            · have q9 : ¬ ((dp : Int) < 2) := by omega
              cases hw : P.noW x.wish with
              | false =>
                have HE : Hid (P.okE l = false) := P.dep_bad hdep.out HX.out (.inl (by rw [P.okN_1 hin h0]; exact hw))
                clear hc hd h0
                go_wp2_with (go_at_call 57; refine (l5NoWish (x := x.wish) _ HS.out HT.out).mono ?_; rintro e w2 ⟨rfl, b2⟩; rw [hw])
                go_ret
                exact ⟨ret_bool HE.out.symm, HB.out.trans (b2.mono hsz)⟩
              | true =>
                have HD := Lib.hid (P.dep_step hdep.out HX.out (by rw [P.okN_1 hin h0]; exact hw) (by rw [hc]; exact Nat.le_of_not_lt hd))
                rw [hc] at HD
                clear hc hd h0 hin
                go_wp2_with (go_at_call 57; refine (l5NoWish (x := x.wish) _ HS.out HT.out).mono ?_; rintro e w2 ⟨rfl, b2⟩; rw [hw])
                go_roundw
                case rel => exact ⟨k + 1, _, by omega, by go_num, vint (by rw [P.opnds_1]; omega), by rw [P.opnds_1]; omega, HD, HB.out.trans (b2.mono hsz)⟩
                case measure => simp [intOf]; omega
          · have q1 : (x.op == 1) = false := by simpa using h1
            by_cases h2 : x.op = 2
            · have q2 : (x.op == 2) = true := by simpa using h2
              have hc := h2
              clear h2
              have hin : P.inR x.op 0 4 = true := by rw [hc]; rfl
              by_cases hd : dp < 2
              · have q9 : ((dp : Int) < 2) := by omega
                have HE : Hid (P.okE l = false) := P.dep_bad hdep.out HX.out (.inr (by rw [hc]; exact hd))
                clear hc hd h0
                go_wp2_with fail
                go_ret
                exact ⟨ret_bool HE.out.symm, HB.out⟩
              · have q9 : ¬ ((dp : Int) < 2) := by omega
                cases hw : P.noW x.wish with
                | false =>
                  have HE : Hid (P.okE l = false) := P.dep_bad hdep.out HX.out (.inl (by rw [P.okN_1 hin h0]; exact hw))
                  clear hc hd h0
                  go_wp2_with (go_at_call 57; refine (l5NoWish (x := x.wish) _ HS.out HT.out).mono ?_; rintro e w2 ⟨rfl, b2⟩; rw [hw])
                  go_ret
                  exact ⟨ret_bool HE.out.symm, HB.out.trans (b2.mono hsz)⟩
                | true =>
                  have HD := Lib.hid (P.dep_step hdep.out HX.out (by rw [P.okN_1 hin h0]; exact hw) (by rw [hc]; exact Nat.le_of_not_lt hd))
                  rw [hc] at HD
                  clear hc hd h0 hin
                  go_wp2_with (go_at_call 57; refine (l5NoWish (x := x.wish) _ HS.out HT.out).mono ?_; rintro e w2 ⟨rfl, b2⟩; rw [hw])
                  go_roundw
                  case rel => exact ⟨k + 1, _, by omega, by go_num, vint (by rw [P.opnds_2]; omega), by rw [P.opnds_2]; omega, HD, HB.out.trans (b2.mono hsz)⟩
                  case measure => simp [intOf]; omega
            · have q2 : (x.op == 2) = false := by simpa using h2
              by_cases h4 : x.op = 4
              · have q4 : (x.op == 4) = true := by simpa using h4
                have hc := h4
                clear h4
                have hin : P.inR x.op 0 4 = true := by rw [hc]; rfl
                by_cases hd : dp < 2
                · have q9 : ((dp : Int) < 2) := by omega
                  have HE : Hid (P.okE l = false) := P.dep_bad hdep.out HX.out (.inr (by rw [hc]; exact hd))
                  clear hc hd h0
                  go_wp2_with fail
                  go_ret
                  exact ⟨ret_bool HE.out.symm, HB.out⟩
                · have q9 : ¬ ((dp : Int) < 2) := by omega
                  cases hw : P.noW x.wish with
                  | false =>
                    have HE : Hid (P.okE l = false) := P.dep_bad hdep.out HX.out (.inl (by rw [P.okN_1 hin h0]; exact hw))
                    clear hc hd h0
                    go_wp2_with (go_at_call 57; refine (l5NoWish (x := x.wish) _ HS.out HT.out).mono ?_; rintro e w2 ⟨rfl, b2⟩; rw [hw])
                    go_ret
                    exact ⟨ret_bool HE.out.symm, HB.out.trans (b2.mono hsz)⟩
                  | true =>
                    have HD := Lib.hid (P.dep_step hdep.out HX.out (by rw [P.okN_1 hin h0]; exact hw) (by rw [hc]; exact Nat.le_of_not_lt hd))
                    rw [hc] at HD
                    clear hc hd h0 hin
                    go_wp2_with (go_at_call 57; refine (l5NoWish (x := x.wish) _ HS.out HT.out).mono ?_; rintro e w2 ⟨rfl, b2⟩; rw [hw])
                    go_roundw
                    case rel => exact ⟨k + 1, _, by omega, by go_num, vint (by rw [P.opnds_4]; omega), by rw [P.opnds_4]; omega, HD, HB.out.trans (b2.mono hsz)⟩
                    case measure => simp [intOf]; omega
              · have q4 : (x.op == 4) = false := by simpa using h4
                have hin : P.inR x.op 0 4 = false := by
                  cases hh : P.inR x.op 0 4 with
                  | false => rfl
                  | true => have := P.inR_t hh; omega
                have HE : Hid (P.okE l = false) := P.dep_bad hdep.out HX.out (.inl (P.okN_op hin))
                clear h0 h1 h2 h3 h4 hin
                go_wp2_with fail
                go_ret
                exact ⟨ret_bool HE.out.symm, HB.out⟩
    · have HE := Lib.hid (P.dep_end hdep.out HL.out (by omega))
      have hkn : k = n := by omega
      clear h
      by_cases hd1 : (dp : Int) = 1
      · have q : ((dp : Int) == 1) = true := by simpa using hd1
        have HE2 : Hid (P.okE l = decide ((n : Int) ≤ 9)) := by show _ = _; rw [HE.out, hd1]; rfl
        clear hd1
        go_wp2
        go_ret
        exact ⟨ret_bool HE2.out.symm, hbw⟩
      · have q : ((dp : Int) == 1) = false := by simpa using hd1
        have HE2 : Hid (P.okE l = false) := by show _ = _; rw [HE.out]; simp; omega
        clear hd1
        go_wp2
        go_ret
        exact ⟨ret_bool HE2.out.symm, hbw⟩
theorem operands (op : Int) (w : World) : Calls Try.prog 62 #[.int .i64 op] w fun e w' => e = .returned (.int .i64 (P.opnds op)) ∧ w = w' := by
  by_cases h0 : op = 0
  · subst h0
    go_enter Try.func62, Try.ntmps62
    go_wp2
    go_ret
    exact ⟨rfl, rfl⟩
  · by_cases h3 : op = 3
    · subst h3
      go_enter Try.func62, Try.ntmps62
      go_wp2
      go_ret
      exact ⟨rfl, rfl⟩
    · have q0 : (op == 0) = false := by simpa using h0
      have q3 : (op == 3) = false := by simpa using h3
      have HE : Hid (P.opnds op = 2) := by show _ = _; rw [P.opnds, if_neg h0, if_neg h3]
      clear h0 h3
      go_enter Try.func62, Try.ntmps62
      go_wp2
      go_ret
      exact ⟨ret_int (by rw [HE.out]; rfl), rfl⟩
set_option maxHeartbeats 3200000 in
set_option maxRecDepth 100000 in
theorem implIsExpression {A : Option Addr} {n c : Nat} {l : List Nd} (w : World) (h : Sl RN 6 w w.heap.size A n c l) :
    Calls Try.prog 28 #[.slice A n c] w fun e w' => e = .returned (.bool (P.okE l)) ∧ Below w.heap.size w w' := by
  have mx1 := Nat.le_trans h.le h.max
  unfold maxLen at mx1
  have HL := Lib.hid h.len
  go_enter Try.func28, Try.ntmps28
  go_wp2
  go_loopw [3, 5, 8] (fun vd vb vk wr => ∃ k d : Nat, k ≤ n ∧ vk = .int .i64 k ∧ vd = .int .i64 d ∧ d ≤ k ∧ Hid (P.Dep l k d) ∧ Below w.heap.size w wr) (fun _ _ vk _ => n - (intOf vk).toNat)
  case atStart => exact ⟨0, 0, Nat.zero_le _, rfl, rfl, Nat.le_refl _, P.dep_zero l, Below.refl _ _⟩
  case round =>
    obtain ⟨k, dp, hk, rfl, rfl, hdk, hdep, hbw⟩ := hrel
    by_cases hlt : k < n
    · have q1 : (k : Int) < (n : Int) := by omega
      obtain ⟨b, o, x, A1, n1, c1, E1, m1, d1, rfl, hb, hx, hf, hs, ht1, g0, g1, g2, g3, g4, g5⟩ := nodeAt h hlt
      have hsz := hbw.size
      have i1 : b < wr.heap.size := by omega
      have e0 := ((cell_of hbw) b (o + k * 6) hb).trans g0
      have e1 := ((cell_of hbw) b (o + k * 6 + 1) hb).trans g1
      have e2 := ((cell_of hbw) b (o + k * 6 + 2) hb).trans g2
      have e3 := ((cell_of hbw) b (o + k * 6 + 3) hb).trans g3
      have e4 := ((cell_of hbw) b (o + k * 6 + 4) hb).trans g4
      have e5 := ((cell_of hbw) b (o + k * 6 + 5) hb).trans g5
      have BW := (Below.refl wr.heap.size wr).alloc (Nat.le_refl _) (.cells #[.int .i64 x.op, .int .i64 x.wish.kind, .int .i64 x.wish.field, .int .i64 x.wish.value, .slice A1 n1 c1, .slice E1 m1 d1] 55)
      have HS := Lib.hid ((hs.on RI.keeps hbw).on RI.keeps BW)
      have HT := Lib.hid ((ht1.on RP.keeps hbw).on RP.keeps BW)
      have HX := Lib.hid hx
      have HB := Lib.hid (hbw.trans (BW.mono hsz))
      have hsz2 := HB.out.size
      have ww : wr.heap.size < (wr.alloc (.cells #[.int .i64 x.op, .int .i64 x.wish.kind, .int .i64 x.wish.field, .int .i64 x.wish.value, .slice A1 n1 c1, .slice E1 m1 d1] 55)).heap.size := by simp
      clear hx h hs ht1 hbw g0 g1 g2 g3 g4 g5 HL BW
      cases hin : P.inR x.op 0 4 with
      | false =>
        have HE : Hid (P.okE l = false) := P.dep_bad hdep.out HX.out (.inl (P.okN_op hin))
        go_wp2_with (first | (go_at_call 42; refine (within _ _ _ _).mono ?_; rintro e w9 ⟨rfl, rfl⟩; rw [hin]) | (go_at_call 62; refine (operands _ _).mono ?_; rintro e w9 ⟨rfl, rfl⟩))
        go_ret
        exact ⟨ret_bool HE.out.symm, HB.out⟩
      | true =>
        have hop2 : P.opnds x.op ≤ 2 := by unfold P.opnds; split <;> (try split) <;> omega
        by_cases hd : dp < P.opnds x.op
        · have q9 : ((dp : Int) < (P.opnds x.op : Int)) := by omega
          have HE : Hid (P.okE l = false) := P.dep_bad hdep.out HX.out (.inr hd)
          clear hd
          go_wp2_with (first | (go_at_call 42; refine (within _ _ _ _).mono ?_; rintro e w9 ⟨rfl, rfl⟩; rw [hin]) | (go_at_call 62; refine (operands _ _).mono ?_; rintro e w9 ⟨rfl, rfl⟩))
          go_ret
          exact ⟨ret_bool HE.out.symm, HB.out⟩
        · have q9 : ¬ ((dp : Int) < (P.opnds x.op : Int)) := by omega
          by_cases h0 : x.op = 0
          · have q0 : (x.op == 0) = true := by simpa using h0
            have q0' : (x.op != 0) = false := by simpa using h0
            cases hw : P.okW x.wish with
            | false =>
              have HE : Hid (P.okE l = false) := P.dep_bad hdep.out HX.out (.inl (by rw [P.okN_0 h0]; exact hw))
              clear h0 hd
              go_wp2_with (first | (go_at_call 42; refine (within _ _ _ _).mono ?_; rintro e w9 ⟨rfl, rfl⟩; rw [hin]) | (go_at_call 62; refine (operands _ _).mono ?_; rintro e w9 ⟨rfl, rfl⟩) | (go_at_call 63; refine (implIsWish (x := x.wish) _ HS.out HT.out).mono ?_; rintro e w2 ⟨rfl, b2⟩; rw [hw]))
              go_ret
              exact ⟨ret_bool HE.out.symm, HB.out.trans (b2.mono hsz2)⟩
            | true =>
              have HD := Lib.hid (P.dep_step hdep.out HX.out (by rw [P.okN_0 h0]; exact hw) (Nat.le_of_not_lt hd))
              have hdp := Nat.le_of_not_lt hd
              clear h0 hd
              go_wp2_with (first | (go_at_call 42; refine (within _ _ _ _).mono ?_; rintro e w9 ⟨rfl, rfl⟩; rw [hin]) | (go_at_call 62; refine (operands _ _).mono ?_; rintro e w9 ⟨rfl, rfl⟩) | (go_at_call 63; refine (implIsWish (x := x.wish) _ HS.out HT.out).mono ?_; rintro e w2 ⟨rfl, b2⟩; rw [hw]; have hC2 := cell_of b2; have z0 : wr.heap.size < w2.heap.size := Nat.lt_of_lt_of_le ww b2.size))
              go_roundw
              case rel => exact ⟨k + 1, _, by omega, by go_num, vint (by omega), by omega, HD, HB.out.trans (b2.mono hsz2)⟩
              case measure => simp [intOf]; omega
          · have q0 : (x.op == 0) = false := by simpa using h0
            have q0' : (x.op != 0) = true := by simpa using h0
            cases hw : decide (x.wish = ⟨0, 0, 0, [], []⟩) with
            | false =>
              have HE : Hid (P.okE l = false) := P.dep_bad hdep.out HX.out (.inl (by rw [P.okN_1 hin h0, P.noW_eq]; exact hw))
              clear h0 hd
              go_wp2_with (first | (go_at_call 42; refine (within _ _ _ _).mono ?_; rintro e w9 ⟨rfl, rfl⟩; rw [hin]) | (go_at_call 62; refine (operands _ _).mono ?_; rintro e w9 ⟨rfl, rfl⟩) | (go_at_call 64; refine (equalWish (x := x.wish) (y := ⟨0, 0, 0, [], []⟩) _ HS.out HT.out (Sl.nil _ _) (Sl.nil _ _)).mono ?_; rintro e w2 ⟨rfl, b2⟩; rw [hw]))
              go_ret
              exact ⟨ret_bool HE.out.symm, HB.out.trans (b2.mono hsz2)⟩
            | true =>
              have HD := Lib.hid (P.dep_step hdep.out HX.out (by rw [P.okN_1 hin h0, P.noW_eq]; exact hw) (Nat.le_of_not_lt hd))
              have hdp := Nat.le_of_not_lt hd
              clear h0 hd
              go_wp2_with (first | (go_at_call 42; refine (within _ _ _ _).mono ?_; rintro e w9 ⟨rfl, rfl⟩; rw [hin]) | (go_at_call 62; refine (operands _ _).mono ?_; rintro e w9 ⟨rfl, rfl⟩) | (go_at_call 64; refine (equalWish (x := x.wish) (y := ⟨0, 0, 0, [], []⟩) _ HS.out HT.out (Sl.nil _ _) (Sl.nil _ _)).mono ?_; rintro e w2 ⟨rfl, b2⟩; rw [hw]; have hC2 := cell_of b2; have z0 : wr.heap.size < w2.heap.size := Nat.lt_of_lt_of_le ww b2.size))
              go_roundw
              case rel => exact ⟨k + 1, _, by omega, by go_num, vint (by omega), by omega, HD, HB.out.trans (b2.mono hsz2)⟩
              case measure => simp [intOf]; omega
    · have HE := Lib.hid (P.dep_end hdep.out HL.out (by omega))
      have hkn : k = n := by omega
      clear h
      by_cases hd1 : (dp : Int) = 1
      · have q : ((dp : Int) == 1) = true := by simpa using hd1
        have HE2 : Hid (P.okE l = decide ((n : Int) ≤ 9)) := by show _ = _; rw [HE.out, hd1]; rfl
        clear hd1
        go_wp2
        go_ret
        exact ⟨ret_bool HE2.out.symm, hbw⟩
      · have q : ((dp : Int) == 1) = false := by simpa using hd1
        have HE2 : Hid (P.okE l = false) := by show _ = _; rw [HE.out]; simp; omega
        clear hd1
        go_wp2
        go_ret
        exact ⟨ret_bool HE2.out.symm, hbw⟩
end Go.Proofs.Ytgjghpaenliliaa.Wk

namespace Go.Proofs.Ytgjghpaenliliaa.P

theorem glueTo_sizeS {b : ByteArray} {l : List ByteArray} {B S : Nat} (hb : b.size ≤ B) (hl : ∀ x ∈ l, x.size ≤ S) : ∀ k, (glueTo b l k).size ≤ (S + B) * k
  | 0 => by simp [glueTo, ByteArray.size]
  | k + 1 => by
    have ih := glueTo_sizeS hb hl k
    have hx : (l.getD k ⟨#[]⟩).size ≤ S := by
      simp only [List.getD]
      cases e : l[k]? with
      | none => simp [ByteArray.size]
      | some x => exact hl x (List.mem_of_getElem? e)
    rw [glueTo, Nat.mul_succ]
    split <;> simp only [ByteArray.size_append] <;> omega
theorem glue_sizeS {b : ByteArray} {l : List ByteArray} {B S n : Nat} (hb : b.size ≤ B) (hl : ∀ x ∈ l, x.size ≤ S) (hn : l.length ≤ n) : (glue b l).size ≤ (S + B) * n :=
  Nat.le_trans (glueTo_sizeS hb hl _) (Nat.mul_le_mul_left _ hn)
end Go.Proofs.Ytgjghpaenliliaa.P

namespace Go.Proofs.Ytgjghpaenliliaa.Wk
open Go.RowKit Go.Proofs.Ytgjghpaenliliaa.M
set_option linter.unusedVariables false
attribute [local go_sem] cell_grow

theorem wishS_size {x : Wi} (h : FitW x) : (wishS x).size ≤ 4096 := by
  obtain ⟨_, f1, f2, f3, f4⟩ := h
  have s1 := fmtS_size f1
  have s2 := fmtS_size f2
  unfold wishS
  cases hok : P.okW x with
  | false => simp [ByteArray.size]
  | true =>
    have hl := P.okW_listlen hok
    have s3 : (numsS ⟨#[44]⟩ x.list).size ≤ 250 := by
      unfold numsS
      refine Nat.le_trans (P.glue_sizeS (B := 1) (S := 20) (n := 10) (by decide) (fun t ht => ?_) (by rw [List.length_map]; exact hl)) (by decide)
      obtain ⟨y, hy, rfl⟩ := List.mem_map.1 ht
      exact fmtS_size (f3 y hy)
    have s4 : (pairsS x.pairs).size ≤ 400 := by
      unfold pairsS
      split
      · rename_i hp
        split
        · decide
        · refine Nat.le_trans (P.glue_sizeS (B := 1) (S := 41) (n := 8) (by decide) (fun t ht => ?_) (by rw [List.length_map]; exact P.okP_len hp)) (by decide)
          obtain ⟨y, hy, rfl⟩ := List.mem_map.1 ht
          exact pairS_size (f4 y hy)
      · decide
    have a0 : (⟨#[108, 111, 119]⟩ : ByteArray).size = 3 := rfl
    have a1 : (⟨#[104, 105, 103, 104]⟩ : ByteArray).size = 4 := rfl
    have a2 : (⟨#[110, 101, 97, 114]⟩ : ByteArray).size = 4 := rfl
    have a3 : (⟨#[97, 109, 111, 110, 103]⟩ : ByteArray).size = 5 := rfl
    have a4 : (⟨#[111, 114, 100, 101, 114]⟩ : ByteArray).size = 5 := rfl
    have a5 : (⟨#[32, 102]⟩ : ByteArray).size = 2 := rfl
    have a6 : (⟨#[32]⟩ : ByteArray).size = 1 := rfl
    rw [if_pos rfl]
    repeat' split
    all_goals simp only [ByteArray.size_append]; omega
/-- An operator's word. -/
def wordS (op : Int) : ByteArray := if op = 1 then ⟨#[97, 110, 100]⟩ else if op = 2 then ⟨#[116, 104, 101, 110]⟩ else if op = 3 then ⟨#[110, 111, 116]⟩ else ⟨#[98, 111, 116, 104]⟩
theorem wordS_size (op : Int) : (wordS op).size ≤ 4 := by
  unfold wordS
  repeat' split
  all_goals decide
theorem wordS_at {k : Int} (h0 : 1 ≤ k) (h4 : k ≤ 4) : (#[Value.string ⟨#[97, 110, 100]⟩, .string ⟨#[116, 104, 101, 110]⟩, .string ⟨#[110, 111, 116]⟩, .string ⟨#[98, 111, 116, 104]⟩] : Array Value)[(k - 1).toNat]? = some (.string (wordS k)) := by
  rcases (by omega : k = 1 ∨ k = 2 ∨ k = 3 ∨ k = 4) with rfl | rfl | rfl | rfl <;> rfl
/-- A node as a text. -/
noncomputable def ndS (x : Nd) : ByteArray := if x.op = 0 then wishS x.wish else wordS x.op
theorem ndS_all {l : List Nd} (h : ∀ x ∈ l, FitN x) : ∀ t ∈ l.map ndS, t.size ≤ 4096 := by
  intro t ht
  obtain ⟨x, hx, rfl⟩ := List.mem_map.1 ht
  unfold ndS
  split
  · exact wishS_size (h x hx).2
  · have := wordS_size x.op; omega
/-- What FormatExpression writes. -/
noncomputable def exprS (l : List Nd) : ByteArray := if P.okE l then P.glue ⟨#[59, 32]⟩ (l.map ndS) else ⟨#[]⟩
theorem okE_op {l : List Nd} (h : P.okE l = true) {k : Nat} {x : Nd} (hx : l[k]? = some x) : 0 ≤ x.op ∧ x.op ≤ 4 := by
  have := (P.okE_at h hx).1
  unfold P.okN at this
  rw [Bool.and_eq_true] at this
  exact P.inR_t this.1
set_option maxHeartbeats 3200000 in
set_option maxRecDepth 100000 in
theorem l5Word (op : Int) (w : World) (h0 : 1 ≤ op) (h4 : op ≤ 4) : Calls Try.prog 26 #[.int .i64 op] w fun e w' => e = .returned (.string (wordS op)) ∧ Below w.heap.size w w' := by
  by_cases h1 : op = 1
  · subst h1
    go_enter Try.func26, Try.ntmps26
    go_wp2
    go_ret
    exact ⟨rfl, Below.refl _ _⟩
  · by_cases h2 : op = 2
    · subst h2
      go_enter Try.func26, Try.ntmps26
      go_wp2
      go_ret
      exact ⟨rfl, Below.refl _ _⟩
    · by_cases h3 : op = 3
      · subst h3
        go_enter Try.func26, Try.ntmps26
        go_wp2
        go_ret
        exact ⟨rfl, Below.refl _ _⟩
      · obtain rfl : op = 4 := by omega
        go_enter Try.func26, Try.ntmps26
        go_wp2
        go_ret
        exact ⟨rfl, Below.refl _ _⟩
set_option maxHeartbeats 3200000 in
set_option maxRecDepth 100000 in
theorem specFormatExpression {A : Option Addr} {n c : Nat} {l : List Nd} (w : World) (h : Sl RN 6 w w.heap.size A n c l) : Calls Try.prog 8 #[.slice A n c] w fun e w' => e = .returned (.string (exprS l)) ∧ Below w.heap.size w w' := by
  have HL := Lib.hid h.len
  have hle := h.le
  cases hok : P.okE l with
  | false =>
    have HE : Hid (exprS l = ⟨#[]⟩) := by show _ = _; unfold exprS; rw [hok]; rfl
    go_enter Try.func8, Try.ntmps8
    go_wp2_with (go_at_call 24; refine (specIsExpression _ h).mono ?_; rintro e w2 ⟨rfl, hb2⟩; rw [hok])
    go_ret
    exact ⟨ret_str HE.out.symm, hb2⟩
  | true =>
    have hn9 : n ≤ 9 := by have := (P.okE_len hok).1; have := HL.out; omega
    have HF := Lib.hid (ndS_all (fitNs h))
    have HK := Lib.hid hok
    have HE : Hid (exprS l = P.glue ⟨#[59, 32]⟩ (l.map ndS)) := by show _ = _; unfold exprS; rw [hok]; rfl
    go_enter Try.func8, Try.ntmps8
    go_wp2_with fail
    refine (specIsExpression _ h).mono ?_
    rintro e w2 ⟨rfl, hb2⟩
    rw [hok]
    clear hok
    go_wp2
    go_loopw [3, 4] (fun vs vk wr => ∃ k : Nat, k ≤ n ∧ vk = .int .i64 k ∧ vs = .string (P.glueTo ⟨#[59, 32]⟩ (l.map ndS) k) ∧ Below w.heap.size w wr) (fun _ vk _ => n - (intOf vk).toNat)
    case atStart => exact ⟨0, Nat.zero_le _, rfl, rfl, hb2⟩
    case round =>
      clear hb2
      obtain ⟨k, hk, rfl, rfl, hbw⟩ := hrel
      by_cases hlt : k < n
      · obtain ⟨b, o, x, A1, n1, c1, E1, m1, d1, rfl, hb, hx, hf, hs, ht1, g0, g1, g2, g3, g4, g5⟩ := nodeAt h hlt
        have hsz := hbw.size
        have i1 : b < wr.heap.size := by omega
        have q1 : (k : Int) < (n : Int) := by omega
        have hop := okE_op HK.out hx
        obtain ⟨f0, f1, f2, f3⟩ := hf
        have e0 := ((cell_of hbw) b (o + k * 6) hb).trans g0
        have e1 := ((cell_of hbw) b (o + k * 6 + 1) hb).trans g1
        have e2 := ((cell_of hbw) b (o + k * 6 + 2) hb).trans g2
        have e3 := ((cell_of hbw) b (o + k * 6 + 3) hb).trans g3
        have e4 := ((cell_of hbw) b (o + k * 6 + 4) hb).trans g4
        have e5 := ((cell_of hbw) b (o + k * 6 + 5) hb).trans g5
        have q2 : (n : Int) ≤ (c : Int) := by omega
        have s0 := P.glueTo_size (b := ⟨#[59, 32]⟩) (by decide) HF.out k
        have s3 : (⟨#[59, 32]⟩ : ByteArray).size = 2 := rfl
        have hx2 : (l.map ndS)[k]? = some (ndS x) := by rw [List.getElem?_map, hx]; rfl
        have sN : (ndS x).size ≤ 4096 := HF.out _ (List.mem_of_getElem? hx2)
        have HS := Lib.hid (hs.on RI.keeps hbw)
        have HT := Lib.hid (ht1.on RP.keeps hbw)
        by_cases hp0 : x.op = 0
        · have q0 : (x.op == 0) = true := by simpa using hp0
          have en : ndS x = wishS x.wish := by unfold ndS; rw [if_pos hp0]
          rw [en] at hx2 sN
          by_cases h0 : k = 0
          · have q : decide (0 < k) = false := by simp; omega
            have HG := Lib.hid (P.glueTo_one (b := ⟨#[59, 32]⟩) h0 hx2)
            clear hx hx2 h h0 g0 g1 g2 g3 g4 g5 hs ht1 hp0 en
            go_wp2_with (go_at_call 25; refine (specFormatWish (x := x.wish) _ HS.out HT.out f1 f2 f3).mono ?_; rintro e w3 ⟨rfl, hb3⟩)
            go_roundw
            case rel => exact ⟨k + 1, by omega, by go_num, vstr HG.out.symm, hbw.trans (hb3.mono hsz)⟩
            case measure => simp [intOf]; omega
          · have q : decide (0 < k) = true := by simp; omega
            have HG := Lib.hid (P.glueTo_more (b := ⟨#[59, 32]⟩) h0 hx2)
            clear hx hx2 h h0 g0 g1 g2 g3 g4 g5 hs ht1 hp0 en
            go_wp2_with (go_at_call 25; refine (specFormatWish (x := x.wish) _ HS.out HT.out f1 f2 f3).mono ?_; rintro e w3 ⟨rfl, hb3⟩)
            go_roundw
            case rel => exact ⟨k + 1, by omega, by go_num, vstr HG.out.symm, hbw.trans (hb3.mono hsz)⟩
            case measure => simp [intOf]; omega
        · have q0 : (x.op == 0) = false := by simpa using hp0
          have en : ndS x = wordS x.op := by unfold ndS; rw [if_neg hp0]
          rw [en] at hx2 sN
          have hp1 : 1 ≤ x.op := by omega
          have hp4 := hop.2
          by_cases h0 : k = 0
          · have q : decide (0 < k) = false := by simp; omega
            have HG := Lib.hid (P.glueTo_one (b := ⟨#[59, 32]⟩) h0 hx2)
            clear hx hx2 h h0 g0 g1 g2 g3 g4 g5 hs ht1 hp0 en
            go_wp2_with (go_at_call 26; refine (l5Word x.op _ hp1 hp4).mono ?_; rintro e w3 ⟨rfl, hb3⟩)
            go_roundw
            case rel => exact ⟨k + 1, by omega, by go_num, vstr HG.out.symm, hbw.trans (hb3.mono hsz)⟩
            case measure => simp [intOf]; omega
          · have q : decide (0 < k) = true := by simp; omega
            have HG := Lib.hid (P.glueTo_more (b := ⟨#[59, 32]⟩) h0 hx2)
            clear hx hx2 h h0 g0 g1 g2 g3 g4 g5 hs ht1 hp0 en
            go_wp2_with (go_at_call 26; refine (l5Word x.op _ hp1 hp4).mono ?_; rintro e w3 ⟨rfl, hb3⟩)
            go_roundw
            case rel => exact ⟨k + 1, by omega, by go_num, vstr HG.out.symm, hbw.trans (hb3.mono hsz)⟩
            case measure => simp [intOf]; omega
      · have HG := Lib.hid (P.glue_at (b := ⟨#[59, 32]⟩) (l := l.map ndS) (k := k) (n := n) (by rw [List.length_map, HL.out]) (by omega))
        clear h
        go_wp2
        go_ret
        exact ⟨ret_str (HE.out.trans HG.out).symm, hbw⟩
set_option maxHeartbeats 3200000 in
set_option maxRecDepth 100000 in
theorem implFormatExpression {A : Option Addr} {n c : Nat} {l : List Nd} (w : World) (h : Sl RN 6 w w.heap.size A n c l) : Calls Try.prog 10 #[.slice A n c] w fun e w' => e = .returned (.string (exprS l)) ∧ Below w.heap.size w w' := by
  have HL := Lib.hid h.len
  have hle := h.le
  obtain ⟨i0, hi, hz0, hz1, hz2⟩ := info_parts info_str
  cases hok : P.okE l with
  | false =>
    have HE : Hid (exprS l = ⟨#[]⟩) := by show _ = _; unfold exprS; rw [hok]; rfl
    go_enter Try.func10, Try.ntmps10
    go_wp2_with (go_at_call 28; refine (implIsExpression _ h).mono ?_; rintro e w2 ⟨rfl, hb2⟩; rw [hok])
    go_ret
    exact ⟨ret_str HE.out.symm, hb2⟩
  | true =>
    have hn9 : n ≤ 9 := by have := (P.okE_len hok).1; have := HL.out; omega
    have HF := Lib.hid (ndS_all (fitNs h))
    have HK := Lib.hid hok
    have HE : Hid (exprS l = P.glue ⟨#[59, 32]⟩ (l.map ndS)) := by show _ = _; unfold exprS; rw [hok]; rfl
    go_enter Try.func10, Try.ntmps10
    go_wp2_with fail
    refine (implIsExpression _ h).mono ?_
    rintro e w2 ⟨rfl, hb2⟩
    rw [hok]
    clear hok
    go_wp2
    go_loopw [3, 5, 12] (fun vo vb vk wr => ∃ k : Nat, k ≤ n ∧ vk = .int .i64 k ∧ wr.ownsRow w.heap.size 9 1 vo k (((l.map ndS).take k).map Value.string) ∧ Below w.heap.size w wr) (fun _ _ vk _ => n - (intOf vk).toNat)
    case atStart => exact ⟨0, Nat.zero_le _, rfl, own_mono (own_empty _ _) hb2.size, hb2.alloc hb2.size _⟩
    case round =>
      clear hb2
      obtain ⟨k, hk, rfl, hown, hbw⟩ := hrel
      by_cases hlt : k < n
      · obtain ⟨b, o, x, A1, n1, c1, E1, m1, d1, rfl, hb, hx, hf, hs, ht1, g0, g1, g2, g3, g4, g5⟩ := nodeAt h hlt
        have hsz := hbw.size
        have i1 : b < wr.heap.size := by omega
        have q1 : (k : Int) < (n : Int) := by omega
        have hop := okE_op HK.out hx
        obtain ⟨f0, f1, f2, f3⟩ := hf
        have e0 := ((cell_of hbw) b (o + k * 6) hb).trans g0
        have e1 := ((cell_of hbw) b (o + k * 6 + 1) hb).trans g1
        have e2 := ((cell_of hbw) b (o + k * 6 + 2) hb).trans g2
        have e3 := ((cell_of hbw) b (o + k * 6 + 3) hb).trans g3
        have e4 := ((cell_of hbw) b (o + k * 6 + 4) hb).trans g4
        have e5 := ((cell_of hbw) b (o + k * 6 + 5) hb).trans g5
        have hx2 : (l.map ndS)[k]? = some (ndS x) := by rw [List.getElem?_map, hx]; rfl
        have BW := (Below.refl wr.heap.size wr).alloc (Nat.le_refl _) (.cells #[.int .i64 x.op, .int .i64 x.wish.kind, .int .i64 x.wish.field, .int .i64 x.wish.value, .slice A1 n1 c1, .slice E1 m1 d1] 55)
        have HS := Lib.hid ((hs.on RI.keeps hbw).on RI.keeps BW)
        have HT := Lib.hid ((ht1.on RP.keeps hbw).on RP.keeps BW)
        have HO := Lib.hid (own_below hown BW)
        have HB := Lib.hid (hbw.trans (BW.mono hsz))
        have hsz2 := HB.out.size
        obtain ⟨A', c', rfl, _, _⟩ := own_form hown
        by_cases hp0 : x.op = 0
        · have q0 : (x.op == 0) = true := by simpa using hp0
          have en : ndS x = wishS x.wish := by unfold ndS; rw [if_pos hp0]
          rw [en] at hx2
          have HX := Lib.hid hx2
          clear hx hx2 h g0 g1 g2 g3 g4 g5 hs ht1 hp0 en hown hbw BW
          go_wp2_with fail
          refine (implFormatWish (x := x.wish) _ HS.out HT.out f1 f2 f3).mono ?_
          rintro e w8 ⟨rfl, hb8⟩
          have hown8 := own_below HO.out hb8
          have hbw8 := HB.out.trans (hb8.mono hsz2)
          have hsz8 := hbw8.size
          clear HO HB hb8
          go_wp2_with (at_builtin; refine wpList_append_own _ rfl _ _ 59 rfl w.heap.size 9 i0 (.string ⟨#[]⟩) 1 16 Try.underlying59 hi hz0 hz1 hz2 rfl (by decide) _ _ _ rfl (hown8.alloc _) ⟨w8.heap.size, 0, none⟩ 1 1 [_] rfl rfl (one_new _ _ _) (by simp [Value.oneCell']) (by unfold maxLen; omega) (by omega) (by simp; omega) ?_)
          intro v' w3 hown3 hgrow _
          have hbw3 := Lib.hid (app_below hbw8 hown8 hgrow)
          have hown4 : Hid (w3.ownsRow w.heap.size 9 1 v' (k + 1) (((l.map ndS).take (k + 1)).map Value.string)) := by
            refine Lib.hid ?_
            rw [← take_map_snoc HX.out]
            simpa using hown3
          clear hown3 hgrow hown8 hbw8
          go_wp2
          go_roundw
          case rel => exact ⟨k + 1, by omega, by go_num, hown4.out, hbw3.out⟩
          case measure => simp [intOf]; omega
        · have q0 : (x.op == 0) = false := by simpa using hp0
          have en : ndS x = wordS x.op := by unfold ndS; rw [if_neg hp0]
          rw [en] at hx2
          have hp1 : 1 ≤ x.op := by omega
          have HX := Lib.hid hx2
          clear hx hx2 h g0 g1 g2 g3 g4 g5 hs ht1 en hown hbw BW
          have hlit := wordS_at hp1 hop.2
          have hlit2 := hlit
          rw [List.getElem?_toArray] at hlit2
          have hlit3 : ∀ hh, ([Value.string ⟨#[97, 110, 100]⟩, .string ⟨#[116, 104, 101, 110]⟩, .string ⟨#[110, 111, 116]⟩, .string ⟨#[98, 111, 116, 104]⟩] : List Value)[(x.op - 1).toNat]'hh = .string (wordS x.op) := fun hh => by
            rw [List.getElem?_eq_getElem hh] at hlit2
            exact Option.some.inj hlit2
          have hlit5 := hlit2
          rw [show (x.op - 1).toNat = x.op.toNat - 1 by omega] at hlit5
          have hlit4 : ∀ hh, ([Value.string ⟨#[97, 110, 100]⟩, .string ⟨#[116, 104, 101, 110]⟩, .string ⟨#[110, 111, 116]⟩, .string ⟨#[98, 111, 116, 104]⟩] : List Value)[x.op.toNat - 1]'hh = .string (wordS x.op) := fun hh => by
            rw [List.getElem?_eq_getElem hh] at hlit5
            exact Option.some.inj hlit5
          have sw := wordS_size x.op
          have q7 : x.op - 1 < 4 := by have := hop.2; omega
          have q8 : 0 ≤ x.op - 1 := by omega
          have HO2 := Lib.hid (HO.out.alloc (.cells #[Value.string ⟨#[97, 110, 100]⟩, .string ⟨#[116, 104, 101, 110]⟩, .string ⟨#[110, 111, 116]⟩, .string ⟨#[98, 111, 116, 104]⟩] 9))
          have HB2 := Lib.hid (HB.out.alloc hsz2 (.cells #[Value.string ⟨#[97, 110, 100]⟩, .string ⟨#[116, 104, 101, 110]⟩, .string ⟨#[110, 111, 116]⟩, .string ⟨#[98, 111, 116, 104]⟩] 9))
          have hsz3 := HB2.out.size
          have hnew := one_new ((wr.alloc (.cells #[.int .i64 x.op, .int .i64 x.wish.kind, .int .i64 x.wish.field, .int .i64 x.wish.value, .slice A1 n1 c1, .slice E1 m1 d1] 55)).alloc (.cells #[Value.string ⟨#[97, 110, 100]⟩, .string ⟨#[116, 104, 101, 110]⟩, .string ⟨#[110, 111, 116]⟩, .string ⟨#[98, 111, 116, 104]⟩] 9)) (.string (wordS x.op)) 9
          rw [World.size_alloc, World.size_alloc] at hnew
          have hHO2 := HO2.out
          go_wp2_with (at_builtin; refine wpList_append_own _ rfl _ _ 59 rfl w.heap.size 9 i0 (.string ⟨#[]⟩) 1 16 Try.underlying59 hi hz0 hz1 hz2 rfl (by decide) _ _ _ rfl (hHO2.alloc _) ⟨wr.heap.size + 1 + 1, 0, none⟩ 1 1 [_] rfl rfl hnew (by simp [Value.oneCell']) (by unfold maxLen; omega) (by omega) (by simp; omega) ?_)
          intro v' w3 hown3 hgrow _
          have hbw3 := Lib.hid (app_below HB2.out HO2.out hgrow)
          have hown4 : Hid (w3.ownsRow w.heap.size 9 1 v' (k + 1) (((l.map ndS).take (k + 1)).map Value.string)) := by
            refine Lib.hid ?_
            rw [← take_map_snoc HX.out]
            simpa using hown3
          clear hown3 hgrow
          go_wp2
          go_roundw
          case rel => exact ⟨k + 1, by omega, by go_num, hown4.out, hbw3.out⟩
          case measure => simp [intOf]; omega
      · have hl : (l.map ndS).length = n := by rw [List.length_map, HL.out]
        have e : (l.map ndS).take k = l.map ndS := List.take_of_length_le (by omega)
        rw [e, show k = (l.map ndS).length by omega] at hown
        obtain ⟨A', n', c', e', hS⟩ := own_strs hown (fun x hx => by have := HF.out x hx; unfold maxLen; omega)
        subst e'
        have hn' : n' ≤ 1048576 := by have := hS.len; omega
        clear hl e hown h
        go_wp2_with fail
        refine (glued _ hS hn' (by decide) HF.out).mono ?_
        rintro e w2 ⟨rfl, hb2⟩
        clear hS
        go_wp2
        go_ret
        exact ⟨ret_str HE.out.symm, hbw.trans (hb2.mono hbw.size)⟩
end Go.Proofs.Ytgjghpaenliliaa.Wk

namespace Go.Proofs.Ytgjghpaenliliaa.Wk
open Go.RowKit Go.Proofs.Ytgjghpaenliliaa.M
set_option linter.unusedVariables false
set_option linter.unusedSimpArgs false

theorem app_no {a b : ByteArray} {c : UInt8} (ha : ∀ x ∈ a.data.toList, x ≠ c) (hb : ∀ x ∈ b.data.toList, x ≠ c) : ∀ x ∈ (a ++ b).data.toList, x ≠ c := by
  intro x hx
  rw [P.ba_app] at hx
  rcases List.mem_append.1 hx with hx | hx
  · exact ha x hx
  · exact hb x hx
theorem kindW_no59 (k : Int) : ∀ x ∈ (kindW k).data.toList, x ≠ 59 := by
  unfold kindW
  repeat' split
  all_goals (intro x hx; simp at hx; rcases hx with rfl | rfl | rfl | rfl | rfl <;> decide)
theorem pairsS_no59 (l : List (Int × Int)) : ∀ x ∈ (pairsS l).data.toList, x ≠ 59 := by
  intro x hx
  unfold pairsS at hx
  split at hx
  · split at hx
    · simp at hx
      rcases hx with rfl | rfl | rfl | rfl <;> decide
    · rcases glue_mem hx with hx | ⟨q, hq, hx⟩
      · simp at hx
        rw [hx]; decide
      · obtain ⟨p, _, rfl⟩ := List.mem_map.1 hq
        exact pairS_no p (by decide) (by decide) x hx
  · simp at hx
theorem wishS_no59 (x : Wi) : ∀ c ∈ (wishS x).data.toList, c ≠ 59 := by
  cases h : P.okW x with
  | false =>
    have : wishS x = ⟨#[]⟩ := by unfold wishS; rw [h]; rfl
    rw [this]; simp
  | true =>
    rw [wishS_eq h]
    refine app_no (app_no (app_no (kindW_no59 _) (by simp)) (fmtS_no (by decide))) ?_
    repeat' split
    all_goals first
      | (simp; done)
      | exact app_no (by simp) (fmtS_no (by decide))
      | exact app_no (by simp) (nums_no (by decide) (by decide))
      | exact app_no (by simp) (pairsS_no59 _)
theorem wordS_no (op : Int) : ∀ x ∈ (wordS op).data.toList, x ≠ 59 ∧ x ≠ 32 := by
  unfold wordS
  repeat' split
  all_goals (intro x hx; simp at hx; rcases hx with rfl | rfl | rfl | rfl <;> decide)
theorem ndS_no59 (x : Nd) : ∀ c ∈ (ndS x).data.toList, c ≠ 59 := by
  unfold ndS
  split
  · exact wishS_no59 _
  · exact fun c hc => (wordS_no _ c hc).1
theorem exprS_yes {l : List Nd} (h : P.okE l = true) : exprS l = P.glue ⟨#[59, 32]⟩ (l.map ndS) := by unfold exprS; rw [h]; rfl
theorem okE_ne {l : List Nd} (h : P.okE l = true) : l ≠ [] := by
  rintro rfl
  have := (P.okE_len h).2
  simp [P.depth] at this
/-- The program's cut. -/
theorem expr_cutI {l : List Nd} (h : P.okE l = true) : P.cut (exprS l) ⟨#[59, 32]⟩ = l.map ndS := by
  rw [exprS_yes h]
  refine P.cut_glue (b0 := 59) (bs := [32]) rfl (by simpa using okE_ne h) (fun q hq => ?_)
  obtain ⟨x, _, rfl⟩ := List.mem_map.1 hq
  exact ndS_no59 x
/-- A text behind a blank. -/
def blk (t : ByteArray) : ByteArray := ⟨#[32]⟩ ++ t
theorem blk_list (t : ByteArray) : (blk t).data.toList = 32 :: t.data.toList := by unfold blk; rw [P.ba_app]; rfl
/-- The reference's cut. -/
theorem expr_cutS {x : Nd} {l : List Nd} (h : P.okE (x :: l) = true) : P.cut (exprS (x :: l)) ⟨#[59]⟩ = ndS x :: l.map fun y => blk (ndS y) := by
  rw [exprS_yes h, List.map_cons]
  refine P.cut_join (b0 := 59) (bs := []) rfl ?_ (fun q hq => ?_)
  · rw [P.glue_list]
    show _ ++ P.tails [59, 32] _ = _
    rw [P.tails_two]
    congr 2
    rw [List.map_map, List.map_map, List.map_map]
    exact List.map_congr_left fun y _ => (blk_list (ndS y)).symm
  · rcases List.mem_cons.1 hq with rfl | hq
    · exact ndS_no59 x
    · obtain ⟨y, _, rfl⟩ := List.mem_map.1 hq
      intro c hc
      rw [blk_list] at hc
      rcases List.mem_cons.1 hc with rfl | hc
      · decide
      · exact ndS_no59 y c hc
/-- A part without its blank. -/
def strip (i : Nat) (t : ByteArray) : ByteArray := if 0 < i ∧ 0 < t.size then t.extract 1 t.size else t
theorem strip_blk {i : Nat} (t : ByteArray) : strip (i + 1) (blk t) = t := by
  have hs : (blk t).size = t.size + 1 := by rw [P.size_list, blk_list]; rfl
  unfold strip
  rw [if_pos ⟨Nat.succ_pos _, by omega⟩]
  apply P.ba_ext
  exact P.ex_mid (a := [32]) (b := t.data.toList) (c := []) (by rw [blk_list]; simp) rfl (by rw [hs, P.size_list]; simp; omega)
/-- The operator's number. -/
def opW (t : ByteArray) : Int := if t = wordS 1 then 1 else if t = wordS 2 then 2 else if t = wordS 3 then 3 else if t = wordS 4 then 4 else 0
theorem opW_word {k : Int} (h : 1 ≤ k ∧ k ≤ 4) : opW (wordS k) = k := by
  rcases (by omega : k = 1 ∨ k = 2 ∨ k = 3 ∨ k = 4) with rfl | rfl | rfl | rfl
  · unfold opW; rw [if_pos rfl]
  · unfold opW; rw [if_neg (by decide), if_pos rfl]
  · unfold opW; rw [if_neg (by decide), if_neg (by decide), if_pos rfl]
  · unfold opW; rw [if_neg (by decide), if_neg (by decide), if_neg (by decide), if_pos rfl]
theorem opW_bd (t : ByteArray) : 0 ≤ opW t ∧ opW t ≤ 4 := by
  unfold opW
  repeat' split
  all_goals omega
theorem wish_word {x : Wi} (h : P.okW x = true) (k : Int) : wishS x ≠ wordS k := by
  intro e
  have hc := wish_cut h
  rw [e] at hc
  have h1 : P.cut (wordS k) ⟨#[32]⟩ = [wordS k] := P.cut_join (b0 := 32) (bs := []) (p := wordS k) (ps := []) rfl (by simp [P.tails]) (fun q hq => by simp at hq; subst hq; exact fun c hc => (wordS_no k c hc).2)
  rw [h1] at hc
  simp at hc
theorem opW_wish {x : Wi} (h : P.okW x = true) : opW (wishS x) = 0 := by
  unfold opW
  rw [if_neg (wish_word h 1), if_neg (wish_word h 2), if_neg (wish_word h 3), if_neg (wish_word h 4)]
/-- What the program makes of a part. -/
noncomputable def ndPI (t : ByteArray) : Nd := ⟨opW t, if opW t = 0 then parW t else zeroW⟩
/-- What the reference makes of a part. -/
noncomputable def ndPS (t : ByteArray) : Nd := if opW t = 0 then (if parWB t then ⟨0, parW t⟩ else ⟨-1, zeroW⟩) else ⟨opW t, zeroW⟩
theorem okN_cases {x : Nd} (h : P.okN x = true) : (x.op = 0 ∧ P.okW x.wish = true) ∨ ((1 ≤ x.op ∧ x.op ≤ 4) ∧ x.wish = zeroW) := by
  unfold P.okN at h
  rw [Bool.and_eq_true] at h
  obtain ⟨h1, h2⟩ := h
  have := P.inR_t h1
  by_cases h0 : x.op = 0
  · rw [if_pos h0] at h2
    exact .inl ⟨h0, h2⟩
  · rw [if_neg h0, P.noW_eq] at h2
    exact .inr ⟨by omega, by unfold zeroW; simpa using h2⟩
theorem nd_ext {x y : Nd} (h1 : x.op = y.op) (h2 : x.wish = y.wish) : x = y := by cases x; cases y; simp_all
theorem ndPI_back {x : Nd} (h : P.okN x = true) : ndPI (ndS x) = x := by
  rcases okN_cases h with ⟨h0, hw⟩ | ⟨hb, hw⟩
  · unfold ndS ndPI
    rw [if_pos h0, opW_wish hw, if_pos rfl, (parW_yes hw rfl).1]
    exact nd_ext h0.symm rfl
  · have h0 : ¬ x.op = 0 := by omega
    have e : ndS x = wordS x.op := by unfold ndS; rw [if_neg h0]
    unfold ndPI
    rw [e, opW_word hb, if_neg h0]
    exact nd_ext rfl hw.symm
theorem ndPS_back {x : Nd} (h : P.okN x = true) : ndPS (ndS x) = x := by
  rcases okN_cases h with ⟨h0, hw⟩ | ⟨hb, hw⟩
  · unfold ndS ndPS
    rw [if_pos h0, opW_wish hw, if_pos rfl, (parW_yes hw rfl).1, (parW_yes hw rfl).2]
    exact nd_ext h0.symm rfl
  · have h0 : ¬ x.op = 0 := by omega
    have e : ndS x = wordS x.op := by unfold ndS; rw [if_neg h0]
    unfold ndPS
    rw [e, opW_word hb, if_neg h0]
    exact nd_ext rfl hw.symm
theorem okE_all {l : List Nd} (h : P.okE l = true) : ∀ x ∈ l, P.okN x = true := by
  intro x hx
  obtain ⟨i, hi⟩ := List.getElem?_of_mem hx
  exact (P.okE_at h hi).1
noncomputable def rdEI (s : ByteArray) : List Nd := (P.cut s ⟨#[59, 32]⟩).map ndPI
/-- The reference's nodes, part by part. -/
noncomputable def rdES (s : ByteArray) : List Nd := (P.cut s ⟨#[59]⟩).mapIdx fun i t => ndPS (strip i t)
theorem rdEI_back {l : List Nd} (h : P.okE l = true) : rdEI (exprS l) = l := by
  unfold rdEI
  rw [expr_cutI h, List.map_map]
  conv => rhs; rw [← List.map_id l]
  exact List.map_congr_left fun x hx => ndPI_back (okE_all h x hx)
theorem rdES_back {l : List Nd} (h : P.okE l = true) : rdES (exprS l) = l := by
  match l, h with
  | x :: l, h =>
    unfold rdES
    rw [expr_cutS h]
    apply List.ext_getElem?
    intro i
    rw [List.getElem?_mapIdx]
    cases i with
    | zero =>
      simp only [List.getElem?_cons_zero, Option.map_some]
      have e : strip 0 (ndS x) = ndS x := by unfold strip; rw [if_neg (by omega)]
      rw [e, ndPS_back (okE_all h x (by simp))]
    | succ i =>
      simp only [List.getElem?_cons_succ, List.getElem?_map]
      cases hi : l[i]? with
      | none => rfl
      | some y =>
        simp only [Option.map_some]
        rw [strip_blk, ndPS_back (okE_all h y (by simp [List.mem_of_getElem? hi]))]
  | [], h => exact absurd rfl (okE_ne h)
theorem expr_inj {l m : List Nd} (hl : P.okE l = true) (hm : P.okE m = true) (h : exprS l = exprS m) : l = m := by
  rw [← rdEI_back hl, h, rdEI_back hm]
open Classical in
/-- The expression that is written so. -/
noncomputable def parE (s : ByteArray) : List Nd := if h : ∃ l, P.okE l = true ∧ exprS l = s then h.choose else []
open Classical in
noncomputable def parEB (s : ByteArray) : Bool := decide (∃ l, P.okE l = true ∧ exprS l = s)
theorem exprS_ok {l : List Nd} (h : exprS l ≠ ⟨#[]⟩) : P.okE l = true := by
  cases e : P.okE l with
  | true => rfl
  | false => exact absurd (by unfold exprS; rw [e]; rfl) h
theorem parE_yes {l : List Nd} {s : ByteArray} (hx : P.okE l = true) (h : exprS l = s) : parE s = l ∧ parEB s = true := by
  have he : ∃ x, P.okE x = true ∧ exprS x = s := ⟨l, hx, h⟩
  unfold parE parEB
  rw [dif_pos he]
  refine ⟨expr_inj he.choose_spec.1 hx (he.choose_spec.2.trans h.symm), ?_⟩
  simp only [decide_eq_true_eq]
  exact he
theorem parE_no {s : ByteArray} (h : ∀ l, P.okE l = true → exprS l ≠ s) : parE s = [] ∧ parEB s = false := by
  have he : ¬ ∃ l, P.okE l = true ∧ exprS l = s := fun ⟨x, h1, h2⟩ => h x h1 h2
  unfold parE parEB
  rw [dif_neg he]
  exact ⟨rfl, by simp only [decide_eq_false_iff_not]; exact he⟩
theorem ndS_pos {x : Nd} (h : P.okN x = true) : ndS x ≠ ⟨#[]⟩ := by
  intro e
  rcases okN_cases h with ⟨h0, hw⟩ | ⟨hb, hw⟩
  · unfold ndS at e
    rw [if_pos h0] at e
    have hc := wish_cut hw
    rw [e, cut_nil (by decide)] at hc
    simp at hc
  · unfold ndS at e
    rw [if_neg (by omega)] at e
    unfold wordS at e
    repeat' split at e
    all_goals (injection e with e; simp at e)
theorem exprS_pos {l : List Nd} (h : P.okE l = true) : exprS l ≠ ⟨#[]⟩ := by
  intro e
  have hc := expr_cutI h
  rw [e, cut_nil (by decide)] at hc
  match l, h with
  | [], h => exact okE_ne h rfl
  | x :: t, h =>
    simp only [List.map_cons, List.cons.injEq] at hc
    exact ndS_pos (okE_all h x (by simp)) hc.1.symm
theorem parE_end {s : ByteArray} {y : List Nd} (hb : ∀ l, P.okE l = true → exprS l = s → y = l) : (s ≠ ⟨#[]⟩ → exprS y = s → parE s = y ∧ parEB s = true) ∧ ((s = ⟨#[]⟩ ∨ exprS y ≠ s) → parE s = [] ∧ parEB s = false) := by
  refine ⟨fun h0 e => parE_yes (exprS_ok (by rw [e]; exact h0)) e, fun h => parE_no fun l hl e => ?_⟩
  rcases h with h | h
  · exact exprS_pos hl (e.trans h)
  · exact h (by rw [hb l hl e]; exact e)
theorem parE_endI (s : ByteArray) : (s ≠ ⟨#[]⟩ → exprS (rdEI s) = s → parE s = rdEI s ∧ parEB s = true) ∧ ((s = ⟨#[]⟩ ∨ exprS (rdEI s) ≠ s) → parE s = [] ∧ parEB s = false) :=
  parE_end fun l hl e => by rw [← e, rdEI_back hl]
theorem parE_endS (s : ByteArray) : (s ≠ ⟨#[]⟩ → exprS (rdES s) = s → parE s = rdES s ∧ parEB s = true) ∧ ((s = ⟨#[]⟩ ∨ exprS (rdES s) ≠ s) → parE s = [] ∧ parEB s = false) :=
  parE_end fun l hl e => by rw [← e, rdES_back hl]
theorem fitW_zero : FitW zeroW := ⟨by unfold Fit zeroW; simp, by unfold Fit zeroW; simp, by unfold Fit zeroW; simp, by simp [zeroW], by simp [zeroW]⟩
theorem ndPI_fit (t : ByteArray) : FitN (ndPI t) := by
  have := opW_bd t
  refine ⟨by unfold Fit ndPI; simp only; omega, ?_⟩
  unfold ndPI
  simp only
  split
  · exact parW_fit t
  · exact fitW_zero
theorem ndPS_fit (t : ByteArray) : FitN (ndPS t) := by
  have := opW_bd t
  unfold ndPS
  split
  · split
    · exact ⟨by unfold Fit; simp, parW_fit t⟩
    · exact ⟨by unfold Fit; simp, fitW_zero⟩
  · exact ⟨by unfold Fit; simp only; omega, fitW_zero⟩
theorem rdEI_fit (s : ByteArray) : ∀ x ∈ rdEI s, FitN x := by
  intro x hx
  obtain ⟨t, _, rfl⟩ := List.mem_map.1 hx
  exact ndPI_fit t
theorem rdES_at {s : ByteArray} {k : Nat} {t : ByteArray} (h : (P.cut s ⟨#[59]⟩)[k]? = some t) : (rdES s)[k]? = some (ndPS (strip k t)) := by
  unfold rdES; rw [List.getElem?_mapIdx, h]; rfl
theorem rdES_len (s : ByteArray) : (rdES s).length = (P.cut s ⟨#[59]⟩).length := by unfold rdES; rw [List.length_mapIdx]
theorem rdES_fit (s : ByteArray) : ∀ x ∈ rdES s, FitN x := by
  intro x hx
  obtain ⟨k, hk⟩ := List.getElem?_of_mem hx
  have hlt : k < (P.cut s ⟨#[59]⟩).length := by have := (List.getElem?_eq_some_iff.1 hk).1; rwa [rdES_len] at this
  rw [rdES_at (List.getElem?_eq_getElem hlt)] at hk
  injection hk with hk
  rw [← hk]
  exact ndPS_fit _
theorem rdEI_at {s : ByteArray} {k : Nat} {t : ByteArray} (h : (P.cut s ⟨#[59, 32]⟩)[k]? = some t) : (rdEI s)[k]? = some (ndPI t) := by
  unfold rdEI; rw [List.getElem?_map, h]; rfl
theorem rdEI_len (s : ByteArray) : (rdEI s).length = (P.cut s ⟨#[59, 32]⟩).length := by unfold rdEI; rw [List.length_map]
theorem parE_ok (s : ByteArray) : parE s = [] ∨ P.okE (parE s) = true := by
  by_cases h : ∃ l, P.okE l = true ∧ exprS l = s
  · obtain ⟨l, hl, he⟩ := h
    rw [(parE_yes hl he).1]
    exact .inr hl
  · exact .inl (parE_no fun l hl e => h ⟨l, hl, e⟩).1
theorem okN_fit {x : Nd} (h : P.okN x = true) : FitN x := by
  rcases okN_cases h with ⟨h0, hw⟩ | ⟨hb, hw⟩
  · refine ⟨by rw [h0]; unfold Fit; simp, ?_⟩
    rw [← (parW_yes hw rfl).1]
    exact parW_fit _
  · refine ⟨by unfold Fit; omega, ?_⟩
    rw [hw]; exact fitW_zero
theorem parE_fit (s : ByteArray) : ∀ x ∈ parE s, FitN x := by
  rcases parE_ok s with h | h
  · rw [h]; simp
  · exact fun x hx => okN_fit (okE_all h x hx)
end Go.Proofs.Ytgjghpaenliliaa.Wk

namespace Go.Proofs.Ytgjghpaenliliaa.Wk
open Go.RowKit Go.Proofs.Ytgjghpaenliliaa.M
set_option linter.unusedVariables false

/-! ### marks of nodes -/
def cnt1 (x : Nd) : Nat := 4 + x.wish.list.length + 2 * x.wish.pairs.length
def cntN : List Nd → Nat
  | [] => 0
  | x :: t => cnt1 x + cntN t
def mkNd (k : Int) (x : Nd) : Nd := ⟨k, ⟨k + 1, k + 2, k + 3, allI x.wish.list.length (k + 4), allP x.wish.pairs.length (k + 4 + x.wish.list.length)⟩⟩
def allN : List Nd → Int → List Nd
  | [], _ => []
  | x :: t, k => mkNd k x :: allN t (k + cnt1 x)
theorem allN_len : ∀ (l : List Nd) (k : Int), (allN l k).length = l.length
  | [], _ => rfl
  | x :: t, k => by rw [allN, List.length_cons, allN_len t, List.length_cons]
theorem cntN_app : ∀ (l m : List Nd), cntN (l ++ m) = cntN l + cntN m
  | [], m => by simp [cntN]
  | x :: t, m => by simp only [List.cons_append, cntN, cntN_app t m]; omega
theorem cntN_succ {l : List Nd} {i : Nat} {x : Nd} (h : l[i]? = some x) : cntN (l.take (i + 1)) = cntN (l.take i) + cnt1 x := by
  obtain ⟨hl, e⟩ := List.getElem?_eq_some_iff.1 h
  rw [List.take_succ_eq_append_getElem hl, e, cntN_app]; rfl
theorem cntN_le (l : List Nd) (i : Nat) : cntN (l.take i) ≤ cntN l := by
  have := cntN_app (l.take i) (l.drop i)
  rw [List.take_append_drop] at this; omega
theorem allN_at : ∀ {l : List Nd} {k : Int} {i : Nat} {x : Nd}, l[i]? = some x → (allN l k)[i]? = some (mkNd (k + cntN (l.take i)) x)
  | [], _, _, _, h => by simp at h
  | y :: t, k, 0, x, h => by
    simp at h; subst h
    simp [allN, cntN]
  | y :: t, k, i + 1, x, h => by
    rw [allN, List.getElem?_cons_succ, allN_at (by simpa using h), List.take_succ_cons, cntN]
    have : k + (cnt1 y : Int) + (cntN (List.take i t) : Int) = k + ((cnt1 y + cntN (List.take i t) : Nat) : Int) := by omega
    rw [this]
theorem fit_allN : ∀ {l : List Nd} {k : Int}, 0 ≤ k → k + cntN l ≤ 4611686018427387904 → ∀ x ∈ allN l k, FitN x
  | [], _, _, _, x, hx => by simp [allN] at hx
  | y :: t, k, h0, h1, x, hx => by
    have hc : cntN (y :: t) = cnt1 y + cntN t := rfl
    rw [hc] at h1
    have hcy : cnt1 y = 4 + y.wish.list.length + 2 * y.wish.pairs.length := rfl
    rw [allN] at hx
    rcases List.mem_cons.1 hx with rfl | hx
    · refine ⟨by unfold Fit mkNd; simp only; omega, by unfold Fit mkNd; simp only; omega, by unfold Fit mkNd; simp only; omega, by unfold Fit mkNd; simp only; omega, ?_, ?_⟩
      · exact fit_allI (by omega) (by omega)
      · exact fit_allP (by omega) (by omega)
    · exact fit_allN (by omega) (by omega) x hx
/-- Rows that share no block: what turns one of them leaves the others. -/
theorem far_ne {vs : List Value} (h : vs.Pairwise Far) {i j : Nat} {a b : Value} (hij : i ≠ j) (ha : vs[i]? = some a) (hb : vs[j]? = some b) : ∀ g, b.ownBlock = some g → ¬ (a.ownBlock = some g) := by
  intro g hg hh
  obtain ⟨hi, e1⟩ := List.getElem?_eq_some_iff.1 ha
  obtain ⟨hj, e2⟩ := List.getElem?_eq_some_iff.1 hb
  rw [List.pairwise_iff_getElem] at h
  rcases Nat.lt_or_ge i j with hlt | hge
  · rcases h i j hi hj hlt with h1 | h1
    · rw [e1, hh] at h1; cases h1
    · exact h1 (by rw [e1, e2, hh, hg])
  · rcases h j i hj hi (by omega) with h1 | h1
    · rw [e2, hg] at h1; cases h1
    · exact h1 (by rw [e1, e2, hh, hg])
theorem ndv_at : ∀ {ps : List NdC} {j : Nat} {p : NdC}, ps[j]? = some p → (ndv ps)[2 * j]? = some p.2.1 ∧ (ndv ps)[2 * j + 1]? = some p.2.2
  | [], _, _, h => by simp at h
  | q :: t, 0, p, h => by simp at h; subst h; simp [ndv]
  | q :: t, j + 1, p, h => by
    obtain ⟨h1, h2⟩ := ndv_at (ps := t) (j := j) (p := p) (by simpa using h)
    have e : ndv (q :: t) = q.2.1 :: q.2.2 :: ndv t := rfl
    rw [e, show 2 * (j + 1) = 2 * j + 1 + 1 by omega, List.getElem?_cons_succ, List.getElem?_cons_succ, List.getElem?_cons_succ, List.getElem?_cons_succ]
    exact ⟨h1, h2⟩
theorem ndc_set_app (ps : List NdC) (cs : List Value) {k : Nat} (p : NdC) (h : k < ps.length) (hq : ∀ q, ps[k]? = some q → q.2 = p.2) :
    (((((ndc ps ++ cs).set (k * 6) (.int .i64 p.1.op)).set (k * 6 + 1) (.int .i64 p.1.wish.kind)).set (k * 6 + 2) (.int .i64 p.1.wish.field)).set (k * 6 + 3) (.int .i64 p.1.wish.value)) = ndc (ps.set k p) ++ cs := by
  have hl := ndc_len ps
  have h0 := ndc_set ps k p
  obtain ⟨q, hq1⟩ : ∃ q, ps[k]? = some q := ⟨_, List.getElem?_eq_getElem h⟩
  have h2 := hq q hq1
  obtain ⟨_, _, _, _, a4, a5⟩ := ndc_at ps k q hq1
  rw [set_app (by omega), set_app (by simp only [List.length_set]; omega), set_app (by simp only [List.length_set]; omega), set_app (by simp only [List.length_set]; omega)]
  congr 1
  rw [← h0]
  have s4 : ∀ (L : List Value), L[k * 6 + 4]? = some p.2.1 → L.set (k * 6 + 4) p.2.1 = L := fun L hL => by
    apply List.ext_getElem?
    intro t
    rw [List.getElem?_set]
    by_cases e : k * 6 + 4 = t
    · subst e
      rw [if_pos rfl, if_pos (List.getElem?_eq_some_iff.1 hL).1, hL]
    · rw [if_neg e]
  have s5 : ∀ (L : List Value), L[k * 6 + 5]? = some p.2.2 → L.set (k * 6 + 5) p.2.2 = L := fun L hL => by
    apply List.ext_getElem?
    intro t
    rw [List.getElem?_set]
    by_cases e : k * 6 + 5 = t
    · subst e
      rw [if_pos rfl, if_pos (List.getElem?_eq_some_iff.1 hL).1, hL]
    · rw [if_neg e]
  rw [s4 _ (by
    rw [List.getElem?_set_ne (by omega), List.getElem?_set_ne (by omega), List.getElem?_set_ne (by omega), List.getElem?_set_ne (by omega), a4, h2]), s5 _ (by
    rw [List.getElem?_set_ne (by omega), List.getElem?_set_ne (by omega), List.getElem?_set_ne (by omega), List.getElem?_set_ne (by omega), a5, h2])]
def OwnNd (w : World) (lo hi : Nat) (v : Value) (l : List Nd) : Prop :=
  ∃ ps : List NdC, ps.map (·.1) = l ∧ (∀ p ∈ ps, OwnW w lo 3 92 p.1.wish p.2.1 p.2.2 ∧ Und p.2.1 hi ∧ Und p.2.2 hi) ∧ (ndv ps).Pairwise Far ∧ w.ownsRow lo 55 6 v l.length (ndc ps) ∧ Und v hi ∧ ∀ u ∈ ndv ps, Far u v
def RetNd (w : World) (l : List Nd) (e : Ending) (w' : World) : Prop := ∃ v, e = .returned v ∧ OwnNd w' w.heap.size w'.heap.size v l ∧ Below w.heap.size w w'
section
variable {w w' : World} {lo hi lo' hi' : Nat} {v : Value} {l : List Nd}
theorem OwnNd.of (h : OwnN w lo 55 3 92 v l) : OwnNd w lo w.heap.size v l := by
  obtain ⟨ps, h1, h2, h3, h4⟩ := h
  exact ⟨ps, h1, fun p hp => ⟨h2.each p hp, own_und (h2.each p hp).1, own_und (h2.each p hp).2.1⟩, h2.apart, h3, own_und h3, h4⟩
theorem OwnNd.below (h : OwnNd w lo hi v l) (hb : Below w.heap.size w w') : OwnNd w' lo hi v l := by
  obtain ⟨ps, h1, h2, h3, h4, h5, h6⟩ := h
  exact ⟨ps, h1, fun p hp => ⟨(h2 p hp).1.below hb, (h2 p hp).2⟩, h3, own_below h4 hb, h5, h6⟩
theorem OwnNd.rng (h : OwnNd w lo hi v l) (hc : Chg (Rng lo' hi') w w') (hd : hi' ≤ lo ∨ hi ≤ lo') : OwnNd w' lo hi v l := by
  obtain ⟨ps, h1, h2, h3, h4, h5, h6⟩ := h
  exact ⟨ps, h1, fun p hp => ⟨⟨own_rng (h2 p hp).1.1 (h2 p hp).2.1 hc hd, own_rng (h2 p hp).1.2.1 (h2 p hp).2.2 hc hd, (h2 p hp).1.2.2⟩, (h2 p hp).2⟩, h3, own_rng h4 h5 hc hd, h5, h6⟩
theorem OwnNd.ownN (h : OwnNd w lo hi v l) : OwnN w lo 55 3 92 v l := by
  obtain ⟨ps, h1, h2, h3, h4, h5, h6⟩ := h
  exact ⟨ps, h1, ⟨fun p hp => (h2 p hp).1, h3⟩, h4, h6⟩
theorem OwnNd.read (h : OwnNd w lo hi v l) (hf : ∀ x ∈ l, FitN x) : V RN 6 w w.heap.size v l := h.ownN.read hf
end
theorem fitNsV {w : World} {B : Nat} {v : Value} {l : List Nd} (h : V RN 6 w B v l) : ∀ x ∈ l, FitN x := by
  obtain ⟨A, n, c, rfl, hs⟩ := h
  exact fitNs hs
theorem toO_nodes {v : Value} {l : List Nd} (w : World) (h : V RN 6 w w.heap.size v l) (ht : totN l ≤ 1048576) : Calls Try.prog 9 #[v] w (RetNd w l) := by
  obtain ⟨A, n, c, rfl, hs⟩ := h
  exact (toNodeS w hs ht).mono fun e w' ⟨v, he, ho, hb⟩ => ⟨v, he, OwnNd.of ho, hb⟩
theorem szV_nodes {v : Value} {l : List Nd} {left : Int} (w : World) (h : V RN 6 w w.heap.size v l) (h0 : 0 ≤ left) (h1 : left ≤ 1048576) :
    Calls Try.prog 7 #[v, .int .i64 left] w fun e w' => e = .returned (.int .i64 (less left (totN l))) ∧ Below w.heap.size w w' := by
  obtain ⟨A, n, c, rfl, hs⟩ := h
  exact sz_nodes w hs h0 h1
theorem eqO_nodes {lo hi B : Nat} {v u : Value} {l : List Nd} (w : World) (h : OwnNd w lo hi v l) (hf : ∀ x ∈ l, FitN x) (h' : V RN 6 w B u l) (hB : B ≤ w.heap.size) :
    Calls Try.prog 11 #[v, u] w fun e w' => e = .returned (.bool true) ∧ Below w.heap.size w w' := by
  obtain ⟨A, n, c, rfl, hs⟩ := h.read hf
  obtain ⟨A', n', c', rfl, hs'⟩ := h'
  exact eq_nodes w hs (hs'.more RN.keeps hB)
set_option maxHeartbeats 1600000 in
set_option maxRecDepth 100000 in
theorem heldNodeS {B : Nat} {A : Option Addr} {n c : Nat} {l : List Nd} {k : Int} (w : World) (h : Sl RN 6 w B A n c (allN l k)) (h0 : 0 ≤ k) (h1 : k + cntN l ≤ 4611686018427387904) :
    Calls Try.prog 20 #[.slice A n c, .int .i64 k] w fun e w' => e = .returned (.int .i64 (k + cntN l)) ∧ w = w' := by
  have mx := Nat.le_trans h.le h.max
  unfold maxLen at mx
  have HLN : Hid (l.length = n) := by have := h.len; rw [allN_len] at this; exact this
  have HC := Lib.hid (cntN_le l)
  go_enter Try.func20, Try.ntmps20
  go_wp2
  go_loop [1, 5] (fun vk vi => ∃ i : Nat, i ≤ n ∧ vi = .int .i64 i ∧ vk = .int .i64 (k + cntN (l.take i))) (fun _ vi => n - (intOf vi).toNat)
  case atStart => exact ⟨0, Nat.zero_le _, rfl, vint (by simp [cntN])⟩
  case round =>
    obtain ⟨i, hi, rfl, rfl⟩ := hrel
    by_cases hlt : i < n
    · obtain ⟨y, hy⟩ : ∃ y, l[i]? = some y := ⟨_, List.getElem?_eq_getElem (by have := HLN.out; omega)⟩
      have HS := Lib.hid (cntN_succ hy)
      have hle := HC.out (i + 1)
      have hcy : cnt1 y = 4 + y.wish.list.length + 2 * y.wish.pairs.length := rfl
      obtain ⟨b, o, x, A1, n1, c1, E1, m1, d1, rfl, hb, hx, hf, hs, ht1, g0, g1, g2, g3, g4, g5⟩ := nodeAt h hlt
      rw [allN_at hy] at hx
      injection hx with hx
      subst hx
      obtain ⟨kk, hkk⟩ : ∃ kk : Int, k + (cntN (l.take i) : Int) = kk := ⟨_, rfl⟩
      rw [hkk] at g0 g1 g2 g3 hs ht1
      simp only [mkNd] at g0 g1 g2 g3 hs ht1
      have n1e : y.wish.list.length = n1 := by have := hs.len; rwa [allI_len] at this
      have m1e : y.wish.pairs.length = m1 := by have := ht1.len; rwa [allP_len] at this
      rw [n1e] at hs ht1 hcy
      rw [m1e] at ht1 hcy
      have hk0 : 0 ≤ kk := by omega
      have hsc := HS.out
      have hk1 : kk + 4 + n1 + 2 * m1 ≤ 4611686018427387904 := by omega
      have p0 : (kk != kk) = false := by simp
      have p1 : (kk + 1 != kk + 1) = false := by simp
      have p2 : (kk + 2 != kk + 2) = false := by simp
      have p3 : (kk + 3 != kk + 3) = false := by simp
      have a1 : kk + 1 + 1 = kk + 2 := by omega
      have a2 : kk + 2 + 1 = kk + 3 := by omega
      have a3 : kk + 3 + 1 = kk + 4 := by omega
      have g2' : w.cell? ⟨b, o + i * 6 + 1 + 1, none⟩ = some (.int .i64 (kk + 2)) := g2
      have g3' : w.cell? ⟨b, o + i * 6 + 1 + 2, none⟩ = some (.int .i64 (kk + 3)) := g3
      have g4' : w.cell? ⟨b, o + i * 6 + 1 + 3, none⟩ = some (.slice A1 n1 c1) := g4
      have g5' : w.cell? ⟨b, o + i * 6 + 1 + 4, none⟩ = some (.slice E1 m1 d1) := g5
      have HI := Lib.hid hs
      have HP := Lib.hid ht1
      have r1 : ¬ (kk + 4 + (n1 : Int) < 0) := by omega
      have r2 : ¬ (kk + 4 + (n1 : Int) + 2 * (m1 : Int) < 0) := by omega
      have r3 : kk + 4 + (n1 : Int) + 2 * (m1 : Int) = k + (cntN (l.take (i + 1)) : Int) := by omega
      have R3 := Lib.hid r3
      clear h hf hs ht1 hy r3 hsc
      try rw [hkk]
      try simp only [hkk]
      go_wp2_with (first | (go_at_call 48; refine (heldIntS _ HI.out (by omega) (by omega)).mono ?_; rintro e w' ⟨rfl, rfl⟩) | (go_at_call 49; refine (heldPairS _ HP.out (by omega) (by omega)).mono ?_; rintro e w' ⟨rfl, rfl⟩))
      go_round
      case rel => exact ⟨i + 1, by omega, by go_num, vint R3.out⟩
      case measure => simp [intOf]; omega
    · have HE : Hid (k + (cntN (l.take i) : Int) = k + cntN l) := by
        show _ = _
        rw [List.take_of_length_le (by have := HLN.out; omega)]
      have hcn := HC.out i
      clear h
      go_wp2
      go_ret
      exact ⟨ret_int HE.out, rfl⟩
theorem held_nodes {lo hi : Nat} {v : Value} {l : List Nd} {k : Int} (w : World) (h : OwnNd w lo hi v (allN l k)) (h0 : 0 ≤ k) (h1 : k + cntN l ≤ 4611686018427387904) :
    Calls Try.prog 20 #[v, .int .i64 k] w fun e w' => e = .returned (.int .i64 (k + cntN l)) ∧ w = w' := by
  obtain ⟨A, n, c, rfl, hs⟩ := h.read (fit_allN h0 h1)
  exact heldNodeS w hs h0 h1
/-- Node j, where the first i are marked. -/
def stN (k : Int) (l : List Nd) (i j : Nat) (p : NdC) : NdC := if j < i then (mkNd (k + cntN (l.take j)) p.1, p.2) else p
theorem far_sym {u v : Value} (h : Far u v) : ∀ g, v.ownBlock = some g → ¬ (u.ownBlock = some g) := by
  intro g hg hh
  rcases h with h | h
  · rw [hh] at h; cases h
  · exact h (hh.trans hg.symm)
set_option maxHeartbeats 3200000 in
set_option maxRecDepth 100000 in
theorem mark_nodes {lo hi : Nat} {v : Value} {l : List Nd} {k : Int} (w : World) (h : OwnNd w lo hi v l) (h0 : 0 ≤ k) (h1 : k + cntN l ≤ 4611686018427387904) :
    Calls Try.prog 19 #[v, .int .i64 k] w fun e w' => e = .returned (.int .i64 (k + cntN l)) ∧ OwnNd w' lo hi v (allN l k) ∧ Chg (Rng lo hi) w w' := by
  obtain ⟨ps, rfl, hin, hap, hout, huv, hfar⟩ := h
  have HC := Lib.hid (cntN_le (ps.map (·.1)))
  obtain ⟨n, hn⟩ : ∃ n, (ps.map (·.1)).length = n := ⟨_, rfl⟩
  have HN := Lib.hid hn
  have HPL : Hid (ps.length = n) := by rw [← hn, List.length_map]; exact rfl
  rw [hn] at hout
  obtain ⟨A, c, rfl, hle, hmx⟩ := own_form hout
  obtain ⟨l, hl⟩ : ∃ l, ps.map (·.1) = l := ⟨_, rfl⟩
  have HLM := Lib.hid hl
  rw [hl] at HC HN h1 ⊢
  have HQ : Hid (∀ (j : Nat) (p : NdC), ps[j]? = some p → ps[j]? = some (stN k l 0 j p) ∧ OwnW w lo 3 92 (stN k l 0 j p).1.wish p.2.1 p.2.2) := by
    intro j p hp
    rw [show stN k l 0 j p = p from if_neg (by omega)]
    exact ⟨hp, (hin p (List.mem_of_getElem? hp)).1⟩
  have HUN : Hid (∀ (j : Nat) (p : NdC), ps[j]? = some p → Und p.2.1 hi ∧ Und p.2.2 hi) := fun j p hp => (hin p (List.mem_of_getElem? hp)).2
  have HAP := Lib.hid hap
  have HFAR := Lib.hid hfar
  clear hin hap hfar hn hl
  go_enter Try.func19, Try.ntmps19
  go_wp2
  go_loopw [1, 5] (fun vk vi wr => ∃ (i : Nat) (qs : List NdC), i ≤ n ∧ vi = .int .i64 i ∧ vk = .int .i64 (k + cntN (l.take i)) ∧ Hid (qs.length = n) ∧ wr.ownsRow lo 55 6 (.slice A n c) n (ndc qs) ∧
    Hid (∀ (j : Nat) (p : NdC), ps[j]? = some p → qs[j]? = some (stN k l i j p) ∧ OwnW wr lo 3 92 (stN k l i j p).1.wish p.2.1 p.2.2) ∧ Chg (Rng lo hi) w wr) (fun _ vi _ => n - (intOf vi).toNat)
  case atStart => exact ⟨0, ps, Nat.zero_le _, rfl, vint (by simp [cntN]), HPL, hout, HQ, Chg.refl _ _⟩
  case round =>
    clear hout HQ
    obtain ⟨i, qs, hi', rfl, rfl, HQL, hown, HQ, hch⟩ := hrel
    by_cases hlt : i < n
    · obtain ⟨g, c', cs, e, hb, hn1, hn2, hR, hL⟩ := own_row hown (by omega)
      injection e with e1 e2 e3
      subst e1 e3
      obtain ⟨⟨x, u, v⟩, hp⟩ : ∃ p, ps[i]? = some p := ⟨_, List.getElem?_eq_getElem (by have := HPL.out; omega)⟩
      obtain ⟨hqi, hwi⟩ := HQ.out i _ hp
      rw [show stN k l i i (x, u, v) = (x, u, v) from if_neg (by omega)] at hqi hwi
      obtain ⟨hui, hvi⟩ := HUN.out i _ hp
      simp only at hwi hui hvi
      have hx : l[i]? = some x := by rw [← HLM.out, List.getElem?_map, hp]; rfl
      have HS := Lib.hid (cntN_succ hx)
      have hle2 := HC.out (i + 1)
      have hcy : cnt1 x = 4 + x.wish.list.length + 2 * x.wish.pairs.length := rfl
      obtain ⟨kk, hkk⟩ : ∃ kk : Int, k + (cntN (l.take i) : Int) = kk := ⟨_, rfl⟩
      have hsc := HS.out
      have hk0 : 0 ≤ kk := by omega
      have hk1 : kk + 4 + x.wish.list.length + 2 * x.wish.pairs.length ≤ 4611686018427387904 := by omega
      obtain ⟨un, vn⟩ := ndv_at hp
      simp only at un vn
      have hug := far_sym (v := .slice (some ⟨g, 0, none⟩) n c) (HFAR.out u (List.mem_of_getElem? un)) g rfl
      have hvg := far_sym (v := .slice (some ⟨g, 0, none⟩) n c) (HFAR.out v (List.mem_of_getElem? vn)) g rfl
      have hgh : g < hi := huv g rfl
      obtain ⟨ho1, ho2, huv12⟩ := hwi
      obtain ⟨A1, c1, rfl, _, _⟩ := own_form ho1
      obtain ⟨E1, d1, rfl, _, _⟩ := own_form ho2
      have hql := ndc_len qs
      have hqn := HQL.out
      obtain ⟨a0, a1, a2, a3, a4, a5⟩ := ndc_at qs i _ hqi
      have hc0 : wr.cell? ⟨g, i * 6, none⟩ = some (.int .i64 x.op) := by rw [hR.cell, List.getElem?_append_left (by omega)]; exact a0
      have hc1 : wr.cell? ⟨g, i * 6 + 1, none⟩ = some (.int .i64 x.wish.kind) := by rw [hR.cell, List.getElem?_append_left (by omega)]; exact a1
      have hc2 : wr.cell? ⟨g, i * 6 + 2, none⟩ = some (.int .i64 x.wish.field) := by rw [hR.cell, List.getElem?_append_left (by omega)]; exact a2
      have hc3 : wr.cell? ⟨g, i * 6 + 3, none⟩ = some (.int .i64 x.wish.value) := by rw [hR.cell, List.getElem?_append_left (by omega)]; exact a3
      have hc4 : wr.cell? ⟨g, i * 6 + 4, none⟩ = some (.slice A1 x.wish.list.length c1) := by rw [hR.cell, List.getElem?_append_left (by omega)]; exact a4
      have hc5 : wr.cell? ⟨g, i * 6 + 5, none⟩ = some (.slice E1 x.wish.pairs.length d1) := by rw [hR.cell, List.getElem?_append_left (by omega)]; exact a5
      have hc2' : wr.cell? ⟨g, i * 6 + 1 + 1, none⟩ = some (.int .i64 x.wish.field) := hc2
      have hc3' : wr.cell? ⟨g, i * 6 + 1 + 2, none⟩ = some (.int .i64 x.wish.value) := hc3
      have hc4' : wr.cell? ⟨g, i * 6 + 1 + 3, none⟩ = some (.slice A1 x.wish.list.length c1) := hc4
      have hf0 := hR.free (i * 6)
      have hf1 := hR.free (i * 6 + 1)
      have hf2 := hR.free (i * 6 + 2)
      have hf3 := hR.free (i * 6 + 3)
      have hf2' := hR.free (i * 6 + 1 + 1)
      have hf3' := hR.free (i * 6 + 1 + 2)
      have hlw := hR.lt
      obtain ⟨p4, hp4⟩ : ∃ p4 : NdC, (mkNd kk x, Value.slice A1 x.wish.list.length c1, Value.slice E1 x.wish.pairs.length d1) = p4 := ⟨_, rfl⟩
      obtain ⟨w4, hw4⟩ : ∃ w4, (((wr.setCell ⟨g, i * 6, none⟩ (.int .i64 kk)).setCell ⟨g, i * 6 + 1, none⟩ (.int .i64 (kk + 1))).setCell ⟨g, i * 6 + 2, none⟩ (.int .i64 (kk + 2))).setCell ⟨g, i * 6 + 3, none⟩ (.int .i64 (kk + 3)) = w4 := ⟨_, rfl⟩
      have R4 : Hid (Row w4 g 55 (ndc (qs.set i p4) ++ cs)) := by
        have := (((hR.set (i * 6) (.int .i64 kk)).set (i * 6 + 1) (.int .i64 (kk + 1))).set (i * 6 + 2) (.int .i64 (kk + 2))).set (i * 6 + 3) (.int .i64 (kk + 3))
        rw [hw4] at this
        have h5 : (((((ndc qs ++ cs).set (i * 6) (.int .i64 kk)).set (i * 6 + 1) (.int .i64 (kk + 1))).set (i * 6 + 2) (.int .i64 (kk + 2))).set (i * 6 + 3) (.int .i64 (kk + 3))) = ndc (qs.set i p4) ++ cs := by
          rw [← hp4]
          exact ndc_set_app qs cs (mkNd kk x, Value.slice A1 x.wish.list.length c1, Value.slice E1 x.wish.pairs.length d1) (by omega) (fun q hq => by rw [hqi] at hq; injection hq with hq; rw [← hq])
        rw [h5] at this
        exact this
      obtain ⟨_, _, _, _, t4, t5⟩ := ndc_at (qs.set i p4) i p4 (by rw [List.getElem?_set, if_pos rfl, if_pos (by omega)])
      have hql4 := ndc_len (qs.set i p4)
      rw [List.length_set] at hql4
      have hd4 : w4.cell? ⟨g, i * 6 + 1 + 3, none⟩ = some (.slice A1 x.wish.list.length c1) := by
        rw [R4.out.cell, List.getElem?_append_left (by omega)]
        rw [← hp4] at t4 ⊢
        exact t4
      have hd5 : ∀ w5 : World, Row w5 g 55 (ndc (qs.set i p4) ++ cs) → w5.cell? ⟨g, i * 6 + 1 + 4, none⟩ = some (.slice E1 x.wish.pairs.length d1) := fun w5 hr => by
        rw [hr.cell, List.getElem?_append_left (by omega)]
        rw [← hp4] at t5 ⊢
        exact t5
      have HD5 := Lib.hid hd5
      have CH1 : Hid (Chg (fun b => b = g) wr w4) := by
        rw [← hw4]
        exact ((((Chg.refl (fun b => b = g) wr).setCell (p := ⟨g, i * 6, none⟩) rfl _).setCell (p := ⟨g, i * 6 + 1, none⟩) rfl _).setCell (p := ⟨g, i * 6 + 2, none⟩) rfl _).setCell (p := ⟨g, i * 6 + 3, none⟩) rfl _
      have o1 := Lib.hid (own_chg ho1 CH1.out (fun b hb2 hh => by subst hh; exact hug hb2))
      have o2 := Lib.hid (own_chg ho2 CH1.out (fun b hb2 hh => by subst hh; exact hvg hb2))
      have CHW := Lib.hid (hch.trans (CH1.out.mono (fun b hb2 => by subst hb2; exact ⟨hb, hgh⟩)))
      have HX := Lib.hid hx
      have HP := Lib.hid hp
      have HL := Lib.hid hL
      have b1 : kk + 1 + 1 = kk + 2 := by omega
      have b2 : kk + 2 + 1 = kk + 3 := by omega
      have b3 : kk + 3 + 1 = kk + 4 := by omega
      have HKK := Lib.hid hkk
      have hn2' := hn2
      unfold maxLen at hn2'
      clear hR hown hqi hx hp hL a0 a1 a2 a3 a4 a5 hsc hle2
      try rw [hkk]
      clear hd5 t4 t5 hql4 hc4 hc5 hc4'
      go_wp2_with fail
      refine (markIntS (xs := x.wish.list) _ o1.out (by omega) (by omega)).mono ?_
      rintro e w5 ⟨rfl, ou, c5⟩
      have R5 := Lib.hid (R4.out.chg c5 hug)
      have o2b := own_chg o2.out c5 (far_sym huv12)
      have d5 := HD5.out w5 R5.out
      have hlw5 := R5.out.lt
      have CH5 := Lib.hid (CHW.out.trans (blk_rng (lo := lo) o1.out hui c5))
      clear hc0 hc1 hc2 hc3 hc2' hc3' hf0 hf1 hf2 hf3 hf2' hf3' hd4
      go_wp2_with fail
      refine (markPairS (xs := x.wish.pairs) _ o2b (by omega) (by omega)).mono ?_
      rintro e w6 ⟨rfl, ov, c6⟩
      have R6 := R5.out.chg c6 hvg
      have CH6 := Lib.hid (CH5.out.trans (blk_rng (lo := lo) o2b hvi c6))
      have hvu : ∀ q, (Value.slice A1 x.wish.list.length c1).ownBlock = some q → ¬ ((Value.slice E1 x.wish.pairs.length d1).ownBlock = some q) := fun q h2 h3 => far_sym huv12 q h3 h2
      have ou6 := own_chg ou c6 hvu
      have O6 := Lib.hid (row_own (base := lo) (n := n) (sz := 6) R6 (by rw [ndc_len, List.length_set]; have := HQL.out; omega) hb hn1 hn2 (by have := HL.out; rw [List.length_append, ndc_len] at this ⊢; rw [List.length_set]; exact this))
      have HQL6 : Hid ((qs.set i p4).length = n) := by show _ = _; rw [List.length_set]; exact HQL.out
      have HQ6 : Hid (∀ (j : Nat) (p : NdC), ps[j]? = some p → (qs.set i p4)[j]? = some (stN k l (i + 1) j p) ∧ OwnW w6 lo 3 92 (stN k l (i + 1) j p).1.wish p.2.1 p.2.2) := by
        intro j p hp
        by_cases hij : j = i
        · subst hij
          rw [HP.out] at hp
          injection hp with hp
          subst hp
          rw [show stN k l (j + 1) j (x, Value.slice A1 x.wish.list.length c1, Value.slice E1 x.wish.pairs.length d1) = (mkNd kk x, Value.slice A1 x.wish.list.length c1, Value.slice E1 x.wish.pairs.length d1) from by unfold stN; rw [if_pos (by omega), HKK.out]]
          refine ⟨by rw [List.getElem?_set, if_pos rfl, if_pos (by have := HQL.out; omega), hp4], ?_, ?_, huv12⟩
          · show World.ownsRow _ _ _ _ _ (allI x.wish.list.length (kk + 4)).length _
            rw [allI_len]; exact ou6
          · show World.ownsRow _ _ _ _ _ (allP x.wish.pairs.length (kk + 4 + x.wish.list.length)).length _
            rw [allP_len]; exact ov
        · obtain ⟨h3, h4, h5, h6⟩ := HQ.out j p hp
          have hst : stN k l (i + 1) j p = stN k l i j p := by
            unfold stN
            by_cases hji : j < i
            · rw [if_pos hji, if_pos (by omega)]
            · rw [if_neg hji, if_neg (by omega)]
          obtain ⟨un2, vn2⟩ := ndv_at hp
          have hg1 := far_sym (v := .slice (some ⟨g, 0, none⟩) n c) (HFAR.out _ (List.mem_of_getElem? un2)) g rfl
          have hg2 := far_sym (v := .slice (some ⟨g, 0, none⟩) n c) (HFAR.out _ (List.mem_of_getElem? vn2)) g rfl
          rw [hst]
          refine ⟨by rw [List.getElem?_set, if_neg (fun e => hij e.symm)]; exact h3, ?_, ?_, h6⟩
          · exact own_chg (own_chg (own_chg h4 CH1.out (fun b hb2 hh => by subst hh; exact hg1 hb2)) c5 (far_ne HAP.out (by omega) un un2)) c6 (far_ne HAP.out (by omega) vn un2)
          · exact own_chg (own_chg (own_chg h5 CH1.out (fun b hb2 hh => by subst hh; exact hg2 hb2)) c5 (far_ne HAP.out (by omega) un vn2)) c6 (far_ne HAP.out (by omega) vn vn2)
      have HV : Hid (kk + 4 + (x.wish.list.length : Int) + 2 * (x.wish.pairs.length : Int) = k + (cntN (l.take (i + 1)) : Int)) := by
        show _ = _
        have h3 := HS.out; have h4 := HKK.out; omega
      clear R6 c5 c6 ou ov ou6 o2b hvu d5 hlw5
      go_wp2
      go_roundw
      case rel => exact ⟨i + 1, _, by omega, by go_num, vint HV.out, HQL6, O6.out, HQ6, CH6.out⟩
      case measure => simp [intOf]; omega
    · have hin : i = n := by omega
      have HE : Hid (k + (cntN (l.take i) : Int) = k + cntN l) := by
        show _ = _
        rw [List.take_of_length_le (by have := HN.out; omega)]
      have hcn := HC.out i
      have hqs : qs.map (·.1) = allN l k := by
        apply List.ext_getElem?
        intro j
        rw [List.getElem?_map]
        rcases Nat.lt_or_ge j n with hj | hj
        · obtain ⟨p, hp⟩ : ∃ p, ps[j]? = some p := ⟨_, List.getElem?_eq_getElem (by have := HPL.out; omega)⟩
          have hx : l[j]? = some p.1 := by rw [← HLM.out, List.getElem?_map, hp]; rfl
          rw [(HQ.out j p hp).1, allN_at hx, show stN k l i j p = (mkNd (k + cntN (l.take j)) p.1, p.2) from if_pos (by omega)]
          rfl
        · rw [List.getElem?_eq_none (by have := HQL.out; omega), List.getElem?_eq_none (by rw [allN_len]; have := HN.out; omega)]
          rfl
      have hnd : ndv qs = ndv ps := by
        have : qs.map (·.2) = ps.map (·.2) := by
          apply List.ext_getElem?
          intro j
          rw [List.getElem?_map, List.getElem?_map]
          rcases Nat.lt_or_ge j n with hj | hj
          · obtain ⟨p, hp⟩ : ∃ p, ps[j]? = some p := ⟨_, List.getElem?_eq_getElem (by have := HPL.out; omega)⟩
            rw [(HQ.out j p hp).1, hp]
            unfold stN
            split <;> rfl
          · rw [List.getElem?_eq_none (by have := HQL.out; omega), List.getElem?_eq_none (by have := HPL.out; omega)]
        have e : ∀ rs : List NdC, ndv rs = (rs.map (·.2)).flatMap fun p => [p.1, p.2] := fun rs => by
          unfold ndv; rw [List.flatMap_map]
        rw [e, e, this]
      have HO : Hid (OwnNd wr lo hi (.slice A n c) (allN l k)) := by
        refine ⟨qs, hqs, fun q hq => ?_, by rw [hnd]; exact HAP.out, by rw [allN_len, HN.out]; exact hown, huv, by rw [hnd]; exact HFAR.out⟩
        obtain ⟨j, hj⟩ := List.getElem?_of_mem hq
        obtain ⟨p, hp⟩ : ∃ p, ps[j]? = some p := ⟨_, List.getElem?_eq_getElem (by have := HPL.out; have := HQL.out; have := (List.getElem?_eq_some_iff.1 hj).1; omega)⟩
        obtain ⟨h3, h4⟩ := HQ.out j p hp
        rw [hj] at h3
        injection h3 with h3
        have h6 : q.2 = p.2 := by rw [h3]; unfold stN; split <;> rfl
        obtain ⟨h7, h8⟩ := HUN.out j p hp
        rw [h6]
        rw [h3]
        exact ⟨h4, h7, h8⟩
      unfold maxLen at hmx
      clear hown
      go_wp2
      go_ret
      exact ⟨ret_int HE.out, HO.out, hch⟩
end Go.Proofs.Ytgjghpaenliliaa.Wk

namespace Go.Proofs.Ytgjghpaenliliaa.M
open Go Go.RowKit

section
variable {P : Program} {w : World} {ops : Array Oper} {rest : List Oper} {o : Oper} {a : Act} {Q : Exit → Act → World → Prop}
theorem run_append_none (base : Nat) (t ty e : TypeId) (i : TypeInfo) (size : Nat) (ht : P.underlying t = some (.slice e)) (hi : P.info? e = some i)
    (v : Value) (n c : Nat) (xs : List Value) (hown : w.ownsRow base e size v n xs) :
    (Builtin.append_ #[t, t] ty #[v, .slice none 0 c]).run P w = .ok v w := by
  rcases hown.2 with ⟨rfl, rfl⟩ | ⟨g, cap, cur, rfl, _, _, hnc, _⟩
  · simp [Builtin.append_, run_underlying ht, sizeOf, typeInfo, hi, Builtin.lenOf, Builtin.firstCells]
  · simp [Builtin.append_, run_underlying ht, sizeOf, typeInfo, hi, Builtin.lenOf, Builtin.firstCells, hnc, storeCells]
theorem wpList_append_none (hgd : o.guard = none) (s x : Operand) (t : TypeId)
    (ho : o.op = .call { callee := .builtin .append, args := #[s, x], argTypes := #[t, t] })
    (base : Nat) (e : TypeId) (i : TypeInfo) (size : Nat) (ht : P.underlying t = some (.slice e)) (hi : P.info? e = some i)
    (v : Value) (n c : Nat) (xs : List Value) (hs : a.eval s = v) (hown : w.ownsRow base e size v n xs) (hx : a.eval x = .slice none 0 c)
    (h : wpList P ops Q rest (a.put o.dst v) w) : wpList P ops Q (o :: rest) a w := by
  refine wpList_plain hgd fun K hK => ?_
  have hrun := run_append_none (P := P) (w := w) base t o.type e i size ht hi v n c xs hown
  unfold Oper.wp
  simp [execOp, ho, resolve, invoke, builtin, hs, hx, hrun, Result.andThen]
  exact hK _ _ h
/-- The source is any slice whose cells are known. -/
theorem append_slice (hgd : o.guard = none) (s x : Operand) (t : TypeId)
    (ho : o.op = .call { callee := .builtin .append, args := #[s, x], argTypes := #[t, t] })
    (base : Nat) (e : TypeId) (i : TypeInfo) (z : Value) (size bytes : Nat) (ht : P.underlying t = some (.slice e)) (hi : P.info? e = some i) (hz : i.zero = some z)
    (hsize : i.size = size) (hby : i.bytes = bytes) (hzs : z.cells.size = size) (hsz : 0 < size)
    (v : Value) (n : Nat) (xs : List Value) (hs : a.eval s = v) (hown : w.ownsRow base e size v n xs)
    (A : Option Addr) (m c : Nat) (news : List Value) (hx : a.eval x = .slice A m c) (hl : news.length = m * size) (hA : 0 < m → A ≠ none) (hnews : ∀ ad, A = some ad → ∀ j u, news[j]? = some u → w.cell? (ad.add j) = some u) (h1 : ∀ u ∈ news, u.oneCell' = true)
    (h63 : n + m ≤ maxLen) (hbytes : (n + m) * bytes ≤ 140737488355328) (hbase : base ≤ w.heap.size)
    (h : ∀ v' w', w'.ownsRow base e size v' (n + m) (xs ++ news) → w.grownBy w' v.ownBlock → wpList P ops Q rest (a.put o.dst v') w') : wpList P ops Q (o :: rest) a w := by
  cases A with
  | some ad => exact wpList_append_own w hgd s x t ho base e i z size bytes ht hi hz hsize hby hzs hsz v n xs hs hown ad m c news hx hl (hnews ad rfl) h1 h63 hbytes hbase fun v' w' h2 h3 _ => h v' w' h2 h3
  | none =>
    have hm : m = 0 := by
      rcases Nat.eq_zero_or_pos m with h0 | h0
      · exact h0
      · exact absurd rfl (hA h0)
    subst hm
    have hn0 : news = [] := List.eq_nil_of_length_eq_zero (by omega)
    subst hn0
    exact wpList_append_none hgd s x t ho base e i size ht hi v n c xs hs hown hx (h v w (by simpa using hown) ⟨rfl, rfl, rfl, Nat.le_refl _, fun _ _ _ => rfl⟩)
end
section
variable {w : World} {B n c : Nat} {A : Option Addr}
theorem slI_some {α : Type} {R : Rep α} {sz : Nat} {l : List α} (h : Sl R sz w B A n c l) : 0 < n → A ≠ none := fun hn => by
  obtain ⟨b, o, e, _⟩ := h.at_ hn
  rw [e]; simp
theorem slI_cells {xs : List Int} (h : Sl RI 1 w B A n c xs) : ∀ ad, A = some ad → ∀ j u, (xs.map (Value.int .i64))[j]? = some u → w.cell? (ad.add j) = some u := by
  intro ad hA j u hu
  rw [List.getElem?_map] at hu
  cases hx : xs[j]? with
  | none => rw [hx] at hu; cases hu
  | some x =>
    rw [hx] at hu
    simp at hu
    subst hu
    have hj : j < n := by have := (List.getElem?_eq_some_iff.1 hx).1; have := h.len; omega
    obtain ⟨b, o, y, e, _, hy, _, hc⟩ := h.int hj
    rw [hx] at hy
    injection hy with hy
    subst hy
    rw [e] at hA
    injection hA with hA
    subst hA
    have e0 : (⟨b, o, none⟩ : Addr).add j = ⟨b, o + j, none⟩ := by by_cases h0 : j = 0 <;> simp [Addr.add, h0]
    rw [e0]; exact hc
theorem slP_cells {l : List (Int × Int)} (h : Sl RP 2 w B A n c l) : ∀ ad, A = some ad → ∀ j u, (prc l)[j]? = some u → w.cell? (ad.add j) = some u := by
  intro ad hA j u hu
  have hjl : j < l.length * 2 := by have := (List.getElem?_eq_some_iff.1 hu).1; rw [prc_len] at this; exact this
  have hk : j / 2 < n := by have := h.len; omega
  obtain ⟨b, o, p, e, _, hp, _, _, c0, c1⟩ := pairAt h hk
  rw [e] at hA
  injection hA with hA
  subst hA
  have e0 : (⟨b, o, none⟩ : Addr).add j = ⟨b, o + j, none⟩ := by by_cases h0 : j = 0 <;> simp [Addr.add, h0]
  rw [e0]
  obtain ⟨p0, p1⟩ := prc_at l _ _ hp
  rcases Nat.mod_two_eq_zero_or_one j with h0 | h0
  · rw [show j / 2 * 2 = j by omega] at p0 c0
    rw [p0] at hu
    injection hu with hu
    rw [← hu]; exact c0
  · rw [show j / 2 * 2 + 1 = j by omega] at p1
    rw [show o + j / 2 * 2 + 1 = o + j by omega] at c1
    rw [p1] at hu
    injection hu with hu
    rw [← hu]; exact c1
theorem ints_one (xs : List Int) : ∀ u ∈ xs.map (Value.int .i64), u.oneCell' = true := by
  intro u hu
  obtain ⟨x, _, rfl⟩ := List.mem_map.1 hu
  rfl
theorem prc_one (l : List (Int × Int)) : ∀ u ∈ prc l, u.oneCell' = true := by
  intro u hu
  unfold prc itc at hu
  obtain ⟨p, hp, hup⟩ := List.mem_flatMap.1 hu
  obtain ⟨q, _, rfl⟩ := List.mem_map.1 hp
  simp [p2] at hup
  rcases hup with rfl | rfl <;> rfl
end
end Go.Proofs.Ytgjghpaenliliaa.M

namespace Go.Proofs.Ytgjghpaenliliaa.M
open Go Go.RowKit

/-- The rows of a list of nodes that the call is laying. -/
structure PartN (w : World) (lo EN E EP : Nat) (v : Value) (ps : List NdC) : Prop where
  rows : OwnNs w lo E EP ps
  out : w.ownsRow lo EN 6 v ps.length (ndc ps)
  far : ∀ u ∈ ndv ps, Far u v
section
variable {w w' w8 wA w1 : World} {lo lo2 EN E EP gg cap : Nat} {v u1 u2 : Value} {ps : List NdC} {x : Nd}
theorem PartN.below (h : PartN w lo EN E EP v ps) (hb : Below w.heap.size w w') : PartN w' lo EN E EP v ps := ⟨h.rows.below hb, own_below h.out hb, h.far⟩
theorem PartN.nil (w : World) (EN E EP : Nat) : PartN (w.alloc (.cells #[] EN)) w.heap.size EN E EP (.slice (some ⟨w.heap.size, 0, none⟩) 0 0) [] :=
  ⟨OwnNs.nil _ _ _ _, own_emptyS w EN 6, fun u hu => absurd hu (by simp [ndv])⟩
theorem PartN.append (h : PartN w lo EN E EP v ps) (hb : Below w.heap.size w w8) (hn : OwnW w8 lo2 E EP x.wish u1 u2) (hlo2 : w.heap.size ≤ lo2) (hlo : lo ≤ w.heap.size) (hA : Below w8.heap.size w8 wA) (hg : wA.grownBy w1 v.ownBlock)
    (hown1 : w1.ownsRow lo EN 6 (.slice (some ⟨gg, 0, none⟩) (ps.length + 1) cap) (ps.length + 1) (ndc ps ++ nd6 (x, u1, u2))) (hat : v.ownBlock = some gg ∨ gg = wA.heap.size) :
    PartN w1 lo EN E EP (.slice (some ⟨gg, 0, none⟩) (ps.length + 1) cap) (ps ++ [(x, u1, u2)]) := by
  have S := h.rows.snoc (p := (x, u1, u2)) hb hn hlo2 (by omega)
  have key : ∀ u ∈ ndv (ps ++ [(x, u1, u2)]), ∀ q, u.ownBlock = some q → v.ownBlock ≠ some q := by
    intro u hu q hq hv
    rw [ndv_snoc] at hu
    have hvl := (h.out.lt q hv).2
    rcases List.mem_append.1 hu with hu | hu
    · rcases h.far u hu with h1 | h1
      · rw [hq] at h1; cases h1
      · exact h1 (hq.trans hv.symm)
    · simp at hu
      rcases hu with rfl | rfl
      · have := (hn.1.lt q hq).1; omega
      · have := (hn.2.1.lt q hq).1; omega
  have SA := S.below hA
  refine ⟨⟨fun p hp => ?_, S.apart⟩, ?_, fun u hu => ?_⟩
  · obtain ⟨a1, a2, a3⟩ := SA.each p hp
    have m1 : p.2.1 ∈ ndv (ps ++ [(x, u1, u2)]) := List.mem_flatMap.2 ⟨p, hp, by simp⟩
    have m2 : p.2.2 ∈ ndv (ps ++ [(x, u1, u2)]) := List.mem_flatMap.2 ⟨p, hp, by simp⟩
    exact ⟨own_grown a1 hg (fun q hq e => key _ m1 q hq e.symm), own_grown a2 hg (fun q hq e => key _ m2 q hq e.symm), a3⟩
  · rw [ndc_snoc, List.length_append]
    exact hown1
  · cases hq : u.ownBlock with
    | none => exact .inl hq
    | some q =>
      refine .inr fun hh => ?_
      rw [hq] at hh
      have hgq : gg = q := by
        simp [Value.ownBlock] at hh
        exact hh.symm
      rcases hat with h1 | h1
      · exact key u hu q hq (by rw [h1, hgq])
      · have h2 := (S.lt hu hq).2
        have h3 := hA.size
        omega
end
end Go.Proofs.Ytgjghpaenliliaa.M

namespace Go.Proofs.Ytgjghpaenliliaa.Wk
open Go.RowKit Go.Proofs.Ytgjghpaenliliaa.M
set_option linter.unusedVariables false
attribute [local go_sem] cell_grow

theorem info_i4 : (Try.prog.info? 3).map (fun i => (i.zero, i.size, i.bytes)) = some (some (.int .i64 0), 1, 8) := by kernel_rfl
theorem info_p4 : (Try.prog.info? 92).map (fun i => (i.zero, i.size, i.bytes)) = some (some (.agg #[.int .i64 0, .int .i64 0]), 2, 16) := by kernel_rfl
set_option maxHeartbeats 800000 in
theorem copyInts {A : Option Addr} {n c : Nat} {xs : List Int} (w : World) (h : Sl RI 1 w w.heap.size A n c xs) (hn : n ≤ 1048576) :
    Calls Try.prog 99 #[.slice A n c] w fun e w' => ∃ v, e = .returned v ∧ w'.ownsRow w.heap.size 3 1 v xs.length (xs.map (Value.int .i64)) ∧ Below w.heap.size w w' := by
  obtain ⟨i0, hi, hz0, hz1, hz2⟩ := info_parts info_i4
  have BW := (Below.refl w.heap.size w).alloc (Nat.le_refl _) (.cells #[] 3)
  have h1 := h.on RI.keeps BW
  have hl := h.len
  have HC := Lib.hid (slI_cells h1)
  have HS := Lib.hid (slI_some h1)
  have hown := own_emptyS w 3 1
  clear h h1
  go_enter Try.func99, Try.ntmps99
  go_wp2_with (at_builtin; refine append_slice rfl _ _ 29 rfl w.heap.size 3 i0 (.int .i64 0) 1 8 Try.underlying29 hi hz0 hz1 hz2 rfl (by decide) _ 0 [] rfl hown A n c (xs.map (Value.int .i64)) rfl (by rw [List.length_map]; omega) HS.out HC.out (ints_one xs) (by unfold maxLen; omega) (by omega) (by simp) ?_)
  intro v' w4 hown4 hgrow
  have hbw4 := Lib.hid (BW.grown hgrow BW.size (fun k hk => (hown.lt k hk).1))
  have hown5 : Hid (w4.ownsRow w.heap.size 3 1 v' xs.length (xs.map (Value.int .i64))) := by
    refine Lib.hid ?_
    rw [hl]
    simpa using hown4
  clear hown4 hgrow hown
  go_wp2
  go_ret
  exact ⟨_, rfl, hown5.out, hbw4.out⟩
set_option maxHeartbeats 1600000 in
set_option maxRecDepth 100000 in
theorem copyWish {A E : Option Addr} {n c m d : Nat} {x : Wi} (w : World) (h : Sl RI 1 w w.heap.size A n c x.list) (g : Sl RP 2 w w.heap.size E m d x.pairs) (hn : n ≤ 1048576) (hm : m ≤ 1048576) :
    Calls Try.prog 79 #[.agg #[.int .i64 x.kind, .int .i64 x.field, .int .i64 x.value, .slice A n c, .slice E m d]] w (RetWO w x) := by
  obtain ⟨i0, hi, hz0, hz1, hz2⟩ := info_parts info_p4
  have B2 := ((Below.refl w.heap.size w).alloc (Nat.le_refl _) (.cells [Value.int .i64 x.kind, .int .i64 x.field, .int .i64 x.value, .slice A n c, .slice E m d].toArray 53)).alloc (by simp) (.cells [Value.int .i64 0, .int .i64 0, .int .i64 0, .slice none 0 0, .slice none 0 0].toArray 53)
  have R0 := (Row.new w 53 [.int .i64 x.kind, .int .i64 x.field, .int .i64 x.value, .slice A n c, .slice E m d]).alloc (.cells [Value.int .i64 0, .int .i64 0, .int .i64 0, .slice none 0 0, .slice none 0 0].toArray 53)
  have R1 := Row.new (w.alloc (.cells [Value.int .i64 x.kind, .int .i64 x.field, .int .i64 x.value, .slice A n c, .slice E m d].toArray 53)) 53 [.int .i64 0, .int .i64 0, .int .i64 0, .slice none 0 0, .slice none 0 0]
  have H2 := h.on RI.keeps B2
  have G2 := g.on RP.keeps B2
  have gl := g.len
  clear h
  go_enter Try.func79, Try.ntmps79
  go_wp2_with fail
  refine (copyInts _ H2 hn).mono ?_
  rintro e w1 ⟨v1, rfl, ho1, b1⟩
  obtain ⟨A1, c1, rfl, _, _⟩ := own_form ho1
  have R0 := R0.below b1 (by simp; omega)
  have R1 := R1.below b1 (by simp)
  have BB := B2.trans (b1.mono B2.size)
  simp only [World.size_alloc] at R1 ho1
  have z2 : w.heap.size + 1 + 1 ≤ w1.heap.size := by have := b1.size; simp at this; omega
  have BS := BB.setCell (p := ⟨w.heap.size, 3, none⟩) (Nat.le_refl _) (.slice A1 x.list.length c1)
  have S0 := (R0.set 3 (.slice A1 x.list.length c1)).alloc (.cells #[] 92)
  have S1 := (R1.far (p := ⟨w.heap.size, 3, none⟩) (by simp) (.slice A1 x.list.length c1)).alloc (.cells #[] 92)
  have OS := (ownsRow_setCell_below ho1 (a := ⟨w.heap.size, 3, none⟩) (by simp; omega) (.slice A1 x.list.length c1)).alloc (.cells #[] 92)
  have hz : (w1.setCell ⟨w.heap.size, 3, none⟩ (.slice A1 x.list.length c1)).heap.size = w1.heap.size := by simp
  have BS2 := BS.alloc (by rw [hz]; omega) (.cells #[] 92)
  have OP := own_emptyS (w1.setCell ⟨w.heap.size, 3, none⟩ (.slice A1 x.list.length c1)) 92 2
  rw [hz] at OP
  have G4 := g.on RP.keeps BS2
  have HC := Lib.hid (slP_cells G4)
  have HS := Lib.hid (slI_some G4)
  have hsW2 : ((w1.setCell ⟨w.heap.size, 3, none⟩ (.slice A1 x.list.length c1)).alloc (.cells #[] 92)).heap.size = w1.heap.size + 1 := by simp
  have hoA : ∀ q, (Value.slice A1 x.list.length c1).ownBlock = some q → w.heap.size + 1 + 1 ≤ q ∧ q < w1.heap.size := fun q hq => ho1.lt q hq
  have c00 := R0.cell 0
  have c01 := R0.cell 1
  have c02 := R0.cell 2
  have c03 := R0.cell 3
  have c04 := R0.cell 4
  have f03 := R0.free 3
  have f04 := R0.free 4
  simp at c00 c01 c02 c03 c04
  have z0 := R0.lt
  have z1 := R1.lt
  clear ho1 G4 G2 H2 g BB B2 b1
  go_wp2_with (at_builtin; refine append_slice rfl _ _ 51 rfl w1.heap.size 92 i0 (.agg #[.int .i64 0, .int .i64 0]) 2 16 Try.underlying51 hi hz0 hz1 hz2 rfl (by decide) _ 0 [] rfl OP E m d (prc x.pairs) rfl (by rw [prc_len]; omega) HS.out HC.out (prc_one x.pairs) (by unfold maxLen; omega) (by omega) (by rw [hsW2]; omega) ?_)
  intro v' w4 hown4 hgrow
  have hne : ∀ k, (Value.slice (some ⟨w1.heap.size, 0, none⟩) 0 0).ownBlock = some k → k = w1.heap.size := fun k hk => by injection hk with hk; exact hk.symm
  have Q0 := S0.grown hgrow (fun e => by have := hne _ e.symm; omega)
  have Q1 := S1.grown hgrow (fun e => by have := hne _ e.symm; omega)
  have OA := own_grown OS hgrow (fun q hq e => by have := hne _ e.symm; have := (hoA q hq).2; omega)
  have B4 := Lib.hid (BS2.grown hgrow BS2.size (fun k hk => by have := hne k hk; omega))
  obtain ⟨E2, d2, rfl, _, _⟩ := own_form hown4
  have OB : Hid (w4.ownsRow w1.heap.size 92 2 (.slice E2 m d2) x.pairs.length (prc x.pairs)) := by
    refine Lib.hid ?_
    have h3 : w4.ownsRow w1.heap.size 92 2 (.slice E2 m d2) m (prc x.pairs) := by simpa using hown4
    rw [gl]
    exact h3
  have HFar : Hid (Far (.slice A1 x.list.length c1) (.slice E2 m d2)) := by
    cases hv : (Value.slice A1 x.list.length c1).ownBlock with
    | none => exact .inl hv
    | some q =>
      refine .inr fun hh => ?_
      rw [hv] at hh
      have g1 := (hoA q hv).2
      have g2 := (hown4.lt q hh.symm).1
      omega
  have HOA := Lib.hid OA
  have q00 := Q0.cell 0
  have q01 := Q0.cell 1
  have q02 := Q0.cell 2
  have q03 := Q0.cell 3
  have q04 := Q0.cell 4
  have h04 := Q0.free 4
  have q10 := Q1.cell 0
  have q11 := Q1.cell 1
  have q12 := Q1.cell 2
  have q13 := Q1.cell 3
  have q14 := Q1.cell 4
  have h10 := Q1.free 0
  have h11 := Q1.free 1
  have h12 := Q1.free 2
  have h13 := Q1.free 3
  have h14 := Q1.free 4
  have y0 := Q0.lt
  have y1 := Q1.lt
  simp at q00 q01 q02 q03 q04 q10 q11 q12 q13 q14
  clear S0 S1 OS BS2 OP hown4 hgrow OA Q0 Q1 R0 R1 BS HC HS hne c00 c01 c02 c03 c04 f03 f04
  go_wp2
  refine bodyPost_ret (v := .agg #[.int .i64 x.kind, .int .i64 x.field, .int .i64 x.value, .slice A1 x.list.length c1, .slice E2 m d2]) (by simp [results, Try.results79, go_sem, q10, q11, q12, q13, q14]) rfl ?_
  refine ⟨_, _, rfl, OwnW.mono (lo := w.heap.size + 1 + 1) ?_ (by omega), ?_⟩
  · repeat (refine OwnW.far ?_ (by first | (simp; done) | (simp; omega)) _)
    exact ⟨HOA.out, own_mono OB.out (by omega), HFar.out⟩
  · repeat (refine Below.setCell ?_ (by first | (simp; done) | (simp; omega)) _)
    exact B4.out
theorem copyWishE {A E : Option Addr} {n c m d : Nat} {x : Wi} (w : World) (h : Sl RI 1 w w.heap.size A n c x.list) (g : Sl RP 2 w w.heap.size E m d x.pairs) (hn : n ≤ 1048576) (hm : m ≤ 1048576) :
    Calls Try.prog 79 #[.agg #[.int .i64 x.kind, .int .i64 x.field, .int .i64 x.value, .slice A n c, .slice E m d]] w fun e w' => ∃ A2 c2 E2 d2, e = .returned (.agg #[.int .i64 x.kind, .int .i64 x.field, .int .i64 x.value, .slice A2 x.list.length c2, .slice E2 x.pairs.length d2]) ∧ OwnW w' w.heap.size 3 92 x (.slice A2 x.list.length c2) (.slice E2 x.pairs.length d2) ∧ Below w.heap.size w w' :=
  (copyWish w h g hn hm).mono fun e w' ⟨u, v, he, ho, hb⟩ => by
    obtain ⟨A2, c2, rfl, _, _⟩ := own_form ho.1
    obtain ⟨E2, d2, rfl, _, _⟩ := own_form ho.2.1
    exact ⟨A2, c2, E2, d2, he, ho, hb⟩
theorem six_new (w : World) (a b c d e f : Value) (t : TypeId) : ∀ j u, [a, b, c, d, e, f][j]? = some u → (w.alloc (.cells #[a, b, c, d, e, f] t)).cell? ((⟨w.heap.size, 0, none⟩ : Addr).add j) = some u := by
  intro j u hj
  match j, hj with
  | 0, hj => simp at hj; subst hj; simp [Addr.add]
  | 1, hj => simp at hj; subst hj; simp [Addr.add]
  | 2, hj => simp at hj; subst hj; simp [Addr.add]
  | 3, hj => simp at hj; subst hj; simp [Addr.add]
  | 4, hj => simp at hj; subst hj; simp [Addr.add]
  | 5, hj => simp at hj; subst hj; simp [Addr.add]
  | j + 6, hj => simp at hj
theorem below_of_drew {W w8 : World} (h : Below W.drew.heap.size W.drew w8) : Below W.heap.size W w8 := (Below.refl W.heap.size W).drew.trans h
theorem row_of_drew {w w8 : World} {E : TypeId} {xs : List Value} (h : Below (w.alloc (.cells xs.toArray E)).drew.heap.size (w.alloc (.cells xs.toArray E)).drew w8) : Row w8 w.heap.size E xs :=
  (Row.new w E xs).drew.below h (by
    have : (w.alloc (.cells xs.toArray E)).drew.heap.size = (w.alloc (.cells xs.toArray E)).heap.size := rfl
    rw [this]; simp)
theorem sl_drew {α : Type} {R : Rep α} {sz n c : Nat} {A : Option Addr} {l : List α} {w : World} (h : Sl R sz w w.heap.size A n c l) (K : Keeps R) : Sl R sz w.drew w.drew.heap.size A n c l := h.on K (Below.refl _ _).drew
theorem lt_alloc_drew (w : World) (o : Obj) : w.heap.size < (w.alloc o).drew.heap.size := by
  have : (w.alloc o).drew.heap.size = (w.alloc o).heap.size := rfl
  rw [this]; simp
/-- What a region holds on to of a box of six cells. -/
theorem boxS {w' : World} {g : Nat} {E : TypeId} {a b c d e f : Value} (h : Row w' g E [a, b, c, d, e, f]) :
    Row w' g E [a, b, c, d, e, f] ∧ w'.cell? ⟨g, 0, none⟩ = some a ∧ w'.cell? ⟨g, 1, none⟩ = some b ∧ w'.cell? ⟨g, 2, none⟩ = some c ∧ w'.cell? ⟨g, 3, none⟩ = some d ∧ w'.cell? ⟨g, 4, none⟩ = some e ∧ w'.cell? ⟨g, 5, none⟩ = some f :=
  ⟨h, h.cell 0, h.cell 1, h.cell 2, h.cell 3, h.cell 4, h.cell 5⟩
theorem size_le_alloc (w : World) (o : Obj) : w.heap.size ≤ (w.alloc o).heap.size := by simp
theorem ones6 {a b c d e f : Value} (h1 : a.oneCell' = true) (h2 : b.oneCell' = true) (h3 : c.oneCell' = true) (h4 : d.oneCell' = true) (h5 : e.oneCell' = true) (h6 : f.oneCell' = true) : ∀ u ∈ [a, b, c, d, e, f], u.oneCell' = true := by
  intro u hu
  simp at hu
  rcases hu with rfl | rfl | rfl | rfl | rfl | rfl <;> assumption
set_option maxHeartbeats 3200000 in
set_option maxRecDepth 100000 in
theorem copyNodes {A : Option Addr} {n c : Nat} {l : List Nd} (w : World) (h : Sl RN 6 w w.heap.size A n c l) (hn : n ≤ 1048576) (hfit : ∀ x ∈ l, x.wish.list.length ≤ 1048576 ∧ x.wish.pairs.length ≤ 1048576) : Calls Try.prog 43 #[.slice A n c] w (RetNd w l) := by
  obtain ⟨i0, hi, hz0, hz1, hz2⟩ := info_parts info_node
  have HL := Lib.hid h.len
  have HFI := Lib.hid hfit
  go_enter Try.func43, Try.ntmps43
  go_wp2
  go_loopw [3, 5, 9] (fun vo v5 vk wr => ∃ (k : Nat) (ps : List NdC), k ≤ n ∧ vk = .int .i64 k ∧ Hid (ps.map (·.1) = l.take k) ∧ Hid (ps.length = k) ∧ PartN wr w.heap.size 55 3 92 vo ps ∧ Below w.heap.size w wr) (fun _ _ vk _ => n - (intOf vk).toNat)
  case atStart => exact ⟨0, [], Nat.zero_le _, rfl, rfl, rfl, PartN.nil w _ _ _, (Below.refl _ _).alloc (Nat.le_refl _) _⟩
  case round =>
    clear hfit
    obtain ⟨k, ps, hk, rfl, HM, HPL, hpart, hbw⟩ := hrel
    by_cases hlt : k < n
    · obtain ⟨b, o, x, A1, n1, c1, E1, m1, d1, rfl, hb, hx, hf, hs, ht1, g0, g1, g2, g3, g4, g5⟩ := nodeAt h hlt
      have e0 := ((cell_of hbw) b (o + k * 6) hb).trans g0
      have e1 := ((cell_of hbw) b (o + k * 6 + 1) hb).trans g1
      have e2 := ((cell_of hbw) b (o + k * 6 + 2) hb).trans g2
      have e3 := ((cell_of hbw) b (o + k * 6 + 3) hb).trans g3
      have e4 := ((cell_of hbw) b (o + k * 6 + 4) hb).trans g4
      have e5 := ((cell_of hbw) b (o + k * 6 + 5) hb).trans g5
      have hsz := hbw.size
      have BW := (Below.refl wr.heap.size wr).alloc (Nat.le_refl _) (.cells #[.int .i64 x.op, .int .i64 x.wish.kind, .int .i64 x.wish.field, .int .i64 x.wish.value, .slice A1 n1 c1, .slice E1 m1 d1] 55)
      have HS := Lib.hid ((hs.on RI.keeps hbw).on RI.keeps BW)
      have HT := Lib.hid ((ht1.on RP.keeps hbw).on RP.keeps BW)
      have HPT := Lib.hid (hpart.below BW)
      have HB := Lib.hid (hbw.trans (BW.mono hsz))
      obtain ⟨fl, fp⟩ := HFI.out x (List.mem_of_getElem? hx)
      have n1e : n1 ≤ 1048576 := by have := hs.len; omega
      have m1e : m1 ≤ 1048576 := by have := ht1.len; omega
      have HX := Lib.hid hx
      obtain ⟨A', c', hv, _, _⟩ := own_form hpart.out
      subst hv
      have hpl := HPL.out
      subst hpl
      have h63 : ps.length + 1 ≤ maxLen := by unfold maxLen; omega
      have hby : (ps.length + 1) * 80 ≤ 140737488355328 := by omega
      have hw : (wr.alloc (.cells #[.int .i64 x.op, .int .i64 x.wish.kind, .int .i64 x.wish.field, .int .i64 x.wish.value, .slice A1 n1 c1, .slice E1 m1 d1] 55)).heap.size = wr.heap.size + 1 := by simp
      have hne : some wr.heap.size ≠ (Value.slice A' ps.length c').ownBlock := fun e => by have := (hpart.out.lt _ e.symm).2; omega
      clear h hx g0 g1 g2 g3 g4 g5 hs ht1 hpart hbw BW hf
      go_wp2_with fail
      go_region_held3 (fun w' => Row w' wr.heap.size 55 [.int .i64 x.op, .int .i64 x.wish.kind, .int .i64 x.wish.field, .int .i64 x.wish.value, .slice A1 n1 c1, .slice E1 m1 d1] ∧ w'.cell? ⟨wr.heap.size, 0, none⟩ = some (.int .i64 x.op) ∧ w'.cell? ⟨wr.heap.size, 1, none⟩ = some (.int .i64 x.wish.kind) ∧ w'.cell? ⟨wr.heap.size, 2, none⟩ = some (.int .i64 x.wish.field) ∧ w'.cell? ⟨wr.heap.size, 3, none⟩ = some (.int .i64 x.wish.value) ∧ w'.cell? ⟨wr.heap.size, 4, none⟩ = some (.slice A1 n1 c1) ∧ w'.cell? ⟨wr.heap.size, 5, none⟩ = some (.slice E1 m1 d1)) (first | exact boxS (Row.new wr 55 [.int .i64 x.op, .int .i64 x.wish.kind, .int .i64 x.wish.field, .int .i64 x.wish.value, .slice A1 n1 c1, .slice E1 m1 d1]).drew | exact boxS hR8 | exact boxS (hR8.alloc _) | exact boxS ((hR8.alloc _).grown hgrow hne) | fail) (first | (go_simp; go_at_call 79; with_reducible (refine (copyWishE (x := x.wish) _ (sl_drew HS.out RI.keeps) (sl_drew HT.out RP.keeps) n1e m1e).mono ?_); rintro e w8 ⟨A2, c2, E2, d2, rfl, how, hb8⟩; have hR8 := row_of_drew hb8; have hS8 := below_of_drew hb8; have hs8 : w.heap.size ≤ w8.heap.size := Nat.le_trans HB.out.size hS8.size) | (refine step_append_lies _ (by rfl) _ _ _ (by rfl) w.heap.size 55 i0 _ 6 80 Try.underlying25 hi hz0 hz1 hz2 rfl (Nat.zero_lt_succ 5) _ _ _ (by rfl) ((HPT.out.below hS8).out.alloc _) ⟨w8.heap.size, 0, none⟩ 1 1 [.int .i64 x.op, .int .i64 x.wish.kind, .int .i64 x.wish.field, .int .i64 x.wish.value, .slice A2 x.wish.list.length c2, .slice E2 x.wish.pairs.length d2] (by rfl) (by rfl) (six_new _ _ _ _ _ _ _ _) (ones6 rfl rfl rfl rfl rfl rfl) Nat.one_pos h63 hby (Nat.le_trans hs8 (size_le_alloc _ _)) _ rfl ?_; intro gg cap w1 hown1 hgrow hat hgl) | fail)
      have hP1 : Hid (PartN w1 w.heap.size 55 3 92 (.slice (some ⟨gg, 0, none⟩) (ps.length + 1) cap) (ps ++ [(x, .slice A2 x.wish.list.length c2, .slice E2 x.wish.pairs.length d2)])) :=
        HPT.out.append (x := x) hS8 how (by first | exact Nat.le_refl _ | (simp; done)) HB.out.size ((Below.refl w8.heap.size w8).alloc (Nat.le_refl _) _) hgrow hown1 hat
      have hB1 := Lib.hid (((HB.out.trans (hS8.mono HB.out.size)).alloc hs8 (.cells #[.int .i64 x.op, .int .i64 x.wish.kind, .int .i64 x.wish.field, .int .i64 x.wish.value, .slice A2 x.wish.list.length c2, .slice E2 x.wish.pairs.length d2] 55)).grown hgrow (by simp; omega) (fun q hq => (HPT.out.out.lt q hq).1))
      have HM2 : Hid ((ps ++ [(x, Value.slice A2 x.wish.list.length c2, Value.slice E2 x.wish.pairs.length d2)]).map (·.1) = l.take (ps.length + 1)) := by
        show _ = _
        obtain ⟨hl, e⟩ := List.getElem?_eq_some_iff.1 HX.out
        rw [List.map_append, HM.out, List.take_succ_eq_append_getElem hl, e]
        rfl
      have HPL2 : Hid ((ps ++ [(x, Value.slice A2 x.wish.list.length c2, Value.slice E2 x.wish.pairs.length d2)]).length = ps.length + 1) := by show _ = _; rw [List.length_append]; rfl
      clear how hb8 hS8 hown1 hgrow hat
      go_wp2
      go_roundw
      case rel => exact ⟨ps.length + 1, _, by omega, by go_num, HM2, HPL2, hP1.out, hB1.out⟩
      case measure => simp [intOf]; omega
    · have hkn : k = n := by omega
      obtain ⟨A', c', hv, _, _⟩ := own_form hpart.out
      subst hv
      have HM3 : Hid (ps.map (·.1) = l) := by
        show _ = _
        rw [HM.out, List.take_of_length_le (by have := HL.out; omega)]
      have HO : Hid (OwnNd wr w.heap.size wr.heap.size (.slice A' ps.length c') l) := by
        refine ⟨ps, HM3.out, fun p hp => ⟨hpart.rows.each p hp, own_und (hpart.rows.each p hp).1, own_und (hpart.rows.each p hp).2.1⟩, hpart.rows.apart, ?_, own_und hpart.out, hpart.far⟩
        rw [← HM3.out, List.length_map]
        exact hpart.out
      clear h hpart
      go_wp2
      go_ret
      exact ⟨_, rfl, by first | exact HO.out | (rw [← HPL.out]; exact HO.out), hbw⟩
end Go.Proofs.Ytgjghpaenliliaa.Wk

namespace Go.Proofs.Ytgjghpaenliliaa.M
open Go Go.RowKit

theorem step_append_slice {P : Program} (w : World) {ops : Array Oper} {o : Oper} {a : Act} {K : Act → World → Prop} {Q : Exit → Act → World → Prop} {E : Prop} (hgd : o.guard = none) (s x : Operand) (t : TypeId)
    (ho : o.op = .call { callee := .builtin .append, args := #[s, x], argTypes := #[t, t] })
    (base : Nat) (e : TypeId) (i : TypeInfo) (z : Value) (size bytes : Nat) (ht : P.underlying t = some (.slice e)) (hi : P.info? e = some i) (hz : i.zero = some z)
    (hsize : i.size = size) (hby : i.bytes = bytes) (hzs : z.cells.size = size) (hsz : 0 < size)
    (v : Value) (n : Nat) (xs : List Value) (hs : a.eval s = v) (hown : w.ownsRow base e size v n xs)
    (A : Option Addr) (m c : Nat) (news : List Value) (hx : a.eval x = .slice A m c) (hl : news.length = m * size) (hA : 0 < m → A ≠ none) (hnews : ∀ ad, A = some ad → ∀ j u, news[j]? = some u → w.cell? (ad.add j) = some u) (h1 : ∀ u ∈ news, u.oneCell' = true)
    (h63 : n + m ≤ maxLen) (hbytes : (n + m) * bytes ≤ 140737488355328) (hbase : base ≤ w.heap.size) (H : Nat) (hH : w.heap.size = H)
    (h : ∀ v' w', w'.ownsRow base e size v' (n + m) (xs ++ news) → w.grownBy w' v.ownBlock → (v'.ownBlock = v.ownBlock ∨ v'.ownBlock = some H) → K (a.put o.dst v') w') :
    if Region.wanted o (yielded ops a.tmps) = true then Oper.wp P o a w K Q else E := by
  have hw : Region.wanted o (yielded ops a.tmps) = true := by simp [Region.wanted, hgd]
  rw [if_pos hw]
  cases A with
  | some ad =>
    obtain ⟨v', w', hr, h2, h3, _, h5⟩ := run_append_own_at (P := P) w base t o.type e i z size bytes ht hi hz hsize hby hzs hsz v n xs hown ad m c news hl (hnews ad rfl) h1 h63 hbytes hbase
    unfold Oper.wp execOp
    simp only [ho, resolve, invoke, builtin, Sem.run_bind, Sem.run_pure, Result.andThen_ok, List.map_toArray, List.map_cons, List.map_nil, hs, hx, hr]
    refine h v' w' h2 h3 ?_
    rcases h5 with h5 | h5
    · exact .inl h5
    · exact .inr (by rw [h5, hH])
  | none =>
    have hm : m = 0 := by
      rcases Nat.eq_zero_or_pos m with h0 | h0
      · exact h0
      · exact absurd rfl (hA h0)
    subst hm
    have hn0 : news = [] := List.eq_nil_of_length_eq_zero (by omega)
    subst hn0
    have hr := run_append_none (P := P) (w := w) base t o.type e i size ht hi v n c xs hown
    unfold Oper.wp execOp
    simp only [ho, resolve, invoke, builtin, Sem.run_bind, Sem.run_pure, Result.andThen_ok, List.map_toArray, List.map_cons, List.map_nil, hs, hx, hr]
    exact h v w (by simpa using hown) ⟨rfl, rfl, rfl, Nat.le_refl _, fun _ _ _ => rfl⟩ (.inl rfl)
end Go.Proofs.Ytgjghpaenliliaa.M

namespace Go.Proofs.Ytgjghpaenliliaa.Wk
open Go.RowKit Go.Proofs.Ytgjghpaenliliaa.M
set_option linter.unusedVariables false
attribute [local go_sem] cell_grow

section
variable {w X w5 w6 : World} {base E E1 sz g g2 H n1 : Nat} {v5 v6 : Value} {xs1 : List Value}
theorem lit_new (hg : X.heap.size = g) (hb : base ≤ g) (e sz : Nat) : (X.alloc (.cells #[] e)).drew.ownsRow base e sz (.slice (some ⟨g, 0, none⟩) 0 0) 0 [] := by
  subst hg
  exact own_mono (own_emptyS X e sz) hb
theorem own_ad {v : Value} {n : Nat} {xs : List Value} (h : X.drew.ownsRow base E sz v n xs) (o : Obj) : (X.alloc o).drew.ownsRow base E sz v n xs := h.alloc o
theorem row_ad {xs : List Value} (h : Row X.drew g E xs) (o : Obj) : Row (X.alloc o).drew g E xs := h.alloc o
theorem lit_block (g : Nat) : (Value.slice (some ⟨g, 0, none⟩) 0 0).ownBlock = some g := rfl
theorem first_ne (h : v5.ownBlock = (Value.slice (some ⟨g, 0, none⟩) 0 0).ownBlock ∨ v5.ownBlock = some H) (h1 : g ≠ g2) (h2 : H ≠ g2) : v5.ownBlock ≠ some g2 := by
  intro e
  rcases h with h | h
  · rw [h, lit_block] at e; injection e with e; exact h1 e
  · rw [h] at e; injection e with e; exact h2 e
theorem lit_ne (h1 : g ≠ g2) : ∀ q, (Value.slice (some ⟨g, 0, none⟩) 0 0).ownBlock = some q → some q ≠ (Value.slice (some ⟨g2, 0, none⟩) 0 0).ownBlock := by
  intro q hq e
  rw [lit_block] at hq e
  injection hq with hq
  injection e with e
  exact h1 (hq.trans e)
theorem second_old (ho5 : w5.ownsRow base E1 sz v5 n1 xs1) (hne : v5.ownBlock ≠ some g2) (hg6 : w5.grownBy w6 (Value.slice (some ⟨g2, 0, none⟩) 0 0).ownBlock) (ha6 : v6.ownBlock = (Value.slice (some ⟨g2, 0, none⟩) 0 0).ownBlock ∨ v6.ownBlock = some H) (hH : w5.heap.size = H) :
    w6.ownsRow base E1 sz v5 n1 xs1 ∧ Far v5 v6 := by
  refine ⟨own_grown ho5 hg6 (fun q hq e => hne (hq.trans (e.trans (lit_block g2)))), ?_⟩
  cases hq : v5.ownBlock with
  | none => exact .inl hq
  | some q =>
    refine .inr fun hh => ?_
    rcases ha6 with h | h
    · exact hne (hh.trans (h.trans (lit_block g2)))
    · rw [hq, h] at hh
      injection hh with hh
      have := (ho5.lt q hq).2
      omega
theorem second_new {o : Obj} (ho5 : w5.ownsRow base E1 sz v5 n1 xs1) (hg6 : (w5.alloc o).grownBy w6 (Value.slice (some ⟨w5.heap.size, 0, none⟩) 0 0).ownBlock) (ha6 : v6.ownBlock = (Value.slice (some ⟨w5.heap.size, 0, none⟩) 0 0).ownBlock ∨ v6.ownBlock = some H) (hH : (w5.alloc o).heap.size = H) :
    w6.ownsRow base E1 sz v5 n1 xs1 ∧ Far v5 v6 := by
  have hlt : ∀ q, v5.ownBlock = some q → q < w5.heap.size := fun q hq => (ho5.lt q hq).2
  rw [World.size_alloc] at hH
  refine ⟨own_grown (ho5.alloc o) hg6 (fun q hq e => ?_), ?_⟩
  · rw [lit_block] at e; injection e with e; have := hlt q hq; omega
  · cases hq : v5.ownBlock with
    | none => exact .inl hq
    | some q =>
      refine .inr fun hh => ?_
      have := hlt q hq
      rw [hq] at hh
      rcases ha6 with h | h
      · rw [h, lit_block] at hh; injection hh with hh; omega
      · rw [h] at hh; injection hh with hh; omega
theorem cells5 {g0 : Nat} {a b c d e : Value} (h : Row X g0 E [a, b, c, d, e]) : X.cell? ⟨g0, 0, none⟩ = some a ∧ X.cell? ⟨g0, 1, none⟩ = some b ∧ X.cell? ⟨g0, 2, none⟩ = some c ∧ X.cell? ⟨g0, 3, none⟩ = some d ∧ X.cell? ⟨g0, 4, none⟩ = some e := ⟨h.cell 0, h.cell 1, h.cell 2, h.cell 3, h.cell 4⟩
theorem fin2 {lo EE EP n m c5 c6 : Nat} {x : Wi} {A5 A6 : Option Addr} (h1 : X.ownsRow lo EE 1 (.slice A5 (0 + n) c5) (0 + n) ([] ++ x.list.map (Value.int .i64))) (h2 : X.ownsRow lo EP 2 (.slice A6 (0 + m) c6) (0 + m) ([] ++ prc x.pairs)) (hf : Far (.slice A5 (0 + n) c5) (.slice A6 (0 + m) c6)) (nl : x.list.length = n) (ml : x.pairs.length = m) : OwnW X lo EE EP x (.slice A5 n c5) (.slice A6 m c6) := by
  rw [Nat.zero_add, Nat.zero_add] at hf
  refine ⟨?_, ?_, hf⟩
  · rw [nl]; simpa using h1
  · rw [ml]; simpa using h2
theorem far_swap {u v : Value} (h : Far u v) : Far v u := by
  cases hq : v.ownBlock with
  | none => exact .inl hq
  | some q =>
    refine .inr fun hh => ?_
    rw [hq] at hh
    exact far_sym h q hq hh.symm
theorem row_gr {xs : List Value} {g0 : Nat} (h : Row X g0 E xs) (hg : X.grownBy w6 (Value.slice (some ⟨g2, 0, none⟩) 0 0).ownBlock) (h1 : g0 ≠ g2) : Row w6 g0 E xs := h.grown hg (fun e => by rw [lit_block] at e; injection e with e; exact h1 e)
end
section
variable {A E : Option Addr} {n c m d : Nat} {x : Wi} {w X w6 : World}
theorem s5 (hb : Below w.heap.size w X) (h : Row X w.heap.size 53 [.int .i64 x.kind, .int .i64 x.field, .int .i64 x.value, .slice A n c, .slice E m d]) : Below w.heap.size w X ∧ Row X w.heap.size 53 [.int .i64 x.kind, .int .i64 x.field, .int .i64 x.value, .slice A n c, .slice E m d] ∧ X.cell? ⟨w.heap.size, 0, none⟩ = some (.int .i64 x.kind) ∧ X.cell? ⟨w.heap.size, 1, none⟩ = some (.int .i64 x.field) ∧ X.cell? ⟨w.heap.size, 2, none⟩ = some (.int .i64 x.value) ∧ X.cell? ⟨w.heap.size, 3, none⟩ = some (.slice A n c) ∧ X.cell? ⟨w.heap.size, 4, none⟩ = some (.slice E m d) := ⟨hb, h, h.cell 0, h.cell 1, h.cell 2, h.cell 3, h.cell 4⟩
theorem s5_ad (h : Below w.heap.size w X.drew ∧ Row X.drew w.heap.size 53 [.int .i64 x.kind, .int .i64 x.field, .int .i64 x.value, .slice A n c, .slice E m d] ∧ X.drew.cell? ⟨w.heap.size, 0, none⟩ = some (.int .i64 x.kind) ∧ X.drew.cell? ⟨w.heap.size, 1, none⟩ = some (.int .i64 x.field) ∧ X.drew.cell? ⟨w.heap.size, 2, none⟩ = some (.int .i64 x.value) ∧ X.drew.cell? ⟨w.heap.size, 3, none⟩ = some (.slice A n c) ∧ X.drew.cell? ⟨w.heap.size, 4, none⟩ = some (.slice E m d)) (o : Obj) : Below w.heap.size w (X.alloc o).drew ∧ Row (X.alloc o).drew w.heap.size 53 [.int .i64 x.kind, .int .i64 x.field, .int .i64 x.value, .slice A n c, .slice E m d] ∧ (X.alloc o).drew.cell? ⟨w.heap.size, 0, none⟩ = some (.int .i64 x.kind) ∧ (X.alloc o).drew.cell? ⟨w.heap.size, 1, none⟩ = some (.int .i64 x.field) ∧ (X.alloc o).drew.cell? ⟨w.heap.size, 2, none⟩ = some (.int .i64 x.value) ∧ (X.alloc o).drew.cell? ⟨w.heap.size, 3, none⟩ = some (.slice A n c) ∧ (X.alloc o).drew.cell? ⟨w.heap.size, 4, none⟩ = some (.slice E m d) := s5 (h.1.alloc h.1.size o) (h.2.1.alloc o)
theorem s5_al (h : Below w.heap.size w X ∧ Row X w.heap.size 53 [.int .i64 x.kind, .int .i64 x.field, .int .i64 x.value, .slice A n c, .slice E m d] ∧ X.cell? ⟨w.heap.size, 0, none⟩ = some (.int .i64 x.kind) ∧ X.cell? ⟨w.heap.size, 1, none⟩ = some (.int .i64 x.field) ∧ X.cell? ⟨w.heap.size, 2, none⟩ = some (.int .i64 x.value) ∧ X.cell? ⟨w.heap.size, 3, none⟩ = some (.slice A n c) ∧ X.cell? ⟨w.heap.size, 4, none⟩ = some (.slice E m d)) (o : Obj) : Below w.heap.size w (X.alloc o) ∧ Row (X.alloc o) w.heap.size 53 [.int .i64 x.kind, .int .i64 x.field, .int .i64 x.value, .slice A n c, .slice E m d] ∧ (X.alloc o).cell? ⟨w.heap.size, 0, none⟩ = some (.int .i64 x.kind) ∧ (X.alloc o).cell? ⟨w.heap.size, 1, none⟩ = some (.int .i64 x.field) ∧ (X.alloc o).cell? ⟨w.heap.size, 2, none⟩ = some (.int .i64 x.value) ∧ (X.alloc o).cell? ⟨w.heap.size, 3, none⟩ = some (.slice A n c) ∧ (X.alloc o).cell? ⟨w.heap.size, 4, none⟩ = some (.slice E m d) := s5 (h.1.alloc h.1.size o) (h.2.1.alloc o)
theorem s5_gr {g2 : Nat} (h : Below w.heap.size w X ∧ Row X w.heap.size 53 [.int .i64 x.kind, .int .i64 x.field, .int .i64 x.value, .slice A n c, .slice E m d] ∧ X.cell? ⟨w.heap.size, 0, none⟩ = some (.int .i64 x.kind) ∧ X.cell? ⟨w.heap.size, 1, none⟩ = some (.int .i64 x.field) ∧ X.cell? ⟨w.heap.size, 2, none⟩ = some (.int .i64 x.value) ∧ X.cell? ⟨w.heap.size, 3, none⟩ = some (.slice A n c) ∧ X.cell? ⟨w.heap.size, 4, none⟩ = some (.slice E m d)) (hg : X.grownBy w6 (Value.slice (some ⟨g2, 0, none⟩) 0 0).ownBlock) (h1 : w.heap.size < g2) : Below w.heap.size w w6 ∧ Row w6 w.heap.size 53 [.int .i64 x.kind, .int .i64 x.field, .int .i64 x.value, .slice A n c, .slice E m d] ∧ w6.cell? ⟨w.heap.size, 0, none⟩ = some (.int .i64 x.kind) ∧ w6.cell? ⟨w.heap.size, 1, none⟩ = some (.int .i64 x.field) ∧ w6.cell? ⟨w.heap.size, 2, none⟩ = some (.int .i64 x.value) ∧ w6.cell? ⟨w.heap.size, 3, none⟩ = some (.slice A n c) ∧ w6.cell? ⟨w.heap.size, 4, none⟩ = some (.slice E m d) :=
  s5 (h.1.grown hg h.1.size (fun k hk => by rw [lit_block] at hk; injection hk with hk; omega)) (row_gr h.2.1 hg (by omega))
theorem s5_set (h : Below w.heap.size w X ∧ Row X w.heap.size 53 [.int .i64 x.kind, .int .i64 x.field, .int .i64 x.value, .slice A n c, .slice E m d] ∧ X.cell? ⟨w.heap.size, 0, none⟩ = some (.int .i64 x.kind) ∧ X.cell? ⟨w.heap.size, 1, none⟩ = some (.int .i64 x.field) ∧ X.cell? ⟨w.heap.size, 2, none⟩ = some (.int .i64 x.value) ∧ X.cell? ⟨w.heap.size, 3, none⟩ = some (.slice A n c) ∧ X.cell? ⟨w.heap.size, 4, none⟩ = some (.slice E m d)) {p : Addr} (hp : p.block = w.heap.size + 1) (u : Value) : Below w.heap.size w (X.setCell p u) ∧ Row (X.setCell p u) w.heap.size 53 [.int .i64 x.kind, .int .i64 x.field, .int .i64 x.value, .slice A n c, .slice E m d] ∧ (X.setCell p u).cell? ⟨w.heap.size, 0, none⟩ = some (.int .i64 x.kind) ∧ (X.setCell p u).cell? ⟨w.heap.size, 1, none⟩ = some (.int .i64 x.field) ∧ (X.setCell p u).cell? ⟨w.heap.size, 2, none⟩ = some (.int .i64 x.value) ∧ (X.setCell p u).cell? ⟨w.heap.size, 3, none⟩ = some (.slice A n c) ∧ (X.setCell p u).cell? ⟨w.heap.size, 4, none⟩ = some (.slice E m d) :=
  s5 (h.1.setCell (by omega) u) (h.2.1.far (by omega) u)
end
set_option maxHeartbeats 6400000 in
set_option maxRecDepth 100000 in
theorem l5Wish {A E : Option Addr} {n c m d : Nat} {x : Wi} (w : World) (h : Sl RI 1 w w.heap.size A n c x.list) (g : Sl RP 2 w w.heap.size E m d x.pairs) (hn : n ≤ 1048576) (hm : m ≤ 1048576) :
    Calls Try.prog 74 #[.agg #[.int .i64 x.kind, .int .i64 x.field, .int .i64 x.value, .slice A n c, .slice E m d]] w (RetWO w x) := by
  obtain ⟨i0, hi, hz0, hz1, hz2⟩ := info_parts info_p4
  obtain ⟨j0, ji, jz0, jz1, jz2⟩ := info_parts info_i4
  have HI := Lib.hid h
  have HP := Lib.hid g
  have B2 := ((Below.refl w.heap.size w).alloc (Nat.le_refl _) (.cells #[.int .i64 x.kind, .int .i64 x.field, .int .i64 x.value, .slice A n c, .slice E m d] 53)).alloc (by simp) (.cells #[.int .i64 0, .int .i64 0, .int .i64 0, .slice none 0 0, .slice none 0 0] 53)
  have R0 := (Row.new w 53 [.int .i64 x.kind, .int .i64 x.field, .int .i64 x.value, .slice A n c, .slice E m d]).alloc (.cells #[.int .i64 0, .int .i64 0, .int .i64 0, .slice none 0 0, .slice none 0 0] 53)
  have R1 : Row ((w.alloc (.cells #[.int .i64 x.kind, .int .i64 x.field, .int .i64 x.value, .slice A n c, .slice E m d] 53)).alloc (.cells #[.int .i64 0, .int .i64 0, .int .i64 0, .slice none 0 0, .slice none 0 0] 53)) (w.heap.size + 1) 53 [.int .i64 0, .int .i64 0, .int .i64 0, .slice none 0 0, .slice none 0 0] := by
    have := Row.new (w.alloc (.cells #[.int .i64 x.kind, .int .i64 x.field, .int .i64 x.value, .slice A n c, .slice E m d] 53)) 53 [.int .i64 0, .int .i64 0, .int .i64 0, .slice none 0 0, .slice none 0 0]
    rw [World.size_alloc] at this
    exact this
  have hsW : ((w.alloc (.cells #[.int .i64 x.kind, .int .i64 x.field, .int .i64 x.value, .slice A n c, .slice E m d] 53)).alloc (.cells #[.int .i64 0, .int .i64 0, .int .i64 0, .slice none 0 0, .slice none 0 0] 53)).heap.size = w.heap.size + 1 + 1 := by simp
  have hsW1 : (((w.alloc (.cells #[.int .i64 x.kind, .int .i64 x.field, .int .i64 x.value, .slice A n c, .slice E m d] 53)).alloc (.cells #[.int .i64 0, .int .i64 0, .int .i64 0, .slice none 0 0, .slice none 0 0] 53)).alloc (.cells #[] 3)).heap.size = w.heap.size + 1 + 1 + 1 := by simp
  have hsW2 : (((w.alloc (.cells #[.int .i64 x.kind, .int .i64 x.field, .int .i64 x.value, .slice A n c, .slice E m d] 53)).alloc (.cells #[.int .i64 0, .int .i64 0, .int .i64 0, .slice none 0 0, .slice none 0 0] 53)).alloc (.cells #[] 92)).heap.size = w.heap.size + 1 + 1 + 1 := by simp
  have le2 : w.heap.size + 1 + 1 ≤ w.heap.size + 1 + 1 := Nat.le_refl _
  have le3 : w.heap.size + 1 + 1 ≤ w.heap.size + 1 + 1 + 1 := Nat.le_succ _
  have n23 : w.heap.size + 1 + 1 ≠ w.heap.size + 1 + 1 + 1 := by omega
  have n32 : w.heap.size + 1 + 1 + 1 ≠ w.heap.size + 1 + 1 := by omega
  have n12 : w.heap.size + 1 ≠ w.heap.size + 1 + 1 := by omega
  have n13 : w.heap.size + 1 ≠ w.heap.size + 1 + 1 + 1 := by omega
  have l02 : w.heap.size < w.heap.size + 1 + 1 := by omega
  have l03 : w.heap.size < w.heap.size + 1 + 1 + 1 := by omega
  have hIl : (x.list.map (Value.int .i64)).length = n * 1 := by rw [List.length_map, h.len, Nat.mul_one]
  have hPl : (prc x.pairs).length = m * 2 := by rw [prc_len, g.len]
  have hI63 : 0 + n ≤ maxLen := by unfold maxLen; omega
  have hP63 : 0 + m ≤ maxLen := by unfold maxLen; omega
  have hIb : (0 + n) * 8 ≤ 140737488355328 := by omega
  have hPb : (0 + m) * 16 ≤ 140737488355328 := by omega
  have S0 := s5 B2.drew R0.drew
  have RD := R1.drew
  have hd1 : (((w.alloc (.cells #[.int .i64 x.kind, .int .i64 x.field, .int .i64 x.value, .slice A n c, .slice E m d] 53)).alloc (.cells #[.int .i64 0, .int .i64 0, .int .i64 0, .slice none 0 0, .slice none 0 0] 53)).alloc (.cells #[] 3)).drew.heap.size = w.heap.size + 1 + 1 + 1 := hsW1
  have hd2 : (((w.alloc (.cells #[.int .i64 x.kind, .int .i64 x.field, .int .i64 x.value, .slice A n c, .slice E m d] 53)).alloc (.cells #[.int .i64 0, .int .i64 0, .int .i64 0, .slice none 0 0, .slice none 0 0] 53)).alloc (.cells #[] 92)).drew.heap.size = w.heap.size + 1 + 1 + 1 := hsW2
  have hd12 : ((((w.alloc (.cells #[.int .i64 x.kind, .int .i64 x.field, .int .i64 x.value, .slice A n c, .slice E m d] 53)).alloc (.cells #[.int .i64 0, .int .i64 0, .int .i64 0, .slice none 0 0, .slice none 0 0] 53)).alloc (.cells #[] 3)).alloc (.cells #[] 92)).drew.heap.size = w.heap.size + 1 + 1 + 1 + 1 := by show ((((w.alloc (.cells #[.int .i64 x.kind, .int .i64 x.field, .int .i64 x.value, .slice A n c, .slice E m d] 53)).alloc (.cells #[.int .i64 0, .int .i64 0, .int .i64 0, .slice none 0 0, .slice none 0 0] 53)).alloc (.cells #[] 3)).alloc (.cells #[] 92)).heap.size = _; simp
  have hd21 : ((((w.alloc (.cells #[.int .i64 x.kind, .int .i64 x.field, .int .i64 x.value, .slice A n c, .slice E m d] 53)).alloc (.cells #[.int .i64 0, .int .i64 0, .int .i64 0, .slice none 0 0, .slice none 0 0] 53)).alloc (.cells #[] 92)).alloc (.cells #[] 3)).drew.heap.size = w.heap.size + 1 + 1 + 1 + 1 := by show ((((w.alloc (.cells #[.int .i64 x.kind, .int .i64 x.field, .int .i64 x.value, .slice A n c, .slice E m d] 53)).alloc (.cells #[.int .i64 0, .int .i64 0, .int .i64 0, .slice none 0 0, .slice none 0 0] 53)).alloc (.cells #[] 92)).alloc (.cells #[] 3)).heap.size = _; simp
  have hb1 : w.heap.size + 1 + 1 ≤ (((w.alloc (.cells #[.int .i64 x.kind, .int .i64 x.field, .int .i64 x.value, .slice A n c, .slice E m d] 53)).alloc (.cells #[.int .i64 0, .int .i64 0, .int .i64 0, .slice none 0 0, .slice none 0 0] 53)).alloc (.cells #[] 3)).drew.heap.size := by rw [hd1]; omega
  have hb2 : w.heap.size + 1 + 1 ≤ (((w.alloc (.cells #[.int .i64 x.kind, .int .i64 x.field, .int .i64 x.value, .slice A n c, .slice E m d] 53)).alloc (.cells #[.int .i64 0, .int .i64 0, .int .i64 0, .slice none 0 0, .slice none 0 0] 53)).alloc (.cells #[] 92)).drew.heap.size := by rw [hd2]; omega
  have hb12 : w.heap.size + 1 + 1 ≤ ((((w.alloc (.cells #[.int .i64 x.kind, .int .i64 x.field, .int .i64 x.value, .slice A n c, .slice E m d] 53)).alloc (.cells #[.int .i64 0, .int .i64 0, .int .i64 0, .slice none 0 0, .slice none 0 0] 53)).alloc (.cells #[] 3)).alloc (.cells #[] 92)).drew.heap.size := by rw [hd12]; omega
  have hb21 : w.heap.size + 1 + 1 ≤ ((((w.alloc (.cells #[.int .i64 x.kind, .int .i64 x.field, .int .i64 x.value, .slice A n c, .slice E m d] 53)).alloc (.cells #[.int .i64 0, .int .i64 0, .int .i64 0, .slice none 0 0, .slice none 0 0] 53)).alloc (.cells #[] 92)).alloc (.cells #[] 3)).drew.heap.size := by rw [hd21]; omega
  have n42 : w.heap.size + 1 + 1 + 1 + 1 ≠ w.heap.size + 1 + 1 := by omega
  have n43 : w.heap.size + 1 + 1 + 1 + 1 ≠ w.heap.size + 1 + 1 + 1 := by omega
  have nl : x.list.length = n := h.len
  have ml : x.pairs.length = m := g.len
  clear h g hn hm B2 R0 R1
  go_enter Try.func74, Try.ntmps74
  go_wp2_with fail
  go_region_held3 (fun w' => Below w.heap.size w w' ∧ Row w' w.heap.size 53 [.int .i64 x.kind, .int .i64 x.field, .int .i64 x.value, .slice A n c, .slice E m d] ∧ w'.cell? ⟨w.heap.size, 0, none⟩ = some (.int .i64 x.kind) ∧ w'.cell? ⟨w.heap.size, 1, none⟩ = some (.int .i64 x.field) ∧ w'.cell? ⟨w.heap.size, 2, none⟩ = some (.int .i64 x.value) ∧ w'.cell? ⟨w.heap.size, 3, none⟩ = some (.slice A n c) ∧ w'.cell? ⟨w.heap.size, 4, none⟩ = some (.slice E m d)) (first | exact S0 | exact s5_set (s5_set (s5_set (s5_set (s5_set (by assumption) rfl _) rfl _) rfl _) rfl _) rfl _ | exact s5_ad (by assumption) _ | exact s5_al (by assumption) _ | exact s5_gr (by assumption) hg6 l02 | exact s5_gr (by assumption) hg6 l03 | exact s5_gr (by assumption) hg5 l02 | exact s5_gr (by assumption) hg5 l03 | exact s5_gr (by assumption) hg6 (by have := hR.lt; omega) | exact s5_gr (by assumption) hg5 (by have := hR.lt; omega) | fail) (first | (refine step_append_slice _ (by rfl) _ _ 29 (by rfl) (w.heap.size + 1 + 1) 3 j0 _ 1 8 Try.underlying29 ji jz0 jz1 jz2 rfl Nat.one_pos _ _ _ (by rfl) (lit_new hsW le2 3 1) A n c (x.list.map (Value.int .i64)) (by rfl) hIl (slI_some HI.out) (slI_cells (HI.out.on RI.keeps (And.left (by assumption)))) (ints_one _) hI63 hIb (hb1) (w.heap.size + 1 + 1 + 1) hd1 ?_; intro v5 w5 ho5 hg5 ha5; obtain ⟨A5, c5, rfl, _, _⟩ := own_form ho5; have hRI := row_gr (row_ad RD (.cells #[] 3)) hg5 n12; have hbI : w.heap.size + 1 + 1 ≤ w5.heap.size := Nat.le_trans hb1 hg5.size) | (refine step_append_slice _ (by rfl) _ _ 29 (by rfl) (w.heap.size + 1 + 1) 3 j0 _ 1 8 Try.underlying29 ji jz0 jz1 jz2 rfl Nat.one_pos _ _ _ (by rfl) (own_ad (lit_new hsW le2 3 1) (.cells #[] 92)) A n c (x.list.map (Value.int .i64)) (by rfl) hIl (slI_some HI.out) (slI_cells (HI.out.on RI.keeps (And.left (by assumption)))) (ints_one _) hI63 hIb (hb12) (w.heap.size + 1 + 1 + 1 + 1) hd12 ?_; intro v5 w5 ho5 hg5 ha5; obtain ⟨A5, c5, rfl, _, _⟩ := own_form ho5; have hE := own_grown (lit_new hsW1 le3 92 2) hg5 (lit_ne n32); have hn5 := first_ne ha5 n23 n43; have hRI := row_gr (row_ad (row_ad RD (.cells #[] 3)) (.cells #[] 92)) hg5 n12; have hbI : w.heap.size + 1 + 1 ≤ w5.heap.size := Nat.le_trans hb12 hg5.size) | (refine step_append_slice _ (by rfl) _ _ 29 (by rfl) (w.heap.size + 1 + 1) 3 j0 _ 1 8 Try.underlying29 ji jz0 jz1 jz2 rfl Nat.one_pos _ _ _ (by rfl) (lit_new hsW2 le3 3 1) A n c (x.list.map (Value.int .i64)) (by rfl) hIl (slI_some HI.out) (slI_cells (HI.out.on RI.keeps (And.left (by assumption)))) (ints_one _) hI63 hIb (hb21) (w.heap.size + 1 + 1 + 1 + 1) hd21 ?_; intro v5 w5 ho5 hg5 ha5; obtain ⟨A5, c5, rfl, _, _⟩ := own_form ho5; have hE := own_grown (own_ad (lit_new hsW le2 92 2) (.cells #[] 3)) hg5 (lit_ne n23); have hn5 := first_ne ha5 n32 n42; have hRI := row_gr (row_ad (row_ad RD (.cells #[] 92)) (.cells #[] 3)) hg5 n13; have hbI : w.heap.size + 1 + 1 ≤ w5.heap.size := Nat.le_trans hb21 hg5.size) | (refine step_append_slice _ (by rfl) _ _ 29 (by rfl) (w.heap.size + 1 + 1) 3 j0 _ 1 8 Try.underlying29 ji jz0 jz1 jz2 rfl Nat.one_pos _ _ _ (by rfl) (own_mono (own_emptyS w6 3 1) hbP) A n c (x.list.map (Value.int .i64)) (by rfl) hIl (slI_some HI.out) (slI_cells (HI.out.on RI.keeps (And.left (by assumption)))) (ints_one _) hI63 hIb (Nat.le_trans hbP (size_le_alloc _ _)) _ rfl ?_; intro v5 w5 ho5 hg5 ha5; obtain ⟨A5, c5, rfl, _, _⟩ := own_form ho5; have F := second_new ho6 hg5 ha5 rfl; have hR := row_gr (hRP.alloc (.cells #[] 3)) hg5 (Nat.ne_of_lt (hRP.lt)); obtain ⟨q0, q1, q2, q3, q4⟩ := cells5 hR; have k0 := hR.free 0; have k1 := hR.free 1; have k2 := hR.free 2; have k3 := hR.free 3; have k4 := hR.free 4; have hRl := hR.lt) | (refine step_append_slice _ (by rfl) _ _ 29 (by rfl) (w.heap.size + 1 + 1) 3 j0 _ 1 8 Try.underlying29 ji jz0 jz1 jz2 rfl Nat.one_pos _ _ _ (by rfl) (hE) A n c (x.list.map (Value.int .i64)) (by rfl) hIl (slI_some HI.out) (slI_cells (HI.out.on RI.keeps (And.left (by assumption)))) (ints_one _) hI63 hIb (hbP) _ rfl ?_; intro v5 w5 ho5 hg5 ha5; obtain ⟨A5, c5, rfl, _, _⟩ := own_form ho5; have F := second_old ho6 hn5 hg5 ha5 rfl; have hR := row_gr hRP hg5 (by first | exact n12 | exact n13); obtain ⟨q0, q1, q2, q3, q4⟩ := cells5 hR; have k0 := hR.free 0; have k1 := hR.free 1; have k2 := hR.free 2; have k3 := hR.free 3; have k4 := hR.free 4; have hRl := hR.lt) | (refine step_append_slice _ (by rfl) _ _ 51 (by rfl) (w.heap.size + 1 + 1) 92 i0 _ 2 16 Try.underlying51 hi hz0 hz1 hz2 rfl (Nat.zero_lt_succ 1) _ _ _ (by rfl) (lit_new hsW le2 92 2) E m d (prc x.pairs) (by rfl) hPl (slI_some HP.out) (slP_cells (HP.out.on RP.keeps (And.left (by assumption)))) (prc_one _) hP63 hPb (hb2) (w.heap.size + 1 + 1 + 1) hd2 ?_; intro v6 w6 ho6 hg6 ha6; obtain ⟨A6, c6, rfl, _, _⟩ := own_form ho6; have hRP := row_gr (row_ad RD (.cells #[] 92)) hg6 n12; have hbP : w.heap.size + 1 + 1 ≤ w6.heap.size := Nat.le_trans hb2 hg6.size) | (refine step_append_slice _ (by rfl) _ _ 51 (by rfl) (w.heap.size + 1 + 1) 92 i0 _ 2 16 Try.underlying51 hi hz0 hz1 hz2 rfl (Nat.zero_lt_succ 1) _ _ _ (by rfl) (own_ad (lit_new hsW le2 92 2) (.cells #[] 3)) E m d (prc x.pairs) (by rfl) hPl (slI_some HP.out) (slP_cells (HP.out.on RP.keeps (And.left (by assumption)))) (prc_one _) hP63 hPb (hb21) (w.heap.size + 1 + 1 + 1 + 1) hd21 ?_; intro v6 w6 ho6 hg6 ha6; obtain ⟨A6, c6, rfl, _, _⟩ := own_form ho6; have hE := own_grown (lit_new hsW2 le3 3 1) hg6 (lit_ne n32); have hn5 := first_ne ha6 n23 n43; have hRP := row_gr (row_ad (row_ad RD (.cells #[] 92)) (.cells #[] 3)) hg6 n12; have hbP : w.heap.size + 1 + 1 ≤ w6.heap.size := Nat.le_trans hb21 hg6.size) | (refine step_append_slice _ (by rfl) _ _ 51 (by rfl) (w.heap.size + 1 + 1) 92 i0 _ 2 16 Try.underlying51 hi hz0 hz1 hz2 rfl (Nat.zero_lt_succ 1) _ _ _ (by rfl) (lit_new hsW1 le3 92 2) E m d (prc x.pairs) (by rfl) hPl (slI_some HP.out) (slP_cells (HP.out.on RP.keeps (And.left (by assumption)))) (prc_one _) hP63 hPb (hb12) (w.heap.size + 1 + 1 + 1 + 1) hd12 ?_; intro v6 w6 ho6 hg6 ha6; obtain ⟨A6, c6, rfl, _, _⟩ := own_form ho6; have hE := own_grown (own_ad (lit_new hsW le2 3 1) (.cells #[] 92)) hg6 (lit_ne n23); have hn5 := first_ne ha6 n32 n42; have hRP := row_gr (row_ad (row_ad RD (.cells #[] 3)) (.cells #[] 92)) hg6 n13; have hbP : w.heap.size + 1 + 1 ≤ w6.heap.size := Nat.le_trans hb12 hg6.size) | (refine step_append_slice _ (by rfl) _ _ 51 (by rfl) (w.heap.size + 1 + 1) 92 i0 _ 2 16 Try.underlying51 hi hz0 hz1 hz2 rfl (Nat.zero_lt_succ 1) _ _ _ (by rfl) (own_mono (own_emptyS w5 92 2) hbI) E m d (prc x.pairs) (by rfl) hPl (slI_some HP.out) (slP_cells (HP.out.on RP.keeps (And.left (by assumption)))) (prc_one _) hP63 hPb (Nat.le_trans hbI (size_le_alloc _ _)) _ rfl ?_; intro v6 w6 ho6 hg6 ha6; obtain ⟨A6, c6, rfl, _, _⟩ := own_form ho6; have F := second_new ho5 hg6 ha6 rfl; have hR := row_gr (hRI.alloc (.cells #[] 92)) hg6 (Nat.ne_of_lt (hRI.lt)); obtain ⟨q0, q1, q2, q3, q4⟩ := cells5 hR; have k0 := hR.free 0; have k1 := hR.free 1; have k2 := hR.free 2; have k3 := hR.free 3; have k4 := hR.free 4; have hRl := hR.lt) | (refine step_append_slice _ (by rfl) _ _ 51 (by rfl) (w.heap.size + 1 + 1) 92 i0 _ 2 16 Try.underlying51 hi hz0 hz1 hz2 rfl (Nat.zero_lt_succ 1) _ _ _ (by rfl) (hE) E m d (prc x.pairs) (by rfl) hPl (slI_some HP.out) (slP_cells (HP.out.on RP.keeps (And.left (by assumption)))) (prc_one _) hP63 hPb (hbI) _ rfl ?_; intro v6 w6 ho6 hg6 ha6; obtain ⟨A6, c6, rfl, _, _⟩ := own_form ho6; have F := second_old ho5 hn5 hg6 ha6 rfl; have hR := row_gr hRI hg6 (by first | exact n12 | exact n13); obtain ⟨q0, q1, q2, q3, q4⟩ := cells5 hR; have k0 := hR.free 0; have k1 := hR.free 1; have k2 := hR.free 2; have k3 := hR.free 3; have k4 := hR.free 4; have hRl := hR.lt) | fail)
  all_goals
    go_wp2
    refine bodyPost_ret (v := .agg #[.int .i64 x.kind, .int .i64 x.field, .int .i64 x.value, .slice A5 n c5, .slice A6 m c6]) (by simp [results, Try.results74, go_sem, q0, q1, q2, q3, q4]) rfl ?_
    refine ⟨_, _, rfl, OwnW.mono (lo := w.heap.size + 1 + 1) ?_ (by omega), ?_⟩
    · repeat (refine OwnW.far ?_ (by first | (simp; done) | (simp; omega)) _)
      first
        | exact fin2 F.1 ho6 F.2 nl ml
        | exact fin2 ho5 F.1 (far_swap F.2) nl ml
    · first
        | exact And.left (by assumption)
        | (repeat (refine Below.setCell ?_ (by first | (simp; done) | (simp; omega)) _)
           first
             | exact And.left (by assumption)
             | exact (s5_gr (by assumption) hg6 l02).1
             | exact (s5_gr (by assumption) hg6 l03).1
             | exact (s5_gr (by assumption) hg5 l02).1
             | exact (s5_gr (by assumption) hg5 l03).1)

end Go.Proofs.Ytgjghpaenliliaa.Wk

namespace Go.Proofs.Ytgjghpaenliliaa.P
open Go.Proofs.Ytgjghpaenliliaa.M
set_option linter.unusedVariables false

/-- The depth of the stack behind the first i nodes. -/
noncomputable def Dp (l : List Nd) (i : Nat) : Nat := (depth (l.take i) 0).getD 0
theorem dp_of {l : List Nd} {i d : Nat} (h : Dep l i d) : Dp l i = d := by unfold Dp; unfold Dep at h; rw [h]; rfl
theorem dp_zero (l : List Nd) : Dp l 0 = 0 := rfl
/-- A node turns the depth by one at most. -/
theorem dp_succ {l : List Nd} (h : okE l = true) {i : Nat} {x : Nd} (hx : l[i]? = some x) : Dp l (i + 1) + opnds x.op = Dp l i + 1 ∧ opnds x.op ≤ Dp l i ∧ opnds x.op ≤ 2 := by
  obtain ⟨hok, d, hd, ho⟩ := okE_at h hx
  have h1 := dp_of hd
  have h2 := dp_of (dep_step hd hx hok ho)
  refine ⟨by omega, by omega, ?_⟩
  unfold opnds
  repeat' split
  all_goals omega
/-- Down from i, the first place at which the depth is one less than t. -/
noncomputable def downE (l : List Nd) (t : Nat) : Nat → Nat
  | 0 => 0
  | i + 1 => if Dp l (i + 1) + 1 = t then i + 1 else downE l t i
noncomputable def startE (l : List Nd) (at_ : Nat) : Nat := downE l (Dp l (at_ + 1)) at_
theorem downE_hit {l : List Nd} {t i : Nat} (h : Dp l i + 1 = t) : downE l t i = i := by
  cases i with
  | zero => rfl
  | succ i => rw [downE, if_pos h]
theorem downE_miss {l : List Nd} {t i : Nat} (h : Dp l (i + 1) + 1 ≠ t) : downE l t (i + 1) = downE l t i := by rw [downE, if_neg h]
theorem downE_le (l : List Nd) (t : Nat) : ∀ i, downE l t i ≤ i
  | 0 => Nat.le_refl _
  | i + 1 => by
    rw [downE]
    split
    · exact Nat.le_refl _
    · have := downE_le l t i; omega
theorem startE_le (l : List Nd) (a : Nat) : startE l a ≤ a := downE_le _ _ _
end Go.Proofs.Ytgjghpaenliliaa.P

namespace Go.Proofs.Ytgjghpaenliliaa.Wk
open Go.RowKit Go.Proofs.Ytgjghpaenliliaa.M
set_option linter.unusedVariables false
attribute [local go_sem] cell_grow

set_option maxHeartbeats 1600000 in
theorem l6Start {B : Nat} {A : Option Addr} {n c : Nat} {l : List Nd} {a : Nat} (w : World) (h : Sl RN 6 w B A n c l) (hE : P.okE l = true) (ha : a < n) :
    Calls Try.prog 76 #[.slice A n c, .int .i64 a] w fun e w' => e = .returned (.int .i64 (P.startE l a)) ∧ w = w' := by
  have HL := Lib.hid h.len
  have HE := Lib.hid hE
  have hn9 : n ≤ 9 := by have := (P.okE_len hE).1; have := HL.out; omega
  have hle := h.le
  have HT : Hid (1 ≤ P.Dp l (a + 1)) := by
    obtain ⟨x, hx⟩ : ∃ x, l[a]? = some x := ⟨_, List.getElem?_eq_getElem (by have := HL.out; omega)⟩
    have := P.dp_succ hE hx
    show _ ≤ _
    omega
  clear hE
  go_enter Try.func76, Try.ntmps76
  go_wp2
  go_loop [5, 6] (fun vn vi => ∃ (i : Nat) (nd : Int), i ≤ a ∧ vi = .int .i64 i ∧ vn = .int .i64 nd ∧ Hid (nd = (P.Dp l (i + 1) : Int) + 1 - (P.Dp l (a + 1) : Int)) ∧ 1 ≤ nd ∧ nd ≤ 100 ∧ nd ≤ i + 2 ∧ Hid (P.startE l a = P.downE l (P.Dp l (a + 1)) i)) (fun _ vi => (intOf vi).toNat)
  case atStart => exact ⟨a, 1, Nat.le_refl _, rfl, rfl, by show _ = _; omega, by omega, by omega, by omega, rfl⟩
  case round =>
    obtain ⟨i, nd, hia, rfl, rfl, HND, hn1, hn100, hni, HST⟩ := hrel
    obtain ⟨b, o, x, A1, n1, c1, E1, m1, d1, rfl, hb, hx, hf, hs, ht1, g0, g1, g2, g3, g4, g5⟩ := nodeAt h (show i < n by omega)
    obtain ⟨s1, s2, s3⟩ := P.dp_succ HE.out hx
    have ht := HT.out
    have hnd := HND.out
    have q1 : (i : Int) < (n : Int) := by omega
    have HX := Lib.hid hx
    clear g1 g2 g3 g4 g5 hs ht1 hf h HND hx
    have hdp0 : i = 0 → P.Dp l i = 0 := fun e => by subst e; exact P.dp_zero l
    have miss : P.Dp l i + 1 ≠ P.Dp l (a + 1) → 0 < i → P.startE l a = P.downE l (P.Dp l (a + 1)) (i - 1) := fun h1 h2 => by
      rw [HST.out]
      obtain ⟨j, rfl⟩ : ∃ j, i = j + 1 := ⟨i - 1, by omega⟩
      exact P.downE_miss h1
    have hpr : 0 < i → (P.Dp l (i - 1 + 1) : Int) = P.Dp l i := fun h2 => by rw [show i - 1 + 1 = i by omega]
    have hi3 : P.Dp l i ≤ i := by
      have : ∃ d, P.Dep l i d := by
        obtain ⟨_, d, hd, _⟩ := P.okE_at HE.out HX.out
        exact ⟨d, hd⟩
      obtain ⟨d, hd⟩ := this
      rw [P.dp_of hd]; exact P.dep_le hd
    by_cases hc : x.op = 0
    · have hq : (x.op == 0) = true := by simpa using hc
      have ho : P.opnds x.op = 0 := by rw [hc]; rfl
      clear hc
      by_cases hz : nd - 1 = 0
      · have qz : (nd - 1 == 0) = true := by simpa using hz
        have HR : Hid (P.startE l a = i) := by show _ = _; rw [HST.out]; exact P.downE_hit (by omega)
        clear miss hpr hdp0
        go_wp2
        go_ret
        exact ⟨ret_int (by rw [HR.out]), rfl⟩
      · have qz : (nd - 1 == 0) = false := by simpa using hz
        have hi0 : 0 < i := by
          rcases Nat.eq_zero_or_pos i with h0 | h0
          · have := hdp0 h0; omega
          · exact h0
        have hpi := hpr hi0
        have HS2 := Lib.hid (miss (by omega) hi0)
        have HN2 : Hid (nd - 1 = (P.Dp l (i - 1 + 1) : Int) + 1 - (P.Dp l (a + 1) : Int)) := by show _ = _; rw [hpi]; omega
        have hp : 1 ≤ nd - 1 := by omega
        have hp2 : nd - 1 ≤ ((i - 1 : Nat) : Int) + 2 := by omega
        clear miss hpr hdp0
        go_wp2
        go_round
        case rel => exact ⟨i - 1, nd - 1, by omega, vint (by omega), (by first | rfl | exact vint (by omega)), HN2, hp, by omega, hp2, HS2⟩
        case measure => simp [intOf]; omega
    · have hq : (x.op == 0) = false := by simpa using hc
      by_cases hc3 : x.op = 3
      · have hq3 : (x.op == 3) = true := by simpa using hc3
        have ho : P.opnds x.op = 1 := by rw [hc3]; rfl
        have ez : nd - 1 + 1 = nd := by omega
        have qz : (nd == 0) = false := by simp; omega
        have qz2 : (nd - 1 + 1 == 0) = false := by simp; omega
        clear hc hc3
        have hi0 : 0 < i := by
          rcases Nat.eq_zero_or_pos i with h0 | h0
          · have := hdp0 h0; omega
          · exact h0
        have hpi := hpr hi0
        have HS2 := Lib.hid (miss (by omega) hi0)
        have HN2 : Hid (nd = (P.Dp l (i - 1 + 1) : Int) + 1 - (P.Dp l (a + 1) : Int)) := by show _ = _; rw [hpi]; omega
        have hp : 1 ≤ nd := by omega
        have hp2 : nd ≤ ((i - 1 : Nat) : Int) + 2 := by omega
        clear miss hpr hdp0
        go_wp2
        go_round
        case rel => exact ⟨i - 1, nd, by omega, vint (by omega), (by first | rfl | exact vint (by omega)), HN2, hp, by omega, hp2, HS2⟩
        case measure => simp [intOf]; omega
      · have hq3 : (x.op == 3) = false := by simpa using hc3
        have ho : P.opnds x.op = 2 := by unfold P.opnds; rw [if_neg hc, if_neg hc3]
        have ez : nd - 1 + 2 = nd + 1 := by omega
        have qz : (nd + 1 == 0) = false := by simp; omega
        have qz2 : (nd - 1 + 2 == 0) = false := by simp; omega
        clear hc hc3
        have hi0 : 0 < i := by
          rcases Nat.eq_zero_or_pos i with h0 | h0
          · have := hdp0 h0; omega
          · exact h0
        have hpi := hpr hi0
        have HS2 := Lib.hid (miss (by omega) hi0)
        have HN2 : Hid (nd + 1 = (P.Dp l (i - 1 + 1) : Int) + 1 - (P.Dp l (a + 1) : Int)) := by show _ = _; rw [hpi]; omega
        have hp : 1 ≤ nd + 1 := by omega
        have hp2 : nd + 1 ≤ ((i - 1 : Nat) : Int) + 2 := by omega
        clear miss hpr hdp0
        go_wp2
        go_round
        case rel => exact ⟨i - 1, nd + 1, by omega, vint (by omega), (by first | rfl | exact vint (by omega)), HN2, hp, by omega, hp2, HS2⟩
        case measure => simp [intOf]; omega
set_option maxHeartbeats 1600000 in
theorem startI {B : Nat} {A : Option Addr} {n c : Nat} {l : List Nd} {a : Nat} (w : World) (h : Sl RN 6 w B A n c l) (hE : P.okE l = true) (ha : a < n) :
    Calls Try.prog 45 #[.slice A n c, .int .i64 a] w fun e w' => e = .returned (.int .i64 (P.startE l a)) ∧ w = w' := by
  have HL := Lib.hid h.len
  have HE := Lib.hid hE
  have hn9 : n ≤ 9 := by have := (P.okE_len hE).1; have := HL.out; omega
  have hle := h.le
  have HT : Hid (1 ≤ P.Dp l (a + 1)) := by
    obtain ⟨x, hx⟩ : ∃ x, l[a]? = some x := ⟨_, List.getElem?_eq_getElem (by have := HL.out; omega)⟩
    have := P.dp_succ hE hx
    show _ ≤ _
    omega
  clear hE
  go_enter Try.func45, Try.ntmps45
  go_wp2
  go_loop [5, 6] (fun vn vi => ∃ (i : Nat) (nd : Int), i ≤ a ∧ vi = .int .i64 i ∧ vn = .int .i64 nd ∧ Hid (nd = (P.Dp l (i + 1) : Int) + 1 - (P.Dp l (a + 1) : Int)) ∧ 1 ≤ nd ∧ nd ≤ 100 ∧ nd ≤ i + 2 ∧ Hid (P.startE l a = P.downE l (P.Dp l (a + 1)) i)) (fun _ vi => (intOf vi).toNat)
  case atStart => exact ⟨a, 1, Nat.le_refl _, rfl, rfl, by show _ = _; omega, by omega, by omega, by omega, rfl⟩
  case round =>
    obtain ⟨i, nd, hia, rfl, rfl, HND, hn1, hn100, hni, HST⟩ := hrel
    obtain ⟨b, o, x, A1, n1, c1, E1, m1, d1, rfl, hb, hx, hf, hs, ht1, g0, g1, g2, g3, g4, g5⟩ := nodeAt h (show i < n by omega)
    obtain ⟨s1, s2, s3⟩ := P.dp_succ HE.out hx
    have ht := HT.out
    have hnd := HND.out
    have q1 : (i : Int) < (n : Int) := by omega
    have HX := Lib.hid hx
    clear g1 g2 g3 g4 g5 hs ht1 hf h HND hx
    have hdp0 : i = 0 → P.Dp l i = 0 := fun e => by subst e; exact P.dp_zero l
    have miss : P.Dp l i + 1 ≠ P.Dp l (a + 1) → 0 < i → P.startE l a = P.downE l (P.Dp l (a + 1)) (i - 1) := fun h1 h2 => by
      rw [HST.out]
      obtain ⟨j, rfl⟩ : ∃ j, i = j + 1 := ⟨i - 1, by omega⟩
      exact P.downE_miss h1
    have hpr : 0 < i → (P.Dp l (i - 1 + 1) : Int) = P.Dp l i := fun h2 => by rw [show i - 1 + 1 = i by omega]
    have hi3 : P.Dp l i ≤ i := by
      have : ∃ d, P.Dep l i d := by
        obtain ⟨_, d, hd, _⟩ := P.okE_at HE.out HX.out
        exact ⟨d, hd⟩
      obtain ⟨d, hd⟩ := this
      rw [P.dp_of hd]; exact P.dep_le hd
    obtain ⟨k, hk⟩ : ∃ k, P.opnds x.op = k := ⟨_, rfl⟩
    by_cases hz : nd - 1 + (k : Int) = 0
    · have qz : (nd - 1 + (k : Int) == 0) = true := by simpa using hz
      have HR : Hid (P.startE l a = i) := by show _ = _; rw [HST.out]; exact P.downE_hit (by omega)
      clear miss hpr hdp0
      (go_wp2_with (go_at_call 62; refine (operands _ _).mono ?_; rintro e w9 ⟨rfl, rfl⟩; rw [hk]))
      go_ret
      exact ⟨ret_int (by rw [HR.out]), rfl⟩
    · have qz : (nd - 1 + (k : Int) == 0) = false := by simpa using hz
      have hi0 : 0 < i := by
        rcases Nat.eq_zero_or_pos i with h0 | h0
        · have := hdp0 h0; omega
        · exact h0
      have hpi := hpr hi0
      have HS2 := Lib.hid (miss (by omega) hi0)
      have HN2 : Hid (nd - 1 + (k : Int) = (P.Dp l (i - 1 + 1) : Int) + 1 - (P.Dp l (a + 1) : Int)) := by show _ = _; rw [hpi]; omega
      have hp : 1 ≤ nd - 1 + (k : Int) := by omega
      have hp2 : nd - 1 + (k : Int) ≤ ((i - 1 : Nat) : Int) + 2 := by omega
      clear miss hpr hdp0
      (go_wp2_with (go_at_call 62; refine (operands _ _).mono ?_; rintro e w9 ⟨rfl, rfl⟩; rw [hk]))
      go_round
      case rel => exact ⟨i - 1, nd - 1 + (k : Int), by omega, vint (by omega), (by first | rfl | exact vint (by omega)), HN2, hp, by omega, hp2, HS2⟩
      case measure => simp [intOf]; omega
end Go.Proofs.Ytgjghpaenliliaa.Wk

namespace Go.Proofs.Ytgjghpaenliliaa.Wk
open Go.RowKit Go.Proofs.Ytgjghpaenliliaa.M
set_option linter.unusedVariables false
attribute [local go_sem] cell_grow

theorem l5WishE {A E : Option Addr} {n c m d : Nat} {x : Wi} (w : World) (h : Sl RI 1 w w.heap.size A n c x.list) (g : Sl RP 2 w w.heap.size E m d x.pairs) (hn : n ≤ 1048576) (hm : m ≤ 1048576) :
    Calls Try.prog 74 #[.agg #[.int .i64 x.kind, .int .i64 x.field, .int .i64 x.value, .slice A n c, .slice E m d]] w fun e w' => ∃ A2 c2 E2 d2, e = .returned (.agg #[.int .i64 x.kind, .int .i64 x.field, .int .i64 x.value, .slice A2 x.list.length c2, .slice E2 x.pairs.length d2]) ∧ OwnW w' w.heap.size 3 92 x (.slice A2 x.list.length c2) (.slice E2 x.pairs.length d2) ∧ Below w.heap.size w w' :=
  (l5Wish w h g hn hm).mono fun e w' ⟨u, v, he, ho, hb⟩ => by
    obtain ⟨A2, c2, rfl, _, _⟩ := own_form ho.1
    obtain ⟨E2, d2, rfl, _, _⟩ := own_form ho.2.1
    exact ⟨A2, c2, E2, d2, he, ho, hb⟩
theorem below_drew {W w8 : World} (h : Below W.drew.heap.size W.drew w8) : Below W.heap.size W w8 := (Below.refl W.heap.size W).drew.trans h
theorem six {b o : Nat} {a1 a2 a3 a4 a5 a6 : Value} {w w' : World} {B : Nat} (hb : Below B w w') (hlt : b < B) (h : w.cell? ⟨b, o, none⟩ = some a1 ∧ w.cell? ⟨b, o + 1, none⟩ = some a2 ∧ w.cell? ⟨b, o + 2, none⟩ = some a3 ∧ w.cell? ⟨b, o + 3, none⟩ = some a4 ∧ w.cell? ⟨b, o + 4, none⟩ = some a5 ∧ w.cell? ⟨b, o + 5, none⟩ = some a6) :
    w'.cell? ⟨b, o, none⟩ = some a1 ∧ w'.cell? ⟨b, o + 1, none⟩ = some a2 ∧ w'.cell? ⟨b, o + 2, none⟩ = some a3 ∧ w'.cell? ⟨b, o + 3, none⟩ = some a4 ∧ w'.cell? ⟨b, o + 4, none⟩ = some a5 ∧ w'.cell? ⟨b, o + 5, none⟩ = some a6 := by
  obtain ⟨h1, h2, h3, h4, h5, h6⟩ := h
  exact ⟨(cell_of hb _ _ hlt).trans h1, (cell_of hb _ _ hlt).trans h2, (cell_of hb _ _ hlt).trans h3, (cell_of hb _ _ hlt).trans h4, (cell_of hb _ _ hlt).trans h5, (cell_of hb _ _ hlt).trans h6⟩
theorem grown_base {X w1 : World} {B : Nat} {row : Option Nat} (hg : X.grownBy w1 row) (hB : B ≤ X.heap.size) (hr : ∀ q, row = some q → B ≤ q) : Below B X w1 := (Below.refl B X).grown hg hB hr
set_option maxHeartbeats 3200000 in
set_option maxRecDepth 100000 in
theorem l5Copy {A : Option Addr} {n c : Nat} {l : List Nd} (w : World) (h : Sl RN 6 w w.heap.size A n c l) (hn : n ≤ 1048576) (hfit : ∀ x ∈ l, x.wish.list.length ≤ 1048576 ∧ x.wish.pairs.length ≤ 1048576) : Calls Try.prog 40 #[.slice A n c] w (RetNd w l) := by
  obtain ⟨i0, hi, hz0, hz1, hz2⟩ := info_parts info_node
  have HL := Lib.hid h.len
  have HFI := Lib.hid hfit
  have hle := h.le
  go_enter Try.func40, Try.ntmps40
  go_wp2
  go_loopw [3, 4] (fun vo vk wr => ∃ (k : Nat) (ps : List NdC), k ≤ n ∧ vk = .int .i64 k ∧ Hid (ps.map (·.1) = l.take k) ∧ Hid (ps.length = k) ∧ PartN wr w.heap.size 55 3 92 vo ps ∧ Below w.heap.size w wr) (fun _ vk _ => n - (intOf vk).toNat)
  case atStart => exact ⟨0, [], Nat.zero_le _, rfl, rfl, rfl, PartN.nil w _ _ _, (Below.refl _ _).alloc (Nat.le_refl _) _⟩
  case round =>
    clear hfit
    obtain ⟨k, ps, hk, rfl, HM, HPL, hpart, hbw⟩ := hrel
    by_cases hlt : k < n
    · obtain ⟨b, o, x, A1, n1, c1, E1, m1, d1, rfl, hb, hx, hf, hs, ht1, g0, g1, g2, g3, g4, g5⟩ := nodeAt h hlt
      have e0 := ((cell_of hbw) b (o + k * 6) hb).trans g0
      have e1 := ((cell_of hbw) b (o + k * 6 + 1) hb).trans g1
      have e2 := ((cell_of hbw) b (o + k * 6 + 2) hb).trans g2
      have e3 := ((cell_of hbw) b (o + k * 6 + 3) hb).trans g3
      have e4 := ((cell_of hbw) b (o + k * 6 + 4) hb).trans g4
      have e5 := ((cell_of hbw) b (o + k * 6 + 5) hb).trans g5
      have hsz := hbw.size
      have i1 : b < wr.heap.size := by omega
      have HS := Lib.hid (hs.on RI.keeps hbw)
      have HT := Lib.hid (ht1.on RP.keeps hbw)
      have HPT := Lib.hid hpart
      have HB := Lib.hid hbw
      obtain ⟨fl, fp⟩ := HFI.out x (List.mem_of_getElem? hx)
      have n1e : n1 ≤ 1048576 := by have := hs.len; omega
      have m1e : m1 ≤ 1048576 := by have := ht1.len; omega
      have HX := Lib.hid hx
      obtain ⟨A', c', hv, _, _⟩ := own_form hpart.out
      subst hv
      have hpl := HPL.out
      subst hpl
      have h63 : ps.length + 1 ≤ maxLen := by unfold maxLen; omega
      have hby : (ps.length + 1) * 80 ≤ 140737488355328 := by omega
      have q1 : (ps.length : Int) < (n : Int) := by omega
      have q2 : (n : Int) ≤ (c : Int) := by omega
      have bw : b < w.heap.size := hb
      have hrow : ∀ q, (Value.slice A' ps.length c').ownBlock = some q → w.heap.size ≤ q := fun q hq => (hpart.out.lt q hq).1
      have C0 := six (Below.refl wr.heap.size wr).drew i1 ⟨e0, e1, e2, e3, e4, e5⟩
      clear h hx g0 g1 g2 g3 g4 g5 hs ht1 hpart hbw hf e0 e1 e2 e3 e4 e5
      go_wp2_with fail
      go_region_held3 (fun w' => w'.cell? ⟨b, o + ps.length * 6, none⟩ = some (.int .i64 x.op) ∧ w'.cell? ⟨b, o + ps.length * 6 + 1, none⟩ = some (.int .i64 x.wish.kind) ∧ w'.cell? ⟨b, o + ps.length * 6 + 2, none⟩ = some (.int .i64 x.wish.field) ∧ w'.cell? ⟨b, o + ps.length * 6 + 3, none⟩ = some (.int .i64 x.wish.value) ∧ w'.cell? ⟨b, o + ps.length * 6 + 4, none⟩ = some (.slice A1 n1 c1) ∧ w'.cell? ⟨b, o + ps.length * 6 + 5, none⟩ = some (.slice E1 m1 d1)) (first | exact C0 | exact C8 | exact six ((Below.refl _ _).alloc (Nat.le_refl _) _) (Nat.lt_of_lt_of_le bw hs8) C8 | exact six (grown_base hgrow (Nat.le_trans hs8 (size_le_alloc _ _)) hrow) bw (six ((Below.refl _ _).alloc (Nat.le_refl _) _) (Nat.lt_of_lt_of_le bw hs8) C8) | fail) (first | (go_simp; go_at_call 74; with_reducible (refine (l5WishE (x := x.wish) _ (sl_drew HS.out RI.keeps) (sl_drew HT.out RP.keeps) n1e m1e).mono ?_); rintro e w8 ⟨A2, c2, E2, d2, rfl, how, hb8⟩; have hS8 := below_drew hb8; have hs8 : w.heap.size ≤ w8.heap.size := Nat.le_trans HB.out.size hS8.size; have C8 := six hb8 i1 C0) | (refine step_append_lies _ (by rfl) _ _ _ (by rfl) w.heap.size 55 i0 _ 6 80 Try.underlying25 hi hz0 hz1 hz2 rfl (Nat.zero_lt_succ 5) _ _ _ (by rfl) ((HPT.out.below hS8).out.alloc _) ⟨w8.heap.size, 0, none⟩ 1 1 [.int .i64 x.op, .int .i64 x.wish.kind, .int .i64 x.wish.field, .int .i64 x.wish.value, .slice A2 x.wish.list.length c2, .slice E2 x.wish.pairs.length d2] (by rfl) (by rfl) (six_new _ _ _ _ _ _ _ _) (ones6 rfl rfl rfl rfl rfl rfl) Nat.one_pos h63 hby (Nat.le_trans hs8 (size_le_alloc _ _)) _ rfl ?_; intro gg cap w1 hown1 hgrow hat hgl) | fail)
      have hP1 : Hid (PartN w1 w.heap.size 55 3 92 (.slice (some ⟨gg, 0, none⟩) (ps.length + 1) cap) (ps ++ [(x, .slice A2 x.wish.list.length c2, .slice E2 x.wish.pairs.length d2)])) :=
        HPT.out.append (x := x) hS8 how (by first | exact Nat.le_refl _ | (simp; done)) HB.out.size ((Below.refl w8.heap.size w8).alloc (Nat.le_refl _) _) hgrow hown1 hat
      have hB1 := Lib.hid (((HB.out.trans (hS8.mono HB.out.size)).alloc hs8 (.cells #[.int .i64 x.op, .int .i64 x.wish.kind, .int .i64 x.wish.field, .int .i64 x.wish.value, .slice A2 x.wish.list.length c2, .slice E2 x.wish.pairs.length d2] 55)).grown hgrow (by simp; omega) hrow)
      have HM2 : Hid ((ps ++ [(x, Value.slice A2 x.wish.list.length c2, Value.slice E2 x.wish.pairs.length d2)]).map (·.1) = l.take (ps.length + 1)) := by
        show _ = _
        obtain ⟨hl, e⟩ := List.getElem?_eq_some_iff.1 HX.out
        rw [List.map_append, HM.out, List.take_succ_eq_append_getElem hl, e]
        rfl
      have HPL2 : Hid ((ps ++ [(x, Value.slice A2 x.wish.list.length c2, Value.slice E2 x.wish.pairs.length d2)]).length = ps.length + 1) := by show _ = _; rw [List.length_append]; rfl
      clear how hb8 hS8 hown1 hgrow hat
      go_wp2
      go_roundw
      case rel => exact ⟨ps.length + 1, _, by omega, by go_num, HM2, HPL2, hP1.out, hB1.out⟩
      case measure => simp [intOf]; omega
    · have hkn : k = n := by omega
      obtain ⟨A', c', hv, _, _⟩ := own_form hpart.out
      subst hv
      have HM3 : Hid (ps.map (·.1) = l) := by
        show _ = _
        rw [HM.out, List.take_of_length_le (by have := HL.out; omega)]
      have HO : Hid (OwnNd wr w.heap.size wr.heap.size (.slice A' ps.length c') l) := by
        refine ⟨ps, HM3.out, fun p hp => ⟨hpart.rows.each p hp, own_und (hpart.rows.each p hp).1, own_und (hpart.rows.each p hp).2.1⟩, hpart.rows.apart, ?_, own_und hpart.out, hpart.far⟩
        rw [← HM3.out, List.length_map]
        exact hpart.out
      clear h hpart
      go_wp2
      go_ret
      exact ⟨_, rfl, by first | exact HO.out | (rw [← HPL.out]; exact HO.out), hbw⟩
end Go.Proofs.Ytgjghpaenliliaa.Wk

namespace Go.Proofs.Ytgjghpaenliliaa.Wk
open Go.RowKit Go.Proofs.Ytgjghpaenliliaa.M
set_option linter.unusedVariables false
attribute [local go_sem] cell_grow

/-- What Subtree answers. -/
noncomputable def subR (l : List Nd) (a : Int) : List Nd := if P.okE l && P.inR a 0 ((l.length : Int) - 1) then (l.drop (P.startE l a.toNat)).take (a.toNat + 1 - P.startE l a.toNat) else []
theorem subR_mem {l : List Nd} {a : Int} {x : Nd} (h : x ∈ subR l a) : x ∈ l := by
  unfold subR at h
  split at h
  · exact List.mem_of_mem_drop (List.mem_of_mem_take h)
  · simp at h
theorem okE_fit {l : List Nd} (h : P.okE l = true) : ∀ x ∈ l, x.wish.list.length ≤ 1048576 ∧ x.wish.pairs.length ≤ 1048576 := by
  intro x hx
  obtain ⟨i, hi⟩ := List.getElem?_of_mem hx
  have hok := (P.okE_at h hi).1
  unfold P.okN at hok
  rw [Bool.and_eq_true] at hok
  obtain ⟨_, h2⟩ := hok
  split at h2
  · have h3 := P.okW_listlen h2
    have h4 := P.okW_pairslen h2
    omega
  · unfold P.noW at h2
    simp only [decide_eq_true_eq] at h2
    obtain ⟨_, _, _, h3, h4⟩ := h2
    rw [h3, h4]; simp
theorem ownNd_nil (w w' : World) (hb : Below (w.alloc (.cells #[] 55)).heap.size (w.alloc (.cells #[] 55)) w') : OwnNd w' w.heap.size w'.heap.size (.slice (some ⟨w.heap.size, 0, none⟩) 0 0) [] := by
  have h := own_below (own_emptyS w 55 6) hb
  exact ⟨[], rfl, fun p hp => absurd hp (by simp), by simp [ndv], h, own_und h, fun u hu => absurd hu (by simp [ndv])⟩
theorem ownNd_mono {w : World} {lo lo' hi : Nat} {v : Value} {l : List Nd} (h : OwnNd w lo hi v l) (hl : lo' ≤ lo) : OwnNd w lo' hi v l := by
  obtain ⟨ps, h1, h2, h3, h4, h5, h6⟩ := h
  exact ⟨ps, h1, fun p hp => ⟨(h2 p hp).1.mono hl, (h2 p hp).2⟩, h3, own_mono h4 hl, h5, h6⟩
end Go.Proofs.Ytgjghpaenliliaa.Wk

namespace Go.Proofs.Ytgjghpaenliliaa.M
open Go Go.RowKit

section
variable {P : Program} {w : World} {ops : Array Oper} {rest : List Oper} {o : Oper} {a : Act} {Q : Exit → Act → World → Prop}
theorem append_at (hgd : o.guard = none) (s x : Operand) (t : TypeId)
    (ho : o.op = .call { callee := .builtin .append, args := #[s, x], argTypes := #[t, t] })
    (base : Nat) (e : TypeId) (i : TypeInfo) (z : Value) (size bytes : Nat) (ht : P.underlying t = some (.slice e)) (hi : P.info? e = some i) (hz : i.zero = some z)
    (hsize : i.size = size) (hby : i.bytes = bytes) (hzs : z.cells.size = size) (hsz : 0 < size)
    (v : Value) (n : Nat) (xs : List Value) (hs : a.eval s = v) (hown : w.ownsRow base e size v n xs)
    (A : Option Addr) (m c : Nat) (news : List Value) (hx : a.eval x = .slice A m c) (hl : news.length = m * size) (hA : 0 < m → A ≠ none) (hnews : ∀ ad, A = some ad → ∀ j u, news[j]? = some u → w.cell? (ad.add j) = some u) (h1 : ∀ u ∈ news, u.oneCell' = true)
    (h63 : n + m ≤ maxLen) (hbytes : (n + m) * bytes ≤ 140737488355328) (hbase : base ≤ w.heap.size)
    (h : ∀ v' w', w'.ownsRow base e size v' (n + m) (xs ++ news) → w.grownBy w' v.ownBlock → (v'.ownBlock = v.ownBlock ∨ v'.ownBlock = some w.heap.size) → wpList P ops Q rest (a.put o.dst v') w') : wpList P ops Q (o :: rest) a w := by
  cases A with
  | some ad =>
    obtain ⟨v', w', hr, h2, h3, _, h5⟩ := run_append_own_at (P := P) (w := w) base t o.type e i z size bytes ht hi hz hsize hby hzs hsz v n xs hown ad m c news hl (hnews ad rfl) h1 h63 hbytes hbase
    refine wpList_plain hgd fun K hK => ?_
    unfold Oper.wp
    simp [execOp, ho, resolve, invoke, builtin, hs, hx, hr, Result.andThen]
    exact hK _ _ (h v' w' h2 h3 h5)
  | none =>
    have hm : m = 0 := by
      rcases Nat.eq_zero_or_pos m with h0 | h0
      · exact h0
      · exact absurd rfl (hA h0)
    subst hm
    have hn0 : news = [] := List.eq_nil_of_length_eq_zero (by omega)
    subst hn0
    exact wpList_append_none hgd s x t ho base e i size ht hi v n c xs hs hown hx (h v w (by simpa using hown) ⟨rfl, rfl, rfl, Nat.le_refl _, fun _ _ _ => rfl⟩ (.inl rfl))
end
theorem oneC_of {w : World} {base E sz n : Nat} {v : Value} {xs : List Value} (h : w.ownsRow base E sz v n xs) : v.oneCell' = true := by
  obtain ⟨A, c, rfl, _⟩ := own_form h
  rfl
theorem ndc_one {w : World} {lo E EP : Nat} {ps : List NdC} (h : OwnNs w lo E EP ps) : ∀ u ∈ ndc ps, u.oneCell' = true := by
  intro u hu
  unfold ndc at hu
  obtain ⟨p, hp, hup⟩ := List.mem_flatMap.1 hu
  obtain ⟨h1, h2, _⟩ := h.each p hp
  unfold nd6 at hup
  simp at hup
  rcases hup with rfl | rfl | rfl | rfl | rfl | rfl
  · rfl
  · rfl
  · rfl
  · rfl
  · exact oneC_of h1
  · exact oneC_of h2
theorem own_cells {w : World} {base E sz n : Nat} {A : Option Addr} {m c : Nat} {xs : List Value} (h : w.ownsRow base E sz (.slice A m c) n xs) : (0 < n → A ≠ none) ∧ ∀ ad, A = some ad → ∀ j u, xs[j]? = some u → w.cell? (ad.add j) = some u := by
  rcases h.2 with ⟨h1, h2⟩ | ⟨g, c', cur, h1, h2⟩
  · injection h1 with h1 _ _
    subst h1
    exact ⟨fun h0 => absurd h2 (by omega), fun ad hA => by cases hA⟩
  · injection h1 with e1 _ _
    subst e1
    refine ⟨fun _ => by simp, fun ad hA => ?_⟩
    injection hA with hA
    subst hA
    exact h.cells (g := g) rfl
/-- A list of nodes of the call's own, behind which others are laid. -/
theorem PartN.join {w0 w w' : World} {lo lo2 EN E EP : Nat} {v v' : Value} {ps qs : List NdC} (h1 : PartN w0 lo EN E EP v ps) (hb : Below w0.heap.size w0 w) (h2 : OwnNs w lo2 E EP qs) (hlo2 : w0.heap.size ≤ lo2) (hlo : lo ≤ lo2)
    (hg : w.grownBy w' v.ownBlock) (hown : w'.ownsRow lo EN 6 v' (ps.length + qs.length) (ndc ps ++ ndc qs)) (hat : v'.ownBlock = v.ownBlock ∨ v'.ownBlock = some w.heap.size) : PartN w' lo EN E EP v' (ps ++ qs) := by
  have R1 := h1.rows.below hb
  have hnv : ndv (ps ++ qs) = ndv ps ++ ndv qs := by unfold ndv; rw [List.flatMap_append]
  have hnc : ndc (ps ++ qs) = ndc ps ++ ndc qs := by unfold ndc; rw [List.flatMap_append]
  have key : ∀ u ∈ ndv (ps ++ qs), ∀ q, u.ownBlock = some q → v.ownBlock ≠ some q ∧ q < w.heap.size := by
    intro u hu q hq
    rw [hnv] at hu
    rcases List.mem_append.1 hu with hu | hu
    · refine ⟨fun hv => ?_, (R1.lt hu hq).2⟩
      rcases h1.far u hu with e | e
      · rw [hq] at e; cases e
      · exact e (hq.trans hv.symm)
    · have := h2.lt hu hq
      exact ⟨fun hv => by have := (h1.out.lt q hv).2; omega, this.2⟩
  have AP : (ndv (ps ++ qs)).Pairwise Far := by
    rw [hnv, List.pairwise_append]
    refine ⟨h1.rows.apart, h2.apart, fun a ha c hc => ?_⟩
    cases hva : a.ownBlock with
    | none => exact .inl hva
    | some g =>
      refine .inr fun hh => ?_
      rw [hva] at hh
      have g1 := (h1.rows.lt ha hva).2
      have g2 := (h2.lt hc hh.symm).1
      omega
  refine ⟨⟨fun p hp => ?_, AP⟩, ?_, fun u hu => ?_⟩
  · have m1 : p.2.1 ∈ ndv (ps ++ qs) := List.mem_flatMap.2 ⟨p, hp, by simp⟩
    have m2 : p.2.2 ∈ ndv (ps ++ qs) := List.mem_flatMap.2 ⟨p, hp, by simp⟩
    have a0 : OwnW w lo E EP p.1.wish p.2.1 p.2.2 := by
      rcases List.mem_append.1 hp with hp | hp
      · exact R1.each p hp
      · exact (h2.each p hp).mono hlo
    obtain ⟨a1, a2, a3⟩ := a0
    exact ⟨own_grown a1 hg (fun q hq e => (key _ m1 q hq).1 e.symm), own_grown a2 hg (fun q hq e => (key _ m2 q hq).1 e.symm), a3⟩
  · rw [hnc, List.length_append]
    exact hown
  · cases hq : u.ownBlock with
    | none => exact .inl hq
    | some q =>
      refine .inr fun hh => ?_
      rw [hq] at hh
      obtain ⟨k1, k2⟩ := key u hu q hq
      rcases hat with h3 | h3
      · exact k1 (h3.symm.trans hh.symm)
      · rw [h3] at hh
        injection hh with hh
        omega
/-- A wish that holds nothing. -/
def noWi : Wi := ⟨0, 0, 0, [], []⟩
theorem ownNs_none (w : World) (lo E EP : Nat) (op : Int) : OwnNs w lo E EP [(⟨op, noWi⟩, .slice none 0 0, .slice none 0 0)] := by
  refine ⟨fun p hp => ?_, ?_⟩
  · simp at hp
    subst hp
    exact ⟨World.ownsRow_nil w lo E 1, World.ownsRow_nil w lo EP 2, .inl rfl⟩
  · simp [ndv, Far, Value.ownBlock]
end Go.Proofs.Ytgjghpaenliliaa.M

namespace Go.Proofs.Ytgjghpaenliliaa.Wk
open Go.RowKit Go.Proofs.Ytgjghpaenliliaa.M
set_option linter.unusedVariables false
attribute [local go_sem] cell_grow

/-- Whether JoinExpressions answers, and what. -/
noncomputable def joinB (l r : List Nd) (op : Int) : Bool := P.okE l && P.okE r && decide (op = 1 ∨ op = 2 ∨ op = 4) && decide (l.length + r.length < 9)
noncomputable def joinR (l r : List Nd) (op : Int) : List Nd := if joinB l r op then l ++ r ++ [⟨op, noWi⟩] else []
section
variable {a b n m : Nat} {l r : List Nd}
theorem le63j (h1 : Hid (a = l.length)) (h2 : Hid (b = r.length)) (h3 : Hid (l.length = n)) (h4 : Hid (r.length = m)) (h : n + m < 9) : a + b ≤ maxLen := by
  have := h1.out; have := h2.out; have := h3.out; have := h4.out
  unfold maxLen; omega
theorem le63k (h1 : Hid (a = l.length)) (h2 : Hid (b = r.length)) (h3 : Hid (l.length = n)) (h4 : Hid (r.length = m)) (h : n + m < 9) : a + b + 1 ≤ maxLen := by
  have := h1.out; have := h2.out; have := h3.out; have := h4.out
  unfold maxLen; omega
theorem leByj (h1 : Hid (a = l.length)) (h2 : Hid (b = r.length)) (h3 : Hid (l.length = n)) (h4 : Hid (r.length = m)) (h : n + m < 9) : (a + b) * 80 ≤ 140737488355328 := by
  have := h1.out; have := h2.out; have := h3.out; have := h4.out
  omega
theorem leByk (h1 : Hid (a = l.length)) (h2 : Hid (b = r.length)) (h3 : Hid (l.length = n)) (h4 : Hid (r.length = m)) (h : n + m < 9) : (a + b + 1) * 80 ≤ 140737488355328 := by
  have := h1.out; have := h2.out; have := h3.out; have := h4.out
  omega
end
/-- A list of nodes of the call's own, and a truth value. -/
def RetNd2 (w : World) (l : List Nd) (b : Bool) (e : Ending) (w' : World) : Prop := ∃ v, e = .returned (.tuple #[v, .bool b]) ∧ OwnNd w' w.heap.size w'.heap.size v l ∧ Below w.heap.size w w'
theorem ownNd_part {w : World} {lo hi : Nat} {v : Value} {l : List Nd} (h : OwnNd w lo hi v l) : ∃ ps : List NdC, ps.map (·.1) = l ∧ ps.length = l.length ∧ PartN w lo 55 3 92 v ps := by
  obtain ⟨ps, h1, h2, h3, h4, h5, h6⟩ := h
  have hl : ps.length = l.length := by rw [← h1, List.length_map]
  refine ⟨ps, h1, hl, ⟨⟨fun p hp => (h2 p hp).1, h3⟩, ?_, h6⟩⟩
  rw [hl]; exact h4
theorem part_ownNd {w : World} {lo : Nat} {v : Value} {ps : List NdC} (h : PartN w lo 55 3 92 v ps) : OwnNd w lo w.heap.size v (ps.map (·.1)) :=
  ⟨ps, rfl, fun p hp => ⟨h.rows.each p hp, own_und (h.rows.each p hp).1, own_und (h.rows.each p hp).2.1⟩, h.rows.apart, by rw [List.length_map]; exact h.out, own_und h.out, h.far⟩
theorem l5CopyE {A : Option Addr} {n c : Nat} {l : List Nd} (w : World) (h : Sl RN 6 w w.heap.size A n c l) (hn : n ≤ 1048576) (hfit : ∀ x ∈ l, x.wish.list.length ≤ 1048576 ∧ x.wish.pairs.length ≤ 1048576) : Calls Try.prog 40 #[.slice A n c] w fun e w' => ∃ A2 c2 ps, e = .returned (.slice A2 ps.length c2) ∧ Hid (ps.map (·.1) = l) ∧ Hid (ps.length = l.length) ∧ Hid (PartN w' w.heap.size 55 3 92 (.slice A2 ps.length c2) ps) ∧ Below w.heap.size w w' :=
  (l5Copy w h hn hfit).mono fun e w' ⟨v, he, ho, hb⟩ => by
    obtain ⟨ps, h1, h2, h3⟩ := ownNd_part ho
    obtain ⟨A2, c2, rfl, _, _⟩ := own_form h3.out
    exact ⟨A2, c2, ps, he, h1, h2, h3, hb⟩
theorem copyNodesE {A : Option Addr} {n c : Nat} {l : List Nd} (w : World) (h : Sl RN 6 w w.heap.size A n c l) (hn : n ≤ 1048576) (hfit : ∀ x ∈ l, x.wish.list.length ≤ 1048576 ∧ x.wish.pairs.length ≤ 1048576) : Calls Try.prog 43 #[.slice A n c] w fun e w' => ∃ A2 c2 ps, e = .returned (.slice A2 ps.length c2) ∧ Hid (ps.map (·.1) = l) ∧ Hid (ps.length = l.length) ∧ Hid (PartN w' w.heap.size 55 3 92 (.slice A2 ps.length c2) ps) ∧ Below w.heap.size w w' :=
  (copyNodes w h hn hfit).mono fun e w' ⟨v, he, ho, hb⟩ => by
    obtain ⟨ps, h1, h2, h3⟩ := ownNd_part ho
    obtain ⟨A2, c2, rfl, _, _⟩ := own_form h3.out
    exact ⟨A2, c2, ps, he, h1, h2, h3, hb⟩
end Go.Proofs.Ytgjghpaenliliaa.Wk

namespace Go.Proofs.Ytgjghpaenliliaa.Wk
open Go.RowKit Go.Proofs.Ytgjghpaenliliaa.M
set_option linter.unusedVariables false
set_option linter.unusedSimpArgs false
attribute [local go_sem] cell_grow

theorem cnt1_le {x : Nd} (hn : P.okN x = true) : cnt1 x ≤ 30 := by
  unfold cnt1
  rcases okN_cases hn with ⟨_, hw⟩ | ⟨_, hw⟩
  · have := P.okW_listlen hw
    have := P.okW_pairslen hw
    omega
  · rw [hw]; simp [zeroW]
theorem cntN_30 : ∀ (l : List Nd), (∀ x ∈ l, P.okN x = true) → cntN l ≤ 30 * l.length
  | [], _ => by simp [cntN]
  | x :: t, h => by
    have h1 := cnt1_le (h x (by simp))
    have h2 := cntN_30 t (fun y hy => h y (by simp [hy]))
    simp only [cntN, List.length_cons]
    omega
theorem parE_cnt (s : ByteArray) : cntN (parE s) ≤ 270 := by
  rcases parE_ok s with h | h
  · rw [h]; simp [cntN]
  · have h1 := cntN_30 (parE s) (okE_all h)
    have h2 := (P.okE_len h).1
    omega
theorem opW_hit {s : ByteArray} {k : Nat} (h1 : 1 ≤ k) (h4 : k ≤ 4) (hj : ∀ j : Nat, 1 ≤ j → j < k → wordS (j : Int) ≠ s) (e : wordS (k : Int) = s) : opW s = k := by
  subst e
  exact opW_word (by omega)
theorem opW_miss {s : ByteArray} (hj : ∀ j : Nat, 1 ≤ j → j < 5 → wordS (j : Int) ≠ s) : opW s = 0 := by
  unfold opW
  rw [if_neg (fun e => hj 1 (by omega) (by omega) e.symm), if_neg (fun e => hj 2 (by omega) (by omega) e.symm), if_neg (fun e => hj 3 (by omega) (by omega) e.symm), if_neg (fun e => hj 4 (by omega) (by omega) e.symm)]
theorem ndPS_op {s : ByteArray} {k : Nat} (h1 : 1 ≤ k) (e : opW s = k) : ndPS s = ⟨k, zeroW⟩ := by
  unfold ndPS
  rw [e, if_neg (by omega)]
theorem ndPS_yes {s : ByteArray} (e : opW s = 0) (h : parWB s = true) : ndPS s = ⟨0, parW s⟩ := by
  unfold ndPS
  rw [if_pos e, if_pos h]
theorem ndPS_no {s : ByteArray} (e : opW s = 0) (h : parWB s = false) : ndPS s = ⟨-1, zeroW⟩ := by
  unfold ndPS
  rw [if_pos e, h]
  rfl
/-- The literal's words. -/
theorem idx4 {s : ByteArray} {k : Int} (h : (∃ j : Nat, k = j ∧ [wordS 1, wordS 2, wordS 3, wordS 4][j]? = some s ∧ ∀ i, i < j → [wordS 1, wordS 2, wordS 3, wordS 4][i]? ≠ some s) ∨ (k = -1 ∧ s ∉ [wordS 1, wordS 2, wordS 3, wordS 4])) : opW s = k + 1 := by
  rcases h with ⟨j, rfl, hj, _⟩ | ⟨rfl, hm⟩
  · match j, hj with
    | 0, hj => simp at hj; subst hj; exact opW_word (k := 1) (by omega)
    | 1, hj => simp at hj; subst hj; exact opW_word (k := 2) (by omega)
    | 2, hj => simp at hj; subst hj; exact opW_word (k := 3) (by omega)
    | 3, hj => simp at hj; subst hj; exact opW_word (k := 4) (by omega)
    | j + 4, hj => simp at hj
  · simp at hm
    unfold opW
    rw [if_neg hm.1, if_neg hm.2.1, if_neg hm.2.2.1, if_neg hm.2.2.2]
    rfl
/-! ### six cells of a box -/
section
variable {w : World} {lo E sz n p : Nat} {v : Value} {xs : List Value} {a b c d e f : Value}
theorem own_six (h : w.ownsRow lo E sz v n xs) (hp : p < lo) : ((((((w.setCell ⟨p, 0, none⟩ a).setCell ⟨p, 1, none⟩ b).setCell ⟨p, 2, none⟩ c).setCell ⟨p, 3, none⟩ d).setCell ⟨p, 4, none⟩ e).setCell ⟨p, 5, none⟩ f).ownsRow lo E sz v n xs :=
  ownsRow_setCell_below (ownsRow_setCell_below (ownsRow_setCell_below (ownsRow_setCell_below (ownsRow_setCell_below (ownsRow_setCell_below h (a := ⟨p, 0, none⟩) hp a) (a := ⟨p, 1, none⟩) hp b) (a := ⟨p, 2, none⟩) hp c) (a := ⟨p, 3, none⟩) hp d) (a := ⟨p, 4, none⟩) hp e) (a := ⟨p, 5, none⟩) hp f
theorem own_five (h : w.ownsRow lo E sz v n xs) (hp : p < lo) : (((((w.setCell ⟨p, 1, none⟩ b).setCell ⟨p, 2, none⟩ c).setCell ⟨p, 3, none⟩ d).setCell ⟨p, 4, none⟩ e).setCell ⟨p, 5, none⟩ f).ownsRow lo E sz v n xs :=
  ownsRow_setCell_below (ownsRow_setCell_below (ownsRow_setCell_below (ownsRow_setCell_below (ownsRow_setCell_below h (a := ⟨p, 1, none⟩) hp b) (a := ⟨p, 2, none⟩) hp c) (a := ⟨p, 3, none⟩) hp d) (a := ⟨p, 4, none⟩) hp e) (a := ⟨p, 5, none⟩) hp f
theorem below_six {w0 : World} {B : Nat} (h : Below B w0 w) (hp : B ≤ p) : Below B w0 ((((((w.setCell ⟨p, 0, none⟩ a).setCell ⟨p, 1, none⟩ b).setCell ⟨p, 2, none⟩ c).setCell ⟨p, 3, none⟩ d).setCell ⟨p, 4, none⟩ e).setCell ⟨p, 5, none⟩ f) :=
  (((((h.setCell (p := ⟨p, 0, none⟩) hp a).setCell (p := ⟨p, 1, none⟩) hp b).setCell (p := ⟨p, 2, none⟩) hp c).setCell (p := ⟨p, 3, none⟩) hp d).setCell (p := ⟨p, 4, none⟩) hp e).setCell (p := ⟨p, 5, none⟩) hp f
theorem below_five {w0 : World} {B : Nat} (h : Below B w0 w) (hp : B ≤ p) : Below B w0 (((((w.setCell ⟨p, 1, none⟩ b).setCell ⟨p, 2, none⟩ c).setCell ⟨p, 3, none⟩ d).setCell ⟨p, 4, none⟩ e).setCell ⟨p, 5, none⟩ f) :=
  ((((h.setCell (p := ⟨p, 1, none⟩) hp b).setCell (p := ⟨p, 2, none⟩) hp c).setCell (p := ⟨p, 3, none⟩) hp d).setCell (p := ⟨p, 4, none⟩) hp e).setCell (p := ⟨p, 5, none⟩) hp f
end
/-- A node that a call hands back, its rows the call's own. -/
def RetNW (w : World) (x : Nd) (e : Ending) (w' : World) : Prop := ∃ A c E d, e = .returned (.agg #[.int .i64 x.op, .int .i64 x.wish.kind, .int .i64 x.wish.field, .int .i64 x.wish.value, .slice A x.wish.list.length c, .slice E x.wish.pairs.length d]) ∧ OwnW w' w.heap.size 3 92 x.wish (.slice A x.wish.list.length c) (.slice E x.wish.pairs.length d) ∧ Below w.heap.size w w'
set_option maxHeartbeats 1600000 in
set_option maxRecDepth 100000 in
theorem l5Parse (w : World) {s : ByteArray} (hs : s.size ≤ 1048576) : Calls Try.prog 51 #[.string s] w (RetNW w (ndPS s)) := by
  have R0 := Row.new w 55 [.int .i64 0, .int .i64 0, .int .i64 0, .int .i64 0, .slice none 0 0, .slice none 0 0]
  have B0 := (Below.refl w.heap.size w).alloc (Nat.le_refl _) (.cells #[.int .i64 0, .int .i64 0, .int .i64 0, .int .i64 0, .slice none 0 0, .slice none 0 0] 55)
  go_enter Try.func51, Try.ntmps51
  go_wp2
  go_loopw [3] (fun vk wr => ∃ k : Nat, 1 ≤ k ∧ k ≤ 5 ∧ vk = .int .i64 k ∧ Hid (∀ j : Nat, 1 ≤ j → j < k → wordS (j : Int) ≠ s) ∧ Row wr w.heap.size 55 [.int .i64 0, .int .i64 0, .int .i64 0, .int .i64 0, .slice none 0 0, .slice none 0 0] ∧ Below w.heap.size w wr) (fun vk _ => 5 - (intOf vk).toNat)
  case atStart => exact ⟨1, Nat.le_refl _, by omega, rfl, fun j h1 h2 => by omega, R0, B0⟩
  case round =>
    clear R0 B0
    obtain ⟨k, hk1, hk5, rfl, HK, hR, hB⟩ := hrel
    by_cases hlt : k ≤ 4
    · have q1 : (k : Int) ≤ 4 := by omega
      have HRL := hR.lt
      have HBS := hB.size
      go_wp2_with fail
      refine (l5Word (k : Int) _ (by omega) (by omega)).mono ?_
      rintro e w2 ⟨rfl, b2⟩
      have R2 := hR.below b2 HRL
      have B2 := hB.trans (b2.mono HBS)
      clear hR hB b2
      by_cases e : wordS (k : Int) = s
      · have q2 := ba_yes e
        have HX : Hid (ndPS s = ⟨k, zeroW⟩) := ndPS_op hk1 (opW_hit hk1 hlt HK.out e)
        have f0 := R2.free 0
        have f1 := R2.free 1
        have f2 := R2.free 2
        have f3 := R2.free 3
        have f4 := R2.free 4
        have f5 := R2.free 5
        have c0 : w2.cell? ⟨w.heap.size, 0, none⟩ = some (.int .i64 0) := R2.cell 0
        have c1 : w2.cell? ⟨w.heap.size, 1, none⟩ = some (.int .i64 0) := R2.cell 1
        have c2 : w2.cell? ⟨w.heap.size, 2, none⟩ = some (.int .i64 0) := R2.cell 2
        have c3 : w2.cell? ⟨w.heap.size, 3, none⟩ = some (.int .i64 0) := R2.cell 3
        have c4 : w2.cell? ⟨w.heap.size, 4, none⟩ = some (.slice none 0 0) := R2.cell 4
        have c5 : w2.cell? ⟨w.heap.size, 5, none⟩ = some (.slice none 0 0) := R2.cell 5
        have hlt2 := R2.lt
        have BF := Lib.hid (below_six (p := w.heap.size) (a := .int .i64 k) (b := .int .i64 0) (c := .int .i64 0) (d := .int .i64 0) (e := .slice none 0 0) (f := .slice none 0 0) B2 (Nat.le_refl _))
        clear e R2 B2
        go_wp2
        refine bodyPost_ret (v := .agg #[.int .i64 k, .int .i64 0, .int .i64 0, .int .i64 0, .slice none 0 0, .slice none 0 0]) (by simp [results, Try.results51, go_sem, c0, c1, c2, c3, c4, c5]) rfl ?_
        rw [HX.out]
        exact ⟨none, 0, none, 0, rfl, ownW_nil _ _, BF.out⟩
      · have q2 := ba_no e
        have HK2 : Hid (∀ j : Nat, 1 ≤ j → j < k + 1 → wordS (j : Int) ≠ s) := fun j h1 h2 => by
          by_cases hjk : j = k
          · subst hjk; exact e
          · exact HK.out j h1 (by omega)
        clear e HK
        go_wp2
        go_roundw
        case rel => exact ⟨k + 1, by omega, by omega, by go_num, HK2, R2, B2⟩
        case measure => simp [intOf]; omega
    · obtain rfl : k = 5 := by omega
      have HO : Hid (opW s = 0) := opW_miss HK.out
      have HRL := hR.lt
      have HBS := hB.size
      go_wp2_with fail
      refine (specParseWish _ hs).mono ?_
      rintro e w2 ⟨u, v, rfl, hO, b2⟩
      obtain ⟨A, c, rfl, _, _⟩ := own_form hO.1
      obtain ⟨E, d, rfl, _, _⟩ := own_form hO.2.1
      have R2 := hR.below b2 HRL
      have B2 := hB.trans (b2.mono HBS)
      clear hR hB b2
      obtain ⟨x, hx⟩ : ∃ x, Hid (parW s = x) := ⟨_, rfl⟩
      rw [hx.out] at hO ⊢
      have hl2 := R2.lt
      have m0 : w2.cell? ⟨w.heap.size, 0, none⟩ = some (.int .i64 0) := R2.cell 0
      have m1 : w2.cell? ⟨w.heap.size, 1, none⟩ = some (.int .i64 0) := R2.cell 1
      have m2 : w2.cell? ⟨w.heap.size, 2, none⟩ = some (.int .i64 0) := R2.cell 2
      have m3 : w2.cell? ⟨w.heap.size, 3, none⟩ = some (.int .i64 0) := R2.cell 3
      have m4 : w2.cell? ⟨w.heap.size, 4, none⟩ = some (.slice none 0 0) := R2.cell 4
      have m5 : w2.cell? ⟨w.heap.size, 5, none⟩ = some (.slice none 0 0) := R2.cell 5
      have n0 := R2.free 0
      have n1 := R2.free 1
      have n2 := R2.free 2
      have n3 := R2.free 3
      have n4 := R2.free 4
      have n5 := R2.free 5
      have hF := hO.2.2
      clear R2
      cases hb : parWB s with
      | false =>
        have HX : Hid (ndPS s = ⟨-1, zeroW⟩) := ndPS_no HO.out hb
        have BF := Lib.hid ((below_six (p := w.heap.size) (a := .int .i64 (-1)) (b := .int .i64 0) (c := .int .i64 0) (d := .int .i64 0) (e := .slice none 0 0) (f := .slice none 0 0) B2 (Nat.le_refl _)).alloc (by simp; omega) (.cells #[.int .i64 x.kind, .int .i64 x.field, .int .i64 x.value, .slice A x.list.length c, .slice E x.pairs.length d] 53))
        clear B2 hO
        go_wp2
        refine bodyPost_ret (v := .agg #[.int .i64 (-1), .int .i64 0, .int .i64 0, .int .i64 0, .slice none 0 0, .slice none 0 0]) (by simp [results, Try.results51, go_sem, hl2, m0, m1, m2, m3, m4, m5]) rfl ?_
        rw [HX.out]
        exact ⟨none, 0, none, 0, rfl, ownW_nil _ _, BF.out⟩
      | true =>
        have HX : Hid (ndPS s = ⟨0, x⟩) := by show _ = _; rw [ndPS_yes HO.out hb, hx.out]
        have BF := Lib.hid ((below_six (p := w.heap.size) (a := .int .i64 0) (b := .int .i64 x.kind) (c := .int .i64 x.field) (d := .int .i64 x.value) (e := .slice A x.list.length c) (f := .slice E x.pairs.length d) B2 (Nat.le_refl _)).alloc (by simp; omega) (.cells #[.int .i64 x.kind, .int .i64 x.field, .int .i64 x.value, .slice A x.list.length c, .slice E x.pairs.length d] 53))
        have OF := Lib.hid (own_mono (b' := w.heap.size) ((own_six (p := w.heap.size) (a := .int .i64 0) (b := .int .i64 x.kind) (c := .int .i64 x.field) (d := .int .i64 x.value) (e := .slice A x.list.length c) (f := .slice E x.pairs.length d) hO.1 HRL).alloc (.cells #[.int .i64 x.kind, .int .i64 x.field, .int .i64 x.value, .slice A x.list.length c, .slice E x.pairs.length d] 53)) (Nat.le_of_lt HRL))
        have PF := Lib.hid (own_mono (b' := w.heap.size) ((own_six (p := w.heap.size) (a := .int .i64 0) (b := .int .i64 x.kind) (c := .int .i64 x.field) (d := .int .i64 x.value) (e := .slice A x.list.length c) (f := .slice E x.pairs.length d) hO.2.1 HRL).alloc (.cells #[.int .i64 x.kind, .int .i64 x.field, .int .i64 x.value, .slice A x.list.length c, .slice E x.pairs.length d] 53)) (Nat.le_of_lt HRL))
        clear B2 hO
        go_wp2
        refine bodyPost_ret (v := .agg #[.int .i64 0, .int .i64 x.kind, .int .i64 x.field, .int .i64 x.value, .slice A x.list.length c, .slice E x.pairs.length d]) (by simp [results, Try.results51, go_sem, hl2, m0, m1, m2, m3, m4, m5]) rfl ?_
        rw [HX.out]
        exact ⟨A, c, E, d, rfl, ⟨OF.out, PF.out, hF⟩, BF.out⟩
end Go.Proofs.Ytgjghpaenliliaa.Wk

namespace Go.Proofs.Ytgjghpaenliliaa.Wk
open Go.RowKit Go.Proofs.Ytgjghpaenliliaa.M
set_option linter.unusedVariables false
set_option linter.unusedSimpArgs false
attribute [local go_sem] cell_grow

theorem part_up {w : World} {lo hi : Nat} {v : Value} {l : List Nd} (h : OwnNd w lo hi v l) : OwnNd w lo w.heap.size v l := by
  obtain ⟨ps, h1, _, h3⟩ := ownNd_part h
  rw [← h1]
  exact part_ownNd h3
theorem hatN {gg m c ad : Nat} {v : Value} (h : (Value.slice (some ⟨gg, 0, none⟩) m c).ownBlock = v.ownBlock ∨ (Value.slice (some ⟨gg, 0, none⟩) m c).ownBlock = some (ad + 1)) : v.ownBlock = some gg ∨ gg = ad + 1 := by
  rcases h with h | h
  · exact .inl h.symm
  · refine .inr ?_
    simp [Value.ownBlock] at h
    exact h
set_option maxHeartbeats 4000000 in
set_option maxRecDepth 100000 in
theorem specParseExpression (w : World) {s : ByteArray} (hs : s.size ≤ 1048576) : Calls Try.prog 21 #[.string s] w (RetNd2 w (parE s) (parEB s)) := by
  obtain ⟨i0, hi, hz0, hz1, hz2⟩ := info_parts info_node
  have HX := Lib.hid (P.cut_size s ⟨#[59]⟩)
  have HCL := Lib.hid (P.cut_len s ⟨#[59]⟩)
  have B1 := (Below.refl w.heap.size w).alloc (Nat.le_refl _) (.cells #[] 55)
  have O1 := PartN.nil w 55 3 92
  have HEND := Lib.hid (parE_endS s)
  go_enter Try.func21, Try.ntmps21
  go_wp2_with fail
  refine (l2Cut _ (b := 59) hs).mono ?_
  rintro e w2 ⟨vp, rfl, hP, b2⟩
  have hsz2 := b2.size
  simp at hsz2
  have B2 := B1.trans (b2.mono B1.size)
  have O2 := O1.below b2
  have hP1 := Lib.hid hP.1
  have hP2 := Lib.hid hP.2
  simp only [World.size_alloc] at hP1
  obtain ⟨A, c, rfl, _, _⟩ := own_form hP.1
  obtain ⟨n, hn⟩ : ∃ n, (P.cut s ⟨#[59]⟩).length = n := ⟨_, rfl⟩
  have HL := Lib.hid hn
  have hn1 : n ≤ 1048577 := by have := HL.out; have := HCL.out; omega
  have HRL : Hid ((rdES s).length = n) := by show _ = _; rw [rdES_len]; exact HL.out
  have HRF := Lib.hid (rdES_fit s)
  obtain ⟨rs, hrs⟩ : ∃ rs, Hid (rdES s = rs) := ⟨_, rfl⟩
  rw [hrs.out] at HEND HRL HRF
  clear hP b2 O1 B1
  rw [hn]
  rw [hn] at hP1 hP2
  have hst : ∀ q, (Value.slice (some ⟨w.heap.size, 0, none⟩) 0 0).ownBlock = some q → q = w.heap.size ∨ w2.heap.size ≤ q := fun q hq => .inl (by simp [Value.ownBlock] at hq; omega)
  have HST := Lib.hid hst
  clear hst
  go_wp2
  go_loopw [4, 6, 7] (fun vo vi v7 wr => ∃ (k : Nat) (ps : List NdC), k ≤ n ∧ vi = .int .i64 k ∧ Hid (ps.map (·.1) = rs.take k) ∧ Hid (ps.length = k) ∧ PartN wr w.heap.size 55 3 92 vo ps ∧ Hid (wr.ownsRow (w.heap.size + 1) 9 1 (.slice A n c) n ((P.cut s ⟨#[59]⟩).map Value.string)) ∧ Hid (∀ q, vo.ownBlock = some q → q = w.heap.size ∨ w2.heap.size ≤ q) ∧ w2.heap.size ≤ wr.heap.size ∧ Below w.heap.size w wr) (fun _ vi _ _ => n - (intOf vi).toNat)
  case atStart => exact ⟨0, [], Nat.zero_le _, rfl, rfl, rfl, O2, hP1, HST, Nat.le_refl _, B2⟩
  case round =>
    clear hP1 HST O2 B2
    obtain ⟨k, ps, hk, rfl, HM, HPL, hpart, hpr, hq, hw2, hbw⟩ := hrel
    by_cases hlt : k < n
    · obtain ⟨A', n', c', e', hS⟩ := own_strs (xs := P.cut s ⟨#[59]⟩) (by rw [HL.out]; exact hpr.out) (fun x hx => by have := HX.out x hx; unfold maxLen; omega)
      injection e' with e1 e2 e3
      subst e1 e2 e3
      obtain ⟨b, o, x, rfl, hb, hx, hf, hc⟩ := hS.str hlt
      have hnc := hS.le
      have p1 : (k : Int) < (n : Int) := by omega
      have p2 : (n : Int) ≤ (c : Int) := by omega
      have HXM := Lib.hid (List.mem_of_getElem? hx)
      obtain ⟨Ao, co, hvo, _, _⟩ := own_form hpart.out
      subst hvo
      have HXK := Lib.hid hx
      have hxs : x.size ≤ 1048576 := Nat.le_trans (HX.out x HXM.out) hs
      have hsz := hbw.size
      have HPT := Lib.hid hpart
      have HB := Lib.hid hbw
      have hpl := HPL.out
      subst hpl
      have hrow : ∀ q, (Value.slice Ao ps.length co).ownBlock = some q → w.heap.size ≤ q := fun q hq => (hpart.out.lt q hq).1
      have HROW := Lib.hid hrow
      have h63 : ps.length + 1 ≤ maxLen := by unfold maxLen; omega
      have hby : (ps.length + 1) * 80 ≤ 140737488355328 := by omega
      clear hx hS hf hpart hbw hrow
      by_cases hk0 : 0 < ps.length
      · have p3 : (0 : Int) < (ps.length : Int) := by omega
        by_cases hx0 : 0 < x.size
        · have p4 : (0 : Int) < (x.size : Int) := by omega
          have p5 : (1 : Int) ≤ (x.size : Int) := by omega
          obtain ⟨t, hxt⟩ : ∃ t, x.extract 1 x.size = t := ⟨_, rfl⟩
          have HTK : Hid (strip ps.length x = t) := by show _ = _; unfold strip; rw [if_pos ⟨hk0, hx0⟩]; exact hxt
          have hts : t.size ≤ 1048576 := by rw [← hxt]; simp; omega
          go_wp2_with fail
          try rw [hxt]
          obtain ⟨y, hy⟩ : ∃ y, Hid (ndPS t = y) := ⟨_, rfl⟩
          have HRK : Hid (rs[ps.length]? = some y) := by show _ = _; rw [← hrs.out, ← hy.out, ← HTK.out]; exact rdES_at HXK.out
          have CT : Hid (∀ w : World, Calls Try.prog 51 #[.string t] w fun e w' => ∃ A2 c2 E2 d2, e = .returned (.agg #[.int .i64 y.op, .int .i64 y.wish.kind, .int .i64 y.wish.field, .int .i64 y.wish.value, .slice A2 y.wish.list.length c2, .slice E2 y.wish.pairs.length d2]) ∧ OwnW w' w.heap.size 3 92 y.wish (.slice A2 y.wish.list.length c2) (.slice E2 y.wish.pairs.length d2) ∧ Below w.heap.size w w') := fun w => by rw [← hy.out]; exact l5Parse w hts
          clear HTK hts
          refine (CT.out _).mono ?_
          rintro e w8 ⟨A2, c2, E2, d2, rfl, how, hS8⟩
          have hlo2 : wr.heap.size ≤ wr.heap.size := Nat.le_refl _
          have HP8 := Lib.hid (HPT.out.below hS8)
          have N6 := six_new w8 (.int .i64 y.op) (.int .i64 y.wish.kind) (.int .i64 y.wish.field) (.int .i64 y.wish.value) (.slice A2 y.wish.list.length c2) (.slice E2 y.wish.pairs.length d2) 55
          have hlo8 : w.heap.size ≤ (w8.alloc (.cells #[.int .i64 y.op, .int .i64 y.wish.kind, .int .i64 y.wish.field, .int .i64 y.wish.value, .slice A2 y.wish.list.length c2, .slice E2 y.wish.pairs.length d2] 55)).heap.size := by have := HB.out.size; have := hS8.size; simp; omega
          go_wp2_with (at_builtin; refine wpList_append_own_at _ rfl _ _ 25 rfl w.heap.size 55 i0 _ 6 80 Try.underlying25 hi hz0 hz1 hz2 rfl (by decide) _ _ _ rfl (HP8.out.out.alloc _) ⟨w8.heap.size, 0, none⟩ 1 1 [.int .i64 y.op, .int .i64 y.wish.kind, .int .i64 y.wish.field, .int .i64 y.wish.value, .slice A2 y.wish.list.length c2, .slice E2 y.wish.pairs.length d2] rfl rfl N6 (ones6 rfl rfl rfl rfl rfl rfl) h63 hby (by first | exact hlo8 | (simp; omega)) ?_)
          intro v' w1 hown1 hgrow hnil hat0
          obtain ⟨gg, cap, cs, rfl, hgb, hgc, hgm, hgR, hgl⟩ := own_row hown1 (by omega)
          have hat := hatN (ad := w8.heap.size) (by first | exact hat0 | (rw [World.size_alloc] at hat0; exact hat0))
          have hP1 : Hid (PartN w1 w.heap.size 55 3 92 (.slice (some ⟨gg, 0, none⟩) (ps.length + 1) cap) (ps ++ [(y, .slice A2 y.wish.list.length c2, .slice E2 y.wish.pairs.length d2)])) :=
            HPT.out.append (x := y) hS8 how hlo2 HB.out.size ((Below.refl w8.heap.size w8).alloc (Nat.le_refl _) _) hgrow hown1 (by rw [World.size_alloc]; exact hat)
          have hB1 := Lib.hid (((HB.out.trans (hS8.mono HB.out.size)).alloc (Nat.le_trans HB.out.size hS8.size) (.cells #[.int .i64 y.op, .int .i64 y.wish.kind, .int .i64 y.wish.field, .int .i64 y.wish.value, .slice A2 y.wish.list.length c2, .slice E2 y.wish.pairs.length d2] 55)).grown hgrow (by have := hS8.size; simp; omega) HROW.out)
          have HM2 : Hid ((ps ++ [(y, Value.slice A2 y.wish.list.length c2, Value.slice E2 y.wish.pairs.length d2)]).map (·.1) = rs.take (ps.length + 1)) := by
            show _ = _
            obtain ⟨hl, e⟩ := List.getElem?_eq_some_iff.1 HRK.out
            rw [List.map_append, HM.out, List.take_succ_eq_append_getElem hl, e]
            rfl
          have HPL2 : Hid ((ps ++ [(y, Value.slice A2 y.wish.list.length c2, Value.slice E2 y.wish.pairs.length d2)]).length = ps.length + 1) := by show _ = _; rw [List.length_append]; rfl
          have hpr6 := Lib.hid (own_grown ((own_below hpr.out hS8).alloc (.cells #[.int .i64 y.op, .int .i64 y.wish.kind, .int .i64 y.wish.field, .int .i64 y.wish.value, .slice A2 y.wish.list.length c2, .slice E2 y.wish.pairs.length d2] 55)) hgrow (fun g hg hh => by
            have h1 := hP2.out g hg
            have h2 := (hpr.out.lt g hg).1
            have h3 := hq.out g hh.symm
            omega))
          have hw6 : w2.heap.size ≤ w1.heap.size := by have h1 := hgrow.size; have h2 := hS8.size; (try simp at h1); omega
          have hq6 : Hid (∀ q, (Value.slice (some ⟨gg, 0, none⟩) (ps.length + 1) cap).ownBlock = some q → q = w.heap.size ∨ w2.heap.size ≤ q) := by
            intro q hv
            have hgq : gg = q := by simp [Value.ownBlock] at hv; omega
            rcases hat with hat | hat
            · exact hq.out q (by rw [← hgq]; exact hat)
            · refine .inr ?_
              have := hS8.size
              try simp at hat
              omega
          clear how hS8 hown1 hgrow hat hat0 hpr hq hgb hgc hgm hgR hnil
          go_wp2
          go_roundw
          case rel => exact ⟨ps.length + 1, _, by omega, by go_num, HM2, HPL2, hP1.out, hpr6, hq6, hw6, hB1.out⟩
          case measure => simp [intOf]; omega
        · have p4 : ¬ (0 : Int) < (x.size : Int) := by omega
          have HTK : Hid (strip ps.length x = x) := by show _ = _; unfold strip; rw [if_neg (fun h => hx0 h.2)]
          have hts : x.size ≤ 1048576 := hxs
          go_wp2_with fail
          obtain ⟨y, hy⟩ : ∃ y, Hid (ndPS x = y) := ⟨_, rfl⟩
          have HRK : Hid (rs[ps.length]? = some y) := by show _ = _; rw [← hrs.out, ← hy.out, ← HTK.out]; exact rdES_at HXK.out
          have CT : Hid (∀ w : World, Calls Try.prog 51 #[.string x] w fun e w' => ∃ A2 c2 E2 d2, e = .returned (.agg #[.int .i64 y.op, .int .i64 y.wish.kind, .int .i64 y.wish.field, .int .i64 y.wish.value, .slice A2 y.wish.list.length c2, .slice E2 y.wish.pairs.length d2]) ∧ OwnW w' w.heap.size 3 92 y.wish (.slice A2 y.wish.list.length c2) (.slice E2 y.wish.pairs.length d2) ∧ Below w.heap.size w w') := fun w => by rw [← hy.out]; exact l5Parse w hts
          clear HTK hts
          refine (CT.out _).mono ?_
          rintro e w8 ⟨A2, c2, E2, d2, rfl, how, hS8⟩
          have hlo2 : wr.heap.size ≤ wr.heap.size := Nat.le_refl _
          have HP8 := Lib.hid (HPT.out.below hS8)
          have N6 := six_new w8 (.int .i64 y.op) (.int .i64 y.wish.kind) (.int .i64 y.wish.field) (.int .i64 y.wish.value) (.slice A2 y.wish.list.length c2) (.slice E2 y.wish.pairs.length d2) 55
          have hlo8 : w.heap.size ≤ (w8.alloc (.cells #[.int .i64 y.op, .int .i64 y.wish.kind, .int .i64 y.wish.field, .int .i64 y.wish.value, .slice A2 y.wish.list.length c2, .slice E2 y.wish.pairs.length d2] 55)).heap.size := by have := HB.out.size; have := hS8.size; simp; omega
          go_wp2_with (at_builtin; refine wpList_append_own_at _ rfl _ _ 25 rfl w.heap.size 55 i0 _ 6 80 Try.underlying25 hi hz0 hz1 hz2 rfl (by decide) _ _ _ rfl (HP8.out.out.alloc _) ⟨w8.heap.size, 0, none⟩ 1 1 [.int .i64 y.op, .int .i64 y.wish.kind, .int .i64 y.wish.field, .int .i64 y.wish.value, .slice A2 y.wish.list.length c2, .slice E2 y.wish.pairs.length d2] rfl rfl N6 (ones6 rfl rfl rfl rfl rfl rfl) h63 hby (by first | exact hlo8 | (simp; omega)) ?_)
          intro v' w1 hown1 hgrow hnil hat0
          obtain ⟨gg, cap, cs, rfl, hgb, hgc, hgm, hgR, hgl⟩ := own_row hown1 (by omega)
          have hat := hatN (ad := w8.heap.size) (by first | exact hat0 | (rw [World.size_alloc] at hat0; exact hat0))
          have hP1 : Hid (PartN w1 w.heap.size 55 3 92 (.slice (some ⟨gg, 0, none⟩) (ps.length + 1) cap) (ps ++ [(y, .slice A2 y.wish.list.length c2, .slice E2 y.wish.pairs.length d2)])) :=
            HPT.out.append (x := y) hS8 how hlo2 HB.out.size ((Below.refl w8.heap.size w8).alloc (Nat.le_refl _) _) hgrow hown1 (by rw [World.size_alloc]; exact hat)
          have hB1 := Lib.hid (((HB.out.trans (hS8.mono HB.out.size)).alloc (Nat.le_trans HB.out.size hS8.size) (.cells #[.int .i64 y.op, .int .i64 y.wish.kind, .int .i64 y.wish.field, .int .i64 y.wish.value, .slice A2 y.wish.list.length c2, .slice E2 y.wish.pairs.length d2] 55)).grown hgrow (by have := hS8.size; simp; omega) HROW.out)
          have HM2 : Hid ((ps ++ [(y, Value.slice A2 y.wish.list.length c2, Value.slice E2 y.wish.pairs.length d2)]).map (·.1) = rs.take (ps.length + 1)) := by
            show _ = _
            obtain ⟨hl, e⟩ := List.getElem?_eq_some_iff.1 HRK.out
            rw [List.map_append, HM.out, List.take_succ_eq_append_getElem hl, e]
            rfl
          have HPL2 : Hid ((ps ++ [(y, Value.slice A2 y.wish.list.length c2, Value.slice E2 y.wish.pairs.length d2)]).length = ps.length + 1) := by show _ = _; rw [List.length_append]; rfl
          have hpr6 := Lib.hid (own_grown ((own_below hpr.out hS8).alloc (.cells #[.int .i64 y.op, .int .i64 y.wish.kind, .int .i64 y.wish.field, .int .i64 y.wish.value, .slice A2 y.wish.list.length c2, .slice E2 y.wish.pairs.length d2] 55)) hgrow (fun g hg hh => by
            have h1 := hP2.out g hg
            have h2 := (hpr.out.lt g hg).1
            have h3 := hq.out g hh.symm
            omega))
          have hw6 : w2.heap.size ≤ w1.heap.size := by have h1 := hgrow.size; have h2 := hS8.size; (try simp at h1); omega
          have hq6 : Hid (∀ q, (Value.slice (some ⟨gg, 0, none⟩) (ps.length + 1) cap).ownBlock = some q → q = w.heap.size ∨ w2.heap.size ≤ q) := by
            intro q hv
            have hgq : gg = q := by simp [Value.ownBlock] at hv; omega
            rcases hat with hat | hat
            · exact hq.out q (by rw [← hgq]; exact hat)
            · refine .inr ?_
              have := hS8.size
              try simp at hat
              omega
          clear how hS8 hown1 hgrow hat hat0 hpr hq hgb hgc hgm hgR hnil
          go_wp2
          go_roundw
          case rel => exact ⟨ps.length + 1, _, by omega, by go_num, HM2, HPL2, hP1.out, hpr6, hq6, hw6, hB1.out⟩
          case measure => simp [intOf]; omega
      · have p3 : ¬ (0 : Int) < (ps.length : Int) := by omega
        have HTK : Hid (strip ps.length x = x) := by show _ = _; unfold strip; rw [if_neg (fun h => hk0 h.1)]
        have hts : x.size ≤ 1048576 := hxs
        go_wp2_with fail
        obtain ⟨y, hy⟩ : ∃ y, Hid (ndPS x = y) := ⟨_, rfl⟩
        have HRK : Hid (rs[ps.length]? = some y) := by show _ = _; rw [← hrs.out, ← hy.out, ← HTK.out]; exact rdES_at HXK.out
        have CT : Hid (∀ w : World, Calls Try.prog 51 #[.string x] w fun e w' => ∃ A2 c2 E2 d2, e = .returned (.agg #[.int .i64 y.op, .int .i64 y.wish.kind, .int .i64 y.wish.field, .int .i64 y.wish.value, .slice A2 y.wish.list.length c2, .slice E2 y.wish.pairs.length d2]) ∧ OwnW w' w.heap.size 3 92 y.wish (.slice A2 y.wish.list.length c2) (.slice E2 y.wish.pairs.length d2) ∧ Below w.heap.size w w') := fun w => by rw [← hy.out]; exact l5Parse w hts
        clear HTK hts
        refine (CT.out _).mono ?_
        rintro e w8 ⟨A2, c2, E2, d2, rfl, how, hS8⟩
        have hlo2 : wr.heap.size ≤ wr.heap.size := Nat.le_refl _
        have HP8 := Lib.hid (HPT.out.below hS8)
        have N6 := six_new w8 (.int .i64 y.op) (.int .i64 y.wish.kind) (.int .i64 y.wish.field) (.int .i64 y.wish.value) (.slice A2 y.wish.list.length c2) (.slice E2 y.wish.pairs.length d2) 55
        have hlo8 : w.heap.size ≤ (w8.alloc (.cells #[.int .i64 y.op, .int .i64 y.wish.kind, .int .i64 y.wish.field, .int .i64 y.wish.value, .slice A2 y.wish.list.length c2, .slice E2 y.wish.pairs.length d2] 55)).heap.size := by have := HB.out.size; have := hS8.size; simp; omega
        go_wp2_with (at_builtin; refine wpList_append_own_at _ rfl _ _ 25 rfl w.heap.size 55 i0 _ 6 80 Try.underlying25 hi hz0 hz1 hz2 rfl (by decide) _ _ _ rfl (HP8.out.out.alloc _) ⟨w8.heap.size, 0, none⟩ 1 1 [.int .i64 y.op, .int .i64 y.wish.kind, .int .i64 y.wish.field, .int .i64 y.wish.value, .slice A2 y.wish.list.length c2, .slice E2 y.wish.pairs.length d2] rfl rfl N6 (ones6 rfl rfl rfl rfl rfl rfl) h63 hby (by first | exact hlo8 | (simp; omega)) ?_)
        intro v' w1 hown1 hgrow hnil hat0
        obtain ⟨gg, cap, cs, rfl, hgb, hgc, hgm, hgR, hgl⟩ := own_row hown1 (by omega)
        have hat := hatN (ad := w8.heap.size) (by first | exact hat0 | (rw [World.size_alloc] at hat0; exact hat0))
        have hP1 : Hid (PartN w1 w.heap.size 55 3 92 (.slice (some ⟨gg, 0, none⟩) (ps.length + 1) cap) (ps ++ [(y, .slice A2 y.wish.list.length c2, .slice E2 y.wish.pairs.length d2)])) :=
          HPT.out.append (x := y) hS8 how hlo2 HB.out.size ((Below.refl w8.heap.size w8).alloc (Nat.le_refl _) _) hgrow hown1 (by rw [World.size_alloc]; exact hat)
        have hB1 := Lib.hid (((HB.out.trans (hS8.mono HB.out.size)).alloc (Nat.le_trans HB.out.size hS8.size) (.cells #[.int .i64 y.op, .int .i64 y.wish.kind, .int .i64 y.wish.field, .int .i64 y.wish.value, .slice A2 y.wish.list.length c2, .slice E2 y.wish.pairs.length d2] 55)).grown hgrow (by have := hS8.size; simp; omega) HROW.out)
        have HM2 : Hid ((ps ++ [(y, Value.slice A2 y.wish.list.length c2, Value.slice E2 y.wish.pairs.length d2)]).map (·.1) = rs.take (ps.length + 1)) := by
          show _ = _
          obtain ⟨hl, e⟩ := List.getElem?_eq_some_iff.1 HRK.out
          rw [List.map_append, HM.out, List.take_succ_eq_append_getElem hl, e]
          rfl
        have HPL2 : Hid ((ps ++ [(y, Value.slice A2 y.wish.list.length c2, Value.slice E2 y.wish.pairs.length d2)]).length = ps.length + 1) := by show _ = _; rw [List.length_append]; rfl
        have hpr6 := Lib.hid (own_grown ((own_below hpr.out hS8).alloc (.cells #[.int .i64 y.op, .int .i64 y.wish.kind, .int .i64 y.wish.field, .int .i64 y.wish.value, .slice A2 y.wish.list.length c2, .slice E2 y.wish.pairs.length d2] 55)) hgrow (fun g hg hh => by
          have h1 := hP2.out g hg
          have h2 := (hpr.out.lt g hg).1
          have h3 := hq.out g hh.symm
          omega))
        have hw6 : w2.heap.size ≤ w1.heap.size := by have h1 := hgrow.size; have h2 := hS8.size; (try simp at h1); omega
        have hq6 : Hid (∀ q, (Value.slice (some ⟨gg, 0, none⟩) (ps.length + 1) cap).ownBlock = some q → q = w.heap.size ∨ w2.heap.size ≤ q) := by
          intro q hv
          have hgq : gg = q := by simp [Value.ownBlock] at hv; omega
          rcases hat with hat | hat
          · exact hq.out q (by rw [← hgq]; exact hat)
          · refine .inr ?_
            have := hS8.size
            try simp at hat
            omega
        clear how hS8 hown1 hgrow hat hat0 hpr hq hgb hgc hgm hgR hnil
        go_wp2
        go_roundw
        case rel => exact ⟨ps.length + 1, _, by omega, by go_num, HM2, HPL2, hP1.out, hpr6, hq6, hw6, hB1.out⟩
        case measure => simp [intOf]; omega
    · have hkn : k = n := by omega
      subst hkn
      rw [List.take_of_length_le (by have := HRL.out; omega)] at HM
      have ho := part_ownNd hpart
      rw [HM.out] at ho
      have HO := Lib.hid ho
      clear ho
      obtain ⟨A', n', c', hv, hS⟩ := HO.out.read HRF.out
      subst hv
      have hsz := hbw.size
      have HB := Lib.hid hbw
      clear hbw hpart hpr hq
      by_cases h0 : s = ⟨#[]⟩
      · have q1 : s.toList = [] := by rw [h0, ByteArray.toList_eq]
        have q2 : s.toList.isEmpty = true := by rw [q1]; rfl
        have HP := Lib.hid (HEND.out.2 (.inl h0))
        have BZ := HB.out.alloc hsz (.cells #[] 55)
        clear h0 HEND
        go_wp2
        go_ret2
        refine ⟨_, ret_pb HP.out.2.symm, ?_, BZ⟩
        rw [HP.out.1]
        exact ownNd_mono (ownNd_nil wr _ (Below.refl _ _)) hsz
      · have q1 : ¬ s.toList = [] := fun e => h0 (by rw [ByteArray.toList_eq] at e; exact P.ba_ext e)
        have q2 : s.toList.isEmpty = false := by rw [List.isEmpty_eq_false_iff]; exact q1
        have HY2 := Lib.hid (HEND.out.1 h0)
        have HN2 : Hid (exprS rs ≠ s → parE s = [] ∧ parEB s = false) := fun h => HEND.out.2 (.inr h)
        clear h0 HEND
        go_wp2_with fail
        refine (specFormatExpression _ hS).mono ?_
        rintro e w7 ⟨rfl, b7⟩
        have O7 := HO.out.below b7
        have B7 := HB.out.trans (b7.mono hsz)
        have z7 := B7.size
        by_cases e : exprS rs = s
        · have HP := Lib.hid (HY2.out e)
          have q5 := ba_yes e
          clear e
          go_wp2
          go_ret2
          refine ⟨.slice A' n' c', ret_pb HP.out.2.symm, ?_, B7⟩
          rw [HP.out.1]
          exact part_up O7
        · have HP := Lib.hid (HN2.out e)
          have q5 := ba_no e
          have BZ := B7.alloc z7 (.cells #[] 55)
          clear e
          go_wp2
          go_ret2
          refine ⟨_, ret_pb HP.out.2.symm, ?_, BZ⟩
          rw [HP.out.1]
          exact ownNd_mono (ownNd_nil w7 _ (Below.refl _ _)) z7
end Go.Proofs.Ytgjghpaenliliaa.Wk

namespace Go.Proofs.Ytgjghpaenliliaa.Wk
open Go.RowKit Go.Proofs.Ytgjghpaenliliaa.M
set_option linter.unusedVariables false
set_option linter.unusedSimpArgs false
attribute [local go_sem] cell_grow

set_option maxHeartbeats 2000000 in
set_option maxRecDepth 100000 in
theorem implParseExpression (w : World) {s : ByteArray} (hs : s.size ≤ 1048576) : Calls Try.prog 22 #[.string s] w (RetNd2 w (parE s) (parEB s)) := by
  obtain ⟨i0, hi, hz0, hz1, hz2⟩ := info_parts info_node
  have HX := Lib.hid (P.cut_size s ⟨#[59, 32]⟩)
  have HCL := Lib.hid (P.cut_len s ⟨#[59, 32]⟩)
  have B1 := (Below.refl w.heap.size w).alloc (Nat.le_refl _) (.cells #[] 55)
  have O1 := PartN.nil w 55 3 92
  have HEND := Lib.hid (parE_endI s)
  go_enter Try.func22, Try.ntmps22
  go_wp2_with fail
  refine (cut _ hs (by decide) (by decide)).mono ?_
  rintro e w2 ⟨vp, rfl, hP, b2⟩
  have hsz2 := b2.size
  simp at hsz2
  have B2 := B1.trans (b2.mono B1.size)
  have O2 := O1.below b2
  have hP1 := Lib.hid hP.1
  have hP2 := Lib.hid hP.2
  simp only [World.size_alloc] at hP1
  obtain ⟨A, c, rfl, _, _⟩ := own_form hP.1
  obtain ⟨n, hn⟩ : ∃ n, (P.cut s ⟨#[59, 32]⟩).length = n := ⟨_, rfl⟩
  have HL := Lib.hid hn
  have hn1 : n ≤ 1048577 := by have := HL.out; have := HCL.out; omega
  have HRL : Hid ((rdEI s).length = n) := by show _ = _; rw [rdEI_len]; exact HL.out
  have HRF := Lib.hid (rdEI_fit s)
  obtain ⟨rs, hrs⟩ : ∃ rs, Hid (rdEI s = rs) := ⟨_, rfl⟩
  rw [hrs.out] at HEND HRL HRF
  clear hP b2 O1 B1
  rw [hn]
  rw [hn] at hP1 hP2
  have hst : ∀ q, (Value.slice (some ⟨w.heap.size, 0, none⟩) 0 0).ownBlock = some q → q = w.heap.size ∨ w2.heap.size ≤ q := fun q hq => .inl (by simp [Value.ownBlock] at hq; omega)
  have HST := Lib.hid hst
  clear hst
  go_wp2
  go_loopw [4, 6, 7, 12] (fun vo v6 v7 vi wr => ∃ (k : Nat) (ps : List NdC), k ≤ n ∧ vi = .int .i64 k ∧ Hid (ps.map (·.1) = rs.take k) ∧ Hid (ps.length = k) ∧ PartN wr w.heap.size 55 3 92 vo ps ∧ Hid (wr.ownsRow (w.heap.size + 1) 9 1 (.slice A n c) n ((P.cut s ⟨#[59, 32]⟩).map Value.string)) ∧ Hid (∀ q, vo.ownBlock = some q → q = w.heap.size ∨ w2.heap.size ≤ q) ∧ w2.heap.size ≤ wr.heap.size ∧ Below w.heap.size w wr) (fun _ _ _ vi _ => n - (intOf vi).toNat)
  case atStart => exact ⟨0, [], Nat.zero_le _, rfl, rfl, rfl, O2, hP1, HST, Nat.le_refl _, B2⟩
  case round =>
    clear hP1 HST O2 B2
    obtain ⟨k, ps, hk, rfl, HM, HPL, hpart, hpr, hq, hw2, hbw⟩ := hrel
    by_cases hlt : k < n
    · obtain ⟨A', n', c', e', hS⟩ := own_strs (xs := P.cut s ⟨#[59, 32]⟩) (by rw [HL.out]; exact hpr.out) (fun x hx => by have := HX.out x hx; unfold maxLen; omega)
      injection e' with e1 e2 e3
      subst e1 e2 e3
      obtain ⟨b, o, x, rfl, hb, hx, hf, hc⟩ := hS.str hlt
      have hnc := hS.le
      have p1 : (k : Int) < (n : Int) := by omega
      have p2 : (n : Int) ≤ (c : Int) := by omega
      have HXM := Lib.hid (List.mem_of_getElem? hx)
      obtain ⟨Ao, co, hvo, _, _⟩ := own_form hpart.out
      subst hvo
      have HXK := Lib.hid hx
      have hxs : x.size ≤ 1048576 := Nat.le_trans (HX.out x HXM.out) hs
      have hsz := hbw.size
      have HPT := Lib.hid hpart
      have HB := Lib.hid hbw
      have hpl := HPL.out
      subst hpl
      have hrow : ∀ q, (Value.slice Ao ps.length co).ownBlock = some q → w.heap.size ≤ q := fun q hq => (hpart.out.lt q hq).1
      have HROW := Lib.hid hrow
      have h63 : ps.length + 1 ≤ maxLen := by unfold maxLen; omega
      have hby : (ps.length + 1) * 80 ≤ 140737488355328 := by omega
      clear hx hS hf hpart hbw hrow
      have HRK0 : Hid (rs[ps.length]? = some (ndPI x)) := by show _ = _; rw [← hrs.out]; exact rdEI_at HXK.out
      have hlit : Row (wr.alloc (.cells #[.string ⟨#[97, 110, 100]⟩, .string ⟨#[116, 104, 101, 110]⟩, .string ⟨#[110, 111, 116]⟩, .string ⟨#[98, 111, 116, 104]⟩] 9)) wr.heap.size 9 ([wordS 1, wordS 2, wordS 3, wordS 4].map Value.string) := Row.new wr 9 [.string ⟨#[97, 110, 100]⟩, .string ⟨#[116, 104, 101, 110]⟩, .string ⟨#[110, 111, 116]⟩, .string ⟨#[98, 111, 116, 104]⟩]
      have HLI := Lib.hid hlit
      clear hlit
      go_wp2_with fail
      refine (indexStrs (n := 4) (c := 4) _ HLI.out rfl (by omega) (by omega)).mono ?_
      rintro e w9 ⟨⟨k0, rfl, hk0⟩, rfl⟩
      obtain ⟨wl, hwl⟩ : ∃ wl, wr.alloc (.cells #[.string ⟨#[97, 110, 100]⟩, .string ⟨#[116, 104, 101, 110]⟩, .string ⟨#[110, 111, 116]⟩, .string ⟨#[98, 111, 116, 104]⟩] 9) = wl := ⟨_, rfl⟩
      have Bl : Below wr.heap.size wr wl := by rw [← hwl]; exact (Below.refl wr.heap.size wr).alloc (Nat.le_refl _) _
      rw [hwl]
      have hop := idx4 hk0
      obtain ⟨ob0, ob1⟩ := opW_bd x
      obtain ⟨o1, rfl⟩ : ∃ o1, k0 = o1 - 1 := ⟨k0 + 1, by omega⟩
      have hop1 : opW x = o1 := by omega
      rw [hop1] at ob0 ob1
      have HOP := Lib.hid hop1
      clear hk0 hop hop1 HLI hwl
      by_cases h0 : o1 = 0
      · subst h0
        obtain ⟨w5, hw5⟩ : ∃ w5, wl.alloc (.cells #[.int .i64 0, .int .i64 0, .int .i64 0, .int .i64 0, .slice none 0 0, .slice none 0 0] 55) = w5 := ⟨_, rfl⟩
        have z5 : w5.heap.size = wl.heap.size + 1 := by rw [← hw5]; simp
        have B5 := Bl.alloc Bl.size (.cells #[.int .i64 0, .int .i64 0, .int .i64 0, .int .i64 0, .slice none 0 0, .slice none 0 0] 55)
        have R5 := Row.new wl 55 [.int .i64 0, .int .i64 0, .int .i64 0, .int .i64 0, .slice none 0 0, .slice none 0 0]
        have R5 : Row w5 wl.heap.size 55 [.int .i64 0, .int .i64 0, .int .i64 0, .int .i64 0, .slice none 0 0, .slice none 0 0] := by rw [← hw5]; exact R5
        rw [hw5] at B5
        have HW5 := Lib.hid hw5
        clear hw5
        go_wp2_with fail
        rw [HW5.out]
        refine (implParseWish _ hxs).mono ?_
        rintro e w6 ⟨u, v, rfl, hO, b6⟩
        obtain ⟨A2, c2, rfl, _, _⟩ := own_form hO.1
        obtain ⟨E2, d2, rfl, _, _⟩ := own_form hO.2.1
        obtain ⟨yw, hyw⟩ : ∃ yw, parW x = yw := ⟨_, rfl⟩
        rw [hyw] at hO ⊢
        have HRK : Hid (rs[ps.length]? = some ⟨0, yw⟩) := by
          show _ = _
          rw [HRK0.out, ← hyw]
          unfold ndPI
          rw [HOP.out]
          rfl
        have R6 := R5.below b6 R5.lt
        have B6 := B5.trans (b6.mono B5.size)
        have f1 := R6.free 1
        have f2 := R6.free 2
        have f3 := R6.free 3
        have f4 := R6.free 4
        have f5 := R6.free 5
        have c0 : w6.cell? ⟨wl.heap.size, 0, none⟩ = some (.int .i64 0) := R6.cell 0
        have c1 : w6.cell? ⟨wl.heap.size, 1, none⟩ = some (.int .i64 0) := R6.cell 1
        have c2' : w6.cell? ⟨wl.heap.size, 2, none⟩ = some (.int .i64 0) := R6.cell 2
        have c3 : w6.cell? ⟨wl.heap.size, 3, none⟩ = some (.int .i64 0) := R6.cell 3
        have c4 : w6.cell? ⟨wl.heap.size, 4, none⟩ = some (.slice none 0 0) := R6.cell 4
        have c5 : w6.cell? ⟨wl.heap.size, 5, none⟩ = some (.slice none 0 0) := R6.cell 5
        have hl6 := R6.lt
        have hS8 : Below wr.heap.size wr (((((w6.setCell ⟨wl.heap.size, 1, none⟩ (.int .i64 yw.kind)).setCell ⟨wl.heap.size, 2, none⟩ (.int .i64 yw.field)).setCell ⟨wl.heap.size, 3, none⟩ (.int .i64 yw.value)).setCell ⟨wl.heap.size, 4, none⟩ (.slice A2 yw.list.length c2)).setCell ⟨wl.heap.size, 5, none⟩ (.slice E2 yw.pairs.length d2)) := below_five B6 Bl.size
        have how : OwnW (((((w6.setCell ⟨wl.heap.size, 1, none⟩ (.int .i64 yw.kind)).setCell ⟨wl.heap.size, 2, none⟩ (.int .i64 yw.field)).setCell ⟨wl.heap.size, 3, none⟩ (.int .i64 yw.value)).setCell ⟨wl.heap.size, 4, none⟩ (.slice A2 yw.list.length c2)).setCell ⟨wl.heap.size, 5, none⟩ (.slice E2 yw.pairs.length d2)) w5.heap.size 3 92 yw (.slice A2 yw.list.length c2) (.slice E2 yw.pairs.length d2) := ⟨own_five hO.1 (by omega), own_five hO.2.1 (by omega), hO.2.2⟩
        have hlo2 : wr.heap.size ≤ w5.heap.size := by have := Bl.size; omega
        have Z8 : Hid (wr.heap.size ≤ w6.heap.size) := by show _ ≤ _; have := hS8.size; simpa using this
        have HP8 := Lib.hid (HPT.out.below hS8)
        have N6 := six_new (((((w6.setCell ⟨wl.heap.size, 1, none⟩ (.int .i64 yw.kind)).setCell ⟨wl.heap.size, 2, none⟩ (.int .i64 yw.field)).setCell ⟨wl.heap.size, 3, none⟩ (.int .i64 yw.value)).setCell ⟨wl.heap.size, 4, none⟩ (.slice A2 yw.list.length c2)).setCell ⟨wl.heap.size, 5, none⟩ (.slice E2 yw.pairs.length d2)) (.int .i64 0) (.int .i64 yw.kind) (.int .i64 yw.field) (.int .i64 yw.value) (.slice A2 yw.list.length c2) (.slice E2 yw.pairs.length d2) 55
        have zc : ((((((w6.setCell ⟨wl.heap.size, 1, none⟩ (.int .i64 yw.kind)).setCell ⟨wl.heap.size, 2, none⟩ (.int .i64 yw.field)).setCell ⟨wl.heap.size, 3, none⟩ (.int .i64 yw.value)).setCell ⟨wl.heap.size, 4, none⟩ (.slice A2 yw.list.length c2)).setCell ⟨wl.heap.size, 5, none⟩ (.slice E2 yw.pairs.length d2))).heap.size = w6.heap.size := by simp
        have hlo8 : w.heap.size ≤ (((((((w6.setCell ⟨wl.heap.size, 1, none⟩ (.int .i64 yw.kind)).setCell ⟨wl.heap.size, 2, none⟩ (.int .i64 yw.field)).setCell ⟨wl.heap.size, 3, none⟩ (.int .i64 yw.value)).setCell ⟨wl.heap.size, 4, none⟩ (.slice A2 yw.list.length c2)).setCell ⟨wl.heap.size, 5, none⟩ (.slice E2 yw.pairs.length d2))).alloc (.cells #[.int .i64 0, .int .i64 yw.kind, .int .i64 yw.field, .int .i64 yw.value, .slice A2 yw.list.length c2, .slice E2 yw.pairs.length d2] 55)).heap.size := by have := HB.out.size; have := hS8.size; simp at *; omega
        rw [zc] at N6
        clear hyw R5 R6 B5 B6 b6 hO HRK0 zc z5
        go_wp2_with (at_builtin; refine wpList_append_own_at _ rfl _ _ 25 rfl w.heap.size 55 i0 _ 6 80 Try.underlying25 hi hz0 hz1 hz2 rfl (by decide) _ _ _ rfl (HP8.out.out.alloc _) ⟨w6.heap.size, 0, none⟩ 1 1 [.int .i64 0, .int .i64 yw.kind, .int .i64 yw.field, .int .i64 yw.value, .slice A2 yw.list.length c2, .slice E2 yw.pairs.length d2] rfl rfl N6 (ones6 rfl rfl rfl rfl rfl rfl) h63 hby (by first | exact hlo8 | (simp; omega)) ?_)
        intro v' w1 hown1 hgrow hnil hat0
        obtain ⟨gg, cap, cs, rfl, hgb, hgc, hgm, hgR, hgl⟩ := own_row hown1 (by omega)
        have hat := hatN (ad := w6.heap.size) (by first | exact hat0 | (rw [World.size_alloc] at hat0; exact hat0) | (simpa using hat0))
        have hP1 : Hid (PartN w1 w.heap.size 55 3 92 (.slice (some ⟨gg, 0, none⟩) (ps.length + 1) cap) (ps ++ [((⟨0, yw⟩ : Nd), .slice A2 yw.list.length c2, .slice E2 yw.pairs.length d2)])) :=
          HPT.out.append (x := ⟨0, yw⟩) hS8 how hlo2 HB.out.size ((Below.refl (((((w6.setCell ⟨wl.heap.size, 1, none⟩ (.int .i64 yw.kind)).setCell ⟨wl.heap.size, 2, none⟩ (.int .i64 yw.field)).setCell ⟨wl.heap.size, 3, none⟩ (.int .i64 yw.value)).setCell ⟨wl.heap.size, 4, none⟩ (.slice A2 yw.list.length c2)).setCell ⟨wl.heap.size, 5, none⟩ (.slice E2 yw.pairs.length d2)).heap.size (((((w6.setCell ⟨wl.heap.size, 1, none⟩ (.int .i64 yw.kind)).setCell ⟨wl.heap.size, 2, none⟩ (.int .i64 yw.field)).setCell ⟨wl.heap.size, 3, none⟩ (.int .i64 yw.value)).setCell ⟨wl.heap.size, 4, none⟩ (.slice A2 yw.list.length c2)).setCell ⟨wl.heap.size, 5, none⟩ (.slice E2 yw.pairs.length d2))).alloc (Nat.le_refl _) _) hgrow hown1 (hat.imp id fun e => e.trans (by simp))
        have hB1 := Lib.hid (((HB.out.trans (hS8.mono HB.out.size)).alloc (Nat.le_trans HB.out.size hS8.size) (.cells #[.int .i64 0, .int .i64 yw.kind, .int .i64 yw.field, .int .i64 yw.value, .slice A2 yw.list.length c2, .slice E2 yw.pairs.length d2] 55)).grown hgrow (by have := Z8.out; simp; omega) HROW.out)
        have HM2 : Hid ((ps ++ [((⟨0, yw⟩ : Nd), Value.slice A2 yw.list.length c2, Value.slice E2 yw.pairs.length d2)]).map (·.1) = rs.take (ps.length + 1)) := by
          show _ = _
          obtain ⟨hl, e⟩ := List.getElem?_eq_some_iff.1 HRK.out
          rw [List.map_append, HM.out, List.take_succ_eq_append_getElem hl, e]
          rfl
        have HPL2 : Hid ((ps ++ [((⟨0, yw⟩ : Nd), Value.slice A2 yw.list.length c2, Value.slice E2 yw.pairs.length d2)]).length = ps.length + 1) := by show _ = _; rw [List.length_append]; rfl
        have hpr6 := Lib.hid (own_grown ((own_below hpr.out hS8).alloc (.cells #[.int .i64 0, .int .i64 yw.kind, .int .i64 yw.field, .int .i64 yw.value, .slice A2 yw.list.length c2, .slice E2 yw.pairs.length d2] 55)) hgrow (fun g hg hh => by
          have h1 := hP2.out g hg
          have h2 := (hpr.out.lt g hg).1
          have h3 := hq.out g hh.symm
          omega))
        have hw6 : w2.heap.size ≤ w1.heap.size := by have h1 := hgrow.size; have h2 := Z8.out; (try simp at h1); omega
        have hq6 : Hid (∀ q, (Value.slice (some ⟨gg, 0, none⟩) (ps.length + 1) cap).ownBlock = some q → q = w.heap.size ∨ w2.heap.size ≤ q) := by
          intro q hv
          have hgq : gg = q := by simp [Value.ownBlock] at hv; omega
          rcases hat with hat | hat
          · exact hq.out q (by rw [← hgq]; exact hat)
          · refine .inr ?_
            have h8 := Z8.out
            try simp at h8
            try simp at hat
            omega
        clear how hS8 hown1 hgrow hat hat0 hpr hq hgb hgc hgm hgR hnil
        go_wp2
        go_roundw
        case rel => exact ⟨ps.length + 1, _, by omega, by go_num, HM2, HPL2, hP1.out, hpr6, hq6, hw6, hB1.out⟩
        case measure => simp [intOf]; omega
      · have t0 : (o1 == 0) = false := by simp [h0]
        have HRK : Hid (rs[ps.length]? = some ⟨o1, zeroW⟩) := by
          show _ = _
          rw [HRK0.out]
          unfold ndPI
          rw [HOP.out, if_neg h0]
        have zc : (wl.alloc (.cells #[.int .i64 o1, .int .i64 0, .int .i64 0, .int .i64 0, .slice none 0 0, .slice none 0 0] 55)).heap.size = wl.heap.size + 1 := by simp
        have hS8 := Bl.alloc Bl.size (.cells #[.int .i64 o1, .int .i64 0, .int .i64 0, .int .i64 0, .slice none 0 0, .slice none 0 0] 55)
        have how : OwnW (wl.alloc (.cells #[.int .i64 o1, .int .i64 0, .int .i64 0, .int .i64 0, .slice none 0 0, .slice none 0 0] 55)) (wl.alloc (.cells #[.int .i64 o1, .int .i64 0, .int .i64 0, .int .i64 0, .slice none 0 0, .slice none 0 0] 55)).heap.size 3 92 zeroW (.slice none 0 0) (.slice none 0 0) := ownW_nil _ _
        have hlo2 : wr.heap.size ≤ (wl.alloc (.cells #[.int .i64 o1, .int .i64 0, .int .i64 0, .int .i64 0, .slice none 0 0, .slice none 0 0] 55)).heap.size := by have := Bl.size; simp; omega
        have Z8 : Hid (wr.heap.size ≤ wl.heap.size + 1) := by show _ ≤ _; have := hS8.size; simpa using this
        have HP8 := Lib.hid (HPT.out.below hS8)
        have N6 := six_new (wl.alloc (.cells #[.int .i64 o1, .int .i64 0, .int .i64 0, .int .i64 0, .slice none 0 0, .slice none 0 0] 55)) (.int .i64 o1) (.int .i64 0) (.int .i64 0) (.int .i64 0) (.slice none 0 0) (.slice none 0 0) 55
        have hlo8 : w.heap.size ≤ ((wl.alloc (.cells #[.int .i64 o1, .int .i64 0, .int .i64 0, .int .i64 0, .slice none 0 0, .slice none 0 0] 55)).alloc (.cells #[.int .i64 o1, .int .i64 0, .int .i64 0, .int .i64 0, .slice none 0 0, .slice none 0 0] 55)).heap.size := by have := HB.out.size; have := hS8.size; simp at *; omega
        rw [zc] at N6
        clear HRK0 h0 zc
        go_wp2_with (at_builtin; refine wpList_append_own_at _ rfl _ _ 25 rfl w.heap.size 55 i0 _ 6 80 Try.underlying25 hi hz0 hz1 hz2 rfl (by decide) _ _ _ rfl (HP8.out.out.alloc _) ⟨wl.heap.size + 1, 0, none⟩ 1 1 [.int .i64 o1, .int .i64 0, .int .i64 0, .int .i64 0, .slice none 0 0, .slice none 0 0] rfl rfl N6 (ones6 rfl rfl rfl rfl rfl rfl) h63 hby (by first | exact hlo8 | (simp; omega)) ?_)
        intro v' w1 hown1 hgrow hnil hat0
        obtain ⟨gg, cap, cs, rfl, hgb, hgc, hgm, hgR, hgl⟩ := own_row hown1 (by omega)
        have hat := hatN (ad := wl.heap.size + 1) (by first | exact hat0 | (rw [World.size_alloc] at hat0; exact hat0) | (simpa using hat0))
        have hP1 : Hid (PartN w1 w.heap.size 55 3 92 (.slice (some ⟨gg, 0, none⟩) (ps.length + 1) cap) (ps ++ [((⟨o1, zeroW⟩ : Nd), .slice none 0 0, .slice none 0 0)])) :=
          HPT.out.append (x := ⟨o1, zeroW⟩) hS8 how hlo2 HB.out.size ((Below.refl (wl.alloc (.cells #[.int .i64 o1, .int .i64 0, .int .i64 0, .int .i64 0, .slice none 0 0, .slice none 0 0] 55)).heap.size (wl.alloc (.cells #[.int .i64 o1, .int .i64 0, .int .i64 0, .int .i64 0, .slice none 0 0, .slice none 0 0] 55))).alloc (Nat.le_refl _) _) hgrow hown1 (hat.imp id fun e => e.trans (by simp))
        have hB1 := Lib.hid (((HB.out.trans (hS8.mono HB.out.size)).alloc (Nat.le_trans HB.out.size hS8.size) (.cells #[.int .i64 o1, .int .i64 0, .int .i64 0, .int .i64 0, .slice none 0 0, .slice none 0 0] 55)).grown hgrow (by have := Z8.out; simp; omega) HROW.out)
        have HM2 : Hid ((ps ++ [((⟨o1, zeroW⟩ : Nd), Value.slice none 0 0, Value.slice none 0 0)]).map (·.1) = rs.take (ps.length + 1)) := by
          show _ = _
          obtain ⟨hl, e⟩ := List.getElem?_eq_some_iff.1 HRK.out
          rw [List.map_append, HM.out, List.take_succ_eq_append_getElem hl, e]
          rfl
        have HPL2 : Hid ((ps ++ [((⟨o1, zeroW⟩ : Nd), Value.slice none 0 0, Value.slice none 0 0)]).length = ps.length + 1) := by show _ = _; rw [List.length_append]; rfl
        have hpr6 := Lib.hid (own_grown ((own_below hpr.out hS8).alloc (.cells #[.int .i64 o1, .int .i64 0, .int .i64 0, .int .i64 0, .slice none 0 0, .slice none 0 0] 55)) hgrow (fun g hg hh => by
          have h1 := hP2.out g hg
          have h2 := (hpr.out.lt g hg).1
          have h3 := hq.out g hh.symm
          omega))
        have hw6 : w2.heap.size ≤ w1.heap.size := by have h1 := hgrow.size; have h2 := Z8.out; (try simp at h1); omega
        have hq6 : Hid (∀ q, (Value.slice (some ⟨gg, 0, none⟩) (ps.length + 1) cap).ownBlock = some q → q = w.heap.size ∨ w2.heap.size ≤ q) := by
          intro q hv
          have hgq : gg = q := by simp [Value.ownBlock] at hv; omega
          rcases hat with hat | hat
          · exact hq.out q (by rw [← hgq]; exact hat)
          · refine .inr ?_
            have h8 := Z8.out
            try simp at h8
            try simp at hat
            omega
        clear how hS8 hown1 hgrow hat hat0 hpr hq hgb hgc hgm hgR hnil
        go_wp2
        go_roundw
        case rel => exact ⟨ps.length + 1, _, by omega, by go_num, HM2, HPL2, hP1.out, hpr6, hq6, hw6, hB1.out⟩
        case measure => simp [intOf]; omega
    · have hkn : k = n := by omega
      subst hkn
      rw [List.take_of_length_le (by have := HRL.out; omega)] at HM
      have ho := part_ownNd hpart
      rw [HM.out] at ho
      have HO := Lib.hid ho
      clear ho
      obtain ⟨A', n', c', hv, hS⟩ := HO.out.read HRF.out
      subst hv
      have hsz := hbw.size
      have HB := Lib.hid hbw
      clear hbw hpart hpr hq
      by_cases h0 : s = ⟨#[]⟩
      · have q1 : s.toList = [] := by rw [h0, ByteArray.toList_eq]
        have q2 : s.toList.isEmpty = true := by rw [q1]; rfl
        have HP := Lib.hid (HEND.out.2 (.inl h0))
        have BZ := HB.out.alloc hsz (.cells #[] 55)
        clear h0 HEND
        go_wp2
        go_ret2
        refine ⟨_, ret_pb HP.out.2.symm, ?_, BZ⟩
        rw [HP.out.1]
        exact ownNd_mono (ownNd_nil wr _ (Below.refl _ _)) hsz
      · have q1 : ¬ s.toList = [] := fun e => h0 (by rw [ByteArray.toList_eq] at e; exact P.ba_ext e)
        have q2 : s.toList.isEmpty = false := by rw [List.isEmpty_eq_false_iff]; exact q1
        have HY2 := Lib.hid (HEND.out.1 h0)
        have HN2 : Hid (exprS rs ≠ s → parE s = [] ∧ parEB s = false) := fun h => HEND.out.2 (.inr h)
        clear h0 HEND
        go_wp2_with fail
        refine (implFormatExpression _ hS).mono ?_
        rintro e w7 ⟨rfl, b7⟩
        have O7 := HO.out.below b7
        have B7 := HB.out.trans (b7.mono hsz)
        have z7 := B7.size
        by_cases e : exprS rs = s
        · have HP := Lib.hid (HY2.out e)
          have q5 := ba_yes e
          clear e
          go_wp2
          go_ret2
          refine ⟨.slice A' n' c', ret_pb HP.out.2.symm, ?_, B7⟩
          rw [HP.out.1]
          exact part_up O7
        · have HP := Lib.hid (HN2.out e)
          have q5 := ba_no e
          have BZ := B7.alloc z7 (.cells #[] 55)
          clear e
          go_wp2
          go_ret2
          refine ⟨_, ret_pb HP.out.2.symm, ?_, BZ⟩
          rw [HP.out.1]
          exact ownNd_mono (ownNd_nil w7 _ (Below.refl _ _)) z7
end Go.Proofs.Ytgjghpaenliliaa.Wk

namespace Go.Proofs.Ytgjghpaenliliaa.Wk
open Go.RowKit Go.Proofs.Ytgjghpaenliliaa.M
set_option linter.unusedVariables false

set_option maxHeartbeats 3200000 in
set_option maxRecDepth 100000 in
theorem FnExactParseExpression (s : ByteArray) (hs0 : s.size ≤ maxLen) (w : World) : Calls Try.prog 6 #[.string s] w fun e w' => e = .returned (.bool true) ∧ Below w.heap.size w w' := by
  unfold maxLen at hs0
  by_cases hbig : 1048576 < s.size
  · have q : (1048576 : Int) < (s.size : Int) := by omega
    go_enter Try.func6, Try.ntmps6
    go_wp2
    go_ret
    exact ⟨rfl, Below.refl _ _⟩
  have q : ¬ (1048576 : Int) < (s.size : Int) := by omega
  have hs : s.size ≤ 1048576 := by omega
  obtain ⟨x, hx⟩ : ∃ x, parE s = x := ⟨_, rfl⟩
  obtain ⟨tb, htb⟩ : ∃ tb, parEB s = tb := ⟨_, rfl⟩
  have qb : (tb != tb) = false := by cases tb <;> rfl
  have FR := Lib.hid (parE_fit s)
  have CS : Hid (∀ w : World, Calls Try.prog 21 #[.string s] w (RetNd2 w x tb)) := fun w => by rw [← hx, ← htb]; exact specParseExpression w hs
  have CI : Hid (∀ w : World, Calls Try.prog 22 #[.string s] w (RetNd2 w x tb)) := fun w => by rw [← hx, ← htb]; exact implParseExpression w hs
  have ln := parE_cnt s
  rw [hx] at FR
  rw [hx] at ln
  clear hx htb
  go_enter Try.func6, Try.ntmps6
  go_wp2_with fail
  refine (CS.out _).mono ?_
  rintro e w1 ⟨vw, rfl, Ow, b1⟩
  have W0 := Ow.read FR.out
  have z1 := b1.size
  clear Ow
  go_wp2_with fail
  refine (CI.out _).mono ?_
  rintro e w2 ⟨vg, rfl, Og, b2⟩
  have z2 := b2.size
  have B2 := b1.trans (b2.mono z1)
  have W0 := W0.below RN.keeps b2
  clear b1 b2
  go_wp2_with fail
  refine (eqO_nodes _ Og FR.out W0 (by omega)).mono ?_
  rintro e w3 ⟨rfl, b3⟩
  have z3 := b3.size
  have B3 := B2.trans (b3.mono (by omega))
  have W0 := W0.below RN.keeps (b3.mono (by omega))
  have Og := Og.below b3
  clear b3 B2
  go_wp2_with fail
  refine (mark_nodes (k := 1) _ Og (by omega) (by omega)).mono ?_
  clear Og
  rintro e w4 ⟨rfl, Om, c4⟩
  have z4 := c4.size
  have B4 := B3.trans (below_chg c4 (by omega))
  have W0 := W0.below RN.keeps (below_chg c4 (by omega))
  clear c4 B3
  have hq : ¬ (1 + ((cntN x : Nat) : Int) < 0) := by omega
  have hm : ((1 + ((cntN x : Nat) : Int)) != (1 + ((cntN x : Nat) : Int))) = false := by simp
  go_wp2_with fail
  refine (held_nodes (k := 1) _ Om (by omega) (by omega)).mono ?_
  rintro e wz ⟨rfl, rfl⟩
  go_wp2_with fail
  refine (CI.out _).mono ?_
  rintro e w5 ⟨vh, rfl, Oh, b5⟩
  have z5 := b5.size
  have B5 := B4.trans (b5.mono (by omega))
  have W0 := W0.below RN.keeps (b5.mono (by omega))
  have Om := Om.below b5
  clear b5 B4
  go_wp2_with fail
  refine (eqO_nodes _ Oh FR.out W0 (by omega)).mono ?_
  clear Oh W0
  rintro e w6 ⟨rfl, b6⟩
  have z6 := b6.size
  have B6 := B5.trans (b6.mono (by omega))
  have Om := Om.below b6
  clear b6 B5
  go_wp2_with fail
  refine (held_nodes (k := 1) _ Om (by omega) (by omega)).mono ?_
  rintro e wz ⟨rfl, rfl⟩
  go_wp2_with fail
  go_ret
  exact ⟨rfl, B6⟩
end Go.Proofs.Ytgjghpaenliliaa.Wk

namespace Go.Proofs.Ytgjghpaenliliaa.LFnExactParseExpression
open Go.ChangeShapes Go.WideShapes Go.ChangeAt Go.RowKit
open Go.ChangeMaps (open_string shut_string)
set_option linter.unusedVariables false

theorem own : ownKnob Try.prog.godebug = none := by kernel_rfl
theorem laidOut : laidOutB Try.prog = true := by kernel_rfl

set_option maxRecDepth 100000 in
theorem lifted (os : Os) (started : os.Started) (H : Type) (enc : TypeId × Value → H) :
    ReturnsInHanded {} Try.checked os 6 .any (Rows.fnExactParseExpressionSpec.pre6 enc Try.prog Try.f6 Rows.fnExactParseExpressionRow.domain false) (Rows.fnExactParseExpressionSpec.post enc Try.prog Try.f6 false true false false) := by
  refine returnsInHanded_of_change (C := Try.checked) own started (by kernel_rfl) Try.func6
    (ChangeSpec.witness6 (enc := enc) (C := Try.checked) false ⟨#[], #[.string ⟨#[]⟩], []⟩ 8 (by kernel_rfl) (by kernel_rfl) (by kernel_rfl) (by kernel_rfl)) ?_
  intro W base args ds gs before hval0 hW hcnd _
  have hval : ∀ (j : Nat) t v, Try.f6.params[j]? = some t → args[j]? = some v → Value.okWide Try.prog W .any base t v := hval0
  have hW' := hW
  obtain ⟨p, q, hA0, hV, rfl, hfz, hnd⟩ := hW
  have hA : DataW.TrodAll enc Try.prog W 0 (fun _ => true) true Try.f6.params.toList args.toList ds p := hA0
  rw [Try.params6] at hA hval
  obtain ⟨v0, vs0, d0, ds0, p0, q0, hargs, rfl, rfl, h0, r0⟩ := trodAll_cons hA
  obtain ⟨rfl, rfl, rfl⟩ := trodAll_nil r0
  obtain rfl : args = #[v0] := by cases args; simp_all
  obtain ⟨rfl, rfl⟩ := trodVars_none hV
  have k0 := h0
  have lt0 : ∀ x ∈ p0, x.block < W.heap.size := by obtain ⟨m, hm⟩ := k0; exact DataW.trod_lt m _ _ _ hm
  obtain ⟨a0, e0, _, _, w0⟩ := open_string Try.underlying9 (hval 0 9 v0 rfl rfl) h0
  subst e0
  clear hA0 hval0
  refine (Wk.FnExactParseExpression (w := W) a0 w0).mono fun e W' ⟨he, bel⟩ => ?_
  subst he
  exact ⟨_, rfl, _, _, _, [], _, [], hW', trodAll_mk1 (shut_bool Try.underlying4 _), (trodAll_cons_mk (Below.trod laidOut (by kernel_rfl) (of_decide_eq_true (by kernel_rfl)) k0 bel lt0) trodAll_mk0), rfl, bel.frame _, fun h => by cases h⟩

/-- The given statement. -/
theorem proved : Rows.FnExactParseExpressionSaid :=
  OpenClaim.holds_of_wide 6 Try.f6 rfl rfl rfl rfl rfl rfl rfl ⟨rfl, rfl, rfl, rfl, rfl⟩ rfl rfl rfl rfl rfl (by as_aux_lemma => kernel_rfl) Try.func6 (by as_aux_lemma => kernel_rfl)
    (of_decide_eq_true (by as_aux_lemma => kernel_rfl)) (by unfold Func.isWrapper; first | (rw [if_pos (by decide +kernel)]; kernel_rfl) | (rw [if_neg (by decide +kernel)]; exact ⟨rfl, rfl⟩))
    (fun os started H enc _ => lifted os started H enc)
#print axioms proved
end Go.Proofs.Ytgjghpaenliliaa.LFnExactParseExpression
