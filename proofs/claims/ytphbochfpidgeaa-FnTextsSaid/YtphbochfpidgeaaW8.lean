/-
  Walks of chapter 1: FormatInt of the program: digits collected, then turned round in place.
  Conditions: none beyond the bounds that each states.
-/
import Derived.Test.YtphbochfpidgeaaW7
import Derived.Test.YtphbochfpidgeaaP5
import Derived.Deep.AppendLies
namespace Go.Proofs.Ytphbochfpidgeaa.Wk
open Go.RowKit
set_option linter.unusedVariables false

theorem fmt_step {w wr w1 : World} {acc : List Int} {v v' : Value} {o : Obj} {x y : Int} (hown : wr.ownsRow w.heap.size 5 1 v acc.length (acc.map (Value.int .u8)))
    (hbw : Below w.heap.size w wr) (hown' : w1.ownsRow w.heap.size 5 1 v' (acc.length + 1) (acc.map (Value.int .u8) ++ [.int .u8 x])) (hg : (wr.alloc o).grownBy w1 v.ownBlock) (hx : x = y) :
    w1.ownsRow w.heap.size 5 1 v' (acc ++ [y]).length ((acc ++ [y]).map (Value.int .u8)) ∧ Below w.heap.size w w1 := by
  subst hx
  exact ⟨by simpa using hown', (hbw.alloc hbw.size _).grown hg (by have := hbw.size; simp; omega) (fun k hk => (hown.lt k hk).1)⟩
set_option maxHeartbeats 800000 in
set_option maxRecDepth 100000 in
theorem implFormatInt_pos (N : Nat) (hN : N ≤ 9223372036854775808) (hN0 : 0 < N) (h1 : N ≤ 9223372036854775807) (w : World) : Calls Try.prog 41 #[.int .i64 ((N : Int))] w fun e w' => e = .returned (.string (strOfNums (P.digs N))) ∧ Below w.heap.size w w' := by
  have h0 : (((N : Int) : Int) == 0) = false := by simp; omega
  have hlen := P.digs_len 19 N (by simp; omega)
  obtain ⟨i0, hi, hz0, hz1, hz2⟩ := info_parts info_u8
  have hsg : decide ((N : Int) < 0) = false := by simp
  go_enter Try.func41, Try.ntmps41
  go_wp2
  go_loopw [3, 4, 5] (fun vo vn vd wr => ∃ (m : Nat) (acc : List Int), m ≤ N ∧ vn = .int .i64 ((m : Int)) ∧ Hid (P.digs m ++ acc.reverse = P.digs N) ∧ wr.ownsRow w.heap.size 5 1 vo acc.length (acc.map (Value.int .u8)) ∧ Below w.heap.size w wr)
    (fun _ vn _ _ => (intOf vn).natAbs)
  case atStart => exact ⟨N, [], Nat.le_refl _, rfl, by show _ = _; simp, M.own_empty _ _, (Below.refl _ _).alloc (Nat.le_refl _) _⟩
  case round =>
    obtain ⟨m, acc, hm, rfl, hacc, hown, hbw⟩ := hrel
    by_cases hlt : 0 < m
    · have hne : (((m : Int) : Int) != 0) = true := by simp; omega
      have hal : acc.length + 1 ≤ 19 := by
        have h1 := congrArg List.length hacc.out
        rw [P.digs_pos hlt] at h1
        simp at h1; omega
      have HS : Hid (P.digs (m / 10) ++ (acc ++ [((48 + m % 10 : Nat) : Int)]).reverse = P.digs N) := by
        have := hacc.out
        rw [P.digs_pos hlt, List.append_assoc] at this
        show _ = _
        simpa using this
      clear hacc
      
      all_goals
        go_wp2_with (at_builtin; refine wpList_append_own _ rfl _ _ 22 rfl w.heap.size 5 i0 (.int .u8 0) 1 1 Try.underlying22 hi hz0 hz1 hz2 rfl (by decide) _ _ _ rfl (hown.alloc _) ⟨wr.heap.size, 0, none⟩ 1 1 [_] rfl rfl (M.one_new _ _ _) (by simp [Value.oneCell']) ?c3 ?c4 ?c5 ?_)
        case c3 => unfold maxLen; omega
        case c4 => omega
        case c5 => have := hbw.size; simp; omega
        intro v' w1 hown' hgrow _
        have R := fmt_step (w := w) (y := ((48 + m % 10 : Nat) : Int)) hown hbw hown' hgrow (by omega)
        clear hown' hgrow hown hbw
        skip
        go_wp2
        go_roundw
        case rel => exact ⟨m / 10, _, by omega, vint (by omega), HS, R.1, R.2⟩
        case measure => simp [intOf]; omega
    · have hm0 : m = 0 := by omega
      subst hm0
      have hne : (((0 : Int) : Int) != 0) = false := by simp
      have HV : Hid (acc.reverse = P.digs N) := by
        have := hacc.out
        rw [P.digs_zero] at this
        exact this
      clear hacc
      have hap : 1 ≤ acc.length := by
        have h1 := congrArg List.length HV.out
        obtain ⟨d, t, e, _⟩ := P.digs_ne hN0
        rw [e] at h1; simp at h1; omega
      have hl20 : acc.length ≤ 20 := by
        have h1 := congrArg List.length HV.out
        simp at h1; omega
      obtain ⟨g, cap, rfl, hbg, hlg⟩ := hown.form (by omega)
      have HR : Hid (acc.reverse = P.digs N) := HV
      generalize acc = L at *
      clear hlg HV
      go_wp2
      go_loopw [6, 7] (fun vi vj wq => ∃ k : Nat, 2 * k ≤ L.length ∧ vi = .int .i64 k ∧ vj = .int .i64 ((L.length : Int) - 1 - k) ∧ wq.ownsRow w.heap.size 5 1 (.slice (some ⟨g, 0, none⟩) L.length cap) L.length ((P.swp L k).map (Value.int .u8)) ∧ Below w.heap.size w wq)
        (fun vi _ _ => L.length - (intOf vi).toNat)
      case atStart => exact ⟨0, by omega, rfl, vint (by omega), by rw [P.swp_zero]; exact hown, hbw⟩
      case round =>
        obtain ⟨k, hk, rfl, hvj, hrow, hbq⟩ := hrel
        clear hown hbw
        by_cases hlt2 : 2 * k + 1 < L.length
        · obtain rfl := hvj.trans (vint (show (L.length : Int) - 1 - k = (L.length - 1 - k : Nat) by omega))
          have hj : L.length - 1 - k < L.length := by omega
          have hki : k < L.length := by omega
          have hkj : k < L.length - 1 - k := by omega
          have c1 : wr.cell? ⟨g, k, none⟩ = some (.int .u8 (L.getD k 0)) := by
            rw [hrow.cellAt k (by omega), List.getElem?_map, P.swp_at L k k hki, if_neg (by omega)]; rfl
          have c2 : wr.cell? ⟨g, L.length - 1 - k, none⟩ = some (.int .u8 (L.getD (L.length - 1 - k) 0)) := by
            rw [hrow.cellAt _ (by omega), List.getElem?_map, P.swp_at L k _ hj, if_neg (by omega)]; rfl
          have f1 := hrow.frozenAt k
          have f2 := hrow.frozenAt (L.length - 1 - k)
          have HST := Lib.hid (P.swp_step L k hlt2)
          obtain ⟨s1, s2⟩ := hrow.stored k (.int .u8 (L.getD (L.length - 1 - k) 0))
          obtain ⟨s3, s4⟩ := s1.stored (L.length - 1 - k) (.int .u8 (L.getD k 0))
          have B2 := (hbq.grown s2 hbq.size (fun k' hk' => by cases hk'; exact hbg)).grown s4 (by have := hbq.size; simpa [World.setCell] using this) (fun k' hk' => by cases hk'; exact hbg)
          have S3 := Lib.hid s3
          have BB := Lib.hid B2
          clear s1 s2 s3 s4 B2 hrow hbq
          generalize hx : L.length - 1 - k = x at *
          generalize L.getD k 0 = y1 at *
          generalize L.getD x 0 = y2 at *
          go_wp2
          go_region
          all_goals
            go_wp2
            go_roundw
            case rel =>
              refine ⟨k + 1, by omega, by go_num, vint (by omega), ?_, ?_⟩
              · rw [HST.out]
                have h3 := S3.out
                rw [← List.map_set, ← List.map_set] at h3
                exact h3.drew
              · exact BB.out.drew
            case measure => simp [intOf]; omega
        · have hkk : L.length ≤ 2 * k + 1 := by omega
          have hlt3 : decide ((k : Int) < (L.length : Int) - 1 - k) = false := by simp; omega
          rw [P.swp_end L k hkk] at hrow
          have hconv := M.conv_own (P := Try.prog) 22 9 Try.underlying22 Try.underlying5 Try.underlying9 hrow
          obtain rfl := hvj
          clear hrow
          go_wp2
          go_ret
          exact ⟨congrArg (fun l => Ending.returned (.string (strOfNums l))) HR.out, hbq⟩
set_option maxHeartbeats 800000 in
set_option maxRecDepth 100000 in
theorem implFormatInt_neg (N : Nat) (hN : N ≤ 9223372036854775808) (hN0 : 0 < N) (h1 : N ≤ 9223372036854775808) (w : World) : Calls Try.prog 41 #[.int .i64 (-(N : Int))] w fun e w' => e = .returned (.string (strOfNums (45 :: P.digs N))) ∧ Below w.heap.size w w' := by
  have h0 : ((-(N : Int) : Int) == 0) = false := by simp; omega
  have hlen := P.digs_len 19 N (by simp; omega)
  obtain ⟨i0, hi, hz0, hz1, hz2⟩ := info_parts info_u8
  have hsg : decide (-(N : Int) < 0) = true := by simp; omega
  go_enter Try.func41, Try.ntmps41
  go_wp2
  go_loopw [3, 4, 5] (fun vo vn vd wr => ∃ (m : Nat) (acc : List Int), m ≤ N ∧ vn = .int .i64 (-(m : Int)) ∧ Hid (P.digs m ++ acc.reverse = P.digs N) ∧ wr.ownsRow w.heap.size 5 1 vo acc.length (acc.map (Value.int .u8)) ∧ Below w.heap.size w wr)
    (fun _ vn _ _ => (intOf vn).natAbs)
  case atStart => exact ⟨N, [], Nat.le_refl _, rfl, by show _ = _; simp, M.own_empty _ _, (Below.refl _ _).alloc (Nat.le_refl _) _⟩
  case round =>
    obtain ⟨m, acc, hm, rfl, hacc, hown, hbw⟩ := hrel
    by_cases hlt : 0 < m
    · have hne : ((-(m : Int) : Int) != 0) = true := by simp; omega
      have hal : acc.length + 1 ≤ 19 := by
        have h1 := congrArg List.length hacc.out
        rw [P.digs_pos hlt] at h1
        simp at h1; omega
      have HS : Hid (P.digs (m / 10) ++ (acc ++ [((48 + m % 10 : Nat) : Int)]).reverse = P.digs N) := by
        have := hacc.out
        rw [P.digs_pos hlt, List.append_assoc] at this
        show _ = _
        simpa using this
      clear hacc
      have t1 : (-(m : Int)).tmod 10 = -((m % 10 : Nat) : Int) := by rw [Int.neg_tmod, Int.tmod_eq_emod_of_nonneg (by omega)]; omega
      have t2 : (-(m : Int)).tdiv 10 = -((m / 10 : Nat) : Int) := by rw [Int.neg_tdiv, Int.tdiv_eq_ediv_of_nonneg (by omega)]; omega
      have hb1 : m ≤ 9223372036854775808 := by omega
      by_cases hz : 0 < m % 10
      all_goals
        go_wp2_with (at_builtin; refine wpList_append_own _ rfl _ _ 22 rfl w.heap.size 5 i0 (.int .u8 0) 1 1 Try.underlying22 hi hz0 hz1 hz2 rfl (by decide) _ _ _ rfl (hown.alloc _) ⟨wr.heap.size, 0, none⟩ 1 1 [_] rfl rfl (M.one_new _ _ _) (by simp [Value.oneCell']) ?c3 ?c4 ?c5 ?_)
        case c3 => unfold maxLen; omega
        case c4 => omega
        case c5 => have := hbw.size; simp; omega
        intro v' w1 hown' hgrow _
        have R := fmt_step (w := w) (y := ((48 + m % 10 : Nat) : Int)) hown hbw hown' hgrow (by omega)
        clear hown' hgrow hown hbw
        clear t1 t2
        go_wp2
        go_roundw
        case rel => exact ⟨m / 10, _, by omega, vint (by omega), HS, R.1, R.2⟩
        case measure => simp [intOf]; omega
    · have hm0 : m = 0 := by omega
      subst hm0
      have hne : ((-(0 : Int) : Int) != 0) = false := by simp
      have HV : Hid (acc.reverse = P.digs N) := by
        have := hacc.out
        rw [P.digs_zero] at this
        exact this
      clear hacc
      have hap : 1 ≤ acc.length := by
        have h1 := congrArg List.length HV.out
        obtain ⟨d, t, e, _⟩ := P.digs_ne hN0
        rw [e] at h1; simp at h1; omega
      have hal : acc.length ≤ 19 := by
        have h1 := congrArg List.length HV.out
        simp at h1; omega
      have HR : Hid ((acc ++ [45]).reverse = 45 :: P.digs N) := by
        show _ = _
        rw [List.reverse_append, HV.out]; rfl
      go_wp2_with (at_builtin; refine wpList_append_own _ rfl _ _ 22 rfl w.heap.size 5 i0 (.int .u8 0) 1 1 Try.underlying22 hi hz0 hz1 hz2 rfl (by decide) _ _ _ rfl (hown.alloc _) ⟨wr.heap.size, 0, none⟩ 1 1 [_] rfl rfl (M.one_new _ _ _) (by simp [Value.oneCell']) ?c3 ?c4 ?c5 ?_)
      case c3 => unfold maxLen; omega
      case c4 => omega
      case c5 => have := hbw.size; simp; omega
      intro v' w1 hown' hgrow _
      obtain ⟨hown2, hbw2⟩ := fmt_step (w := w) (y := (45 : Int)) hown hbw hown' hgrow rfl
      clear hown hbw hown' hgrow HV
      have hl20 : (acc ++ [45]).length ≤ 20 := by simp; omega
      have hap2 : 1 ≤ (acc ++ [45]).length := by simp
      generalize acc ++ [45] = L at *
      obtain ⟨g, cap, rfl, hbg, hlg⟩ := hown2.form (by omega)
      have hown := hown2
      have hbw := hbw2
      clear hlg hown2 hbw2
      go_wp2
      go_loopw [6, 7] (fun vi vj wq => ∃ k : Nat, 2 * k ≤ L.length ∧ vi = .int .i64 k ∧ vj = .int .i64 ((L.length : Int) - 1 - k) ∧ wq.ownsRow w.heap.size 5 1 (.slice (some ⟨g, 0, none⟩) L.length cap) L.length ((P.swp L k).map (Value.int .u8)) ∧ Below w.heap.size w wq)
        (fun vi _ _ => L.length - (intOf vi).toNat)
      case atStart => exact ⟨0, by omega, rfl, vint (by omega), by rw [P.swp_zero]; exact hown, hbw⟩
      case round =>
        obtain ⟨k, hk, rfl, hvj, hrow, hbq⟩ := hrel
        clear hown hbw
        by_cases hlt2 : 2 * k + 1 < L.length
        · obtain rfl := hvj.trans (vint (show (L.length : Int) - 1 - k = (L.length - 1 - k : Nat) by omega))
          have hj : L.length - 1 - k < L.length := by omega
          have hki : k < L.length := by omega
          have hkj : k < L.length - 1 - k := by omega
          have c1 : wr.cell? ⟨g, k, none⟩ = some (.int .u8 (L.getD k 0)) := by
            rw [hrow.cellAt k (by omega), List.getElem?_map, P.swp_at L k k hki, if_neg (by omega)]; rfl
          have c2 : wr.cell? ⟨g, L.length - 1 - k, none⟩ = some (.int .u8 (L.getD (L.length - 1 - k) 0)) := by
            rw [hrow.cellAt _ (by omega), List.getElem?_map, P.swp_at L k _ hj, if_neg (by omega)]; rfl
          have f1 := hrow.frozenAt k
          have f2 := hrow.frozenAt (L.length - 1 - k)
          have HST := Lib.hid (P.swp_step L k hlt2)
          obtain ⟨s1, s2⟩ := hrow.stored k (.int .u8 (L.getD (L.length - 1 - k) 0))
          obtain ⟨s3, s4⟩ := s1.stored (L.length - 1 - k) (.int .u8 (L.getD k 0))
          have B2 := (hbq.grown s2 hbq.size (fun k' hk' => by cases hk'; exact hbg)).grown s4 (by have := hbq.size; simpa [World.setCell] using this) (fun k' hk' => by cases hk'; exact hbg)
          have S3 := Lib.hid s3
          have BB := Lib.hid B2
          clear s1 s2 s3 s4 B2 hrow hbq
          generalize hx : L.length - 1 - k = x at *
          generalize L.getD k 0 = y1 at *
          generalize L.getD x 0 = y2 at *
          go_wp2
          go_region
          all_goals
            go_wp2
            go_roundw
            case rel =>
              refine ⟨k + 1, by omega, by go_num, vint (by omega), ?_, ?_⟩
              · rw [HST.out]
                have h3 := S3.out
                rw [← List.map_set, ← List.map_set] at h3
                exact h3.drew
              · exact BB.out.drew
            case measure => simp [intOf]; omega
        · have hkk : L.length ≤ 2 * k + 1 := by omega
          have hlt3 : decide ((k : Int) < (L.length : Int) - 1 - k) = false := by simp; omega
          rw [P.swp_end L k hkk] at hrow
          have hconv := M.conv_own (P := Try.prog) 22 9 Try.underlying22 Try.underlying5 Try.underlying9 hrow
          obtain rfl := hvj
          clear hrow
          go_wp2
          go_ret
          exact ⟨congrArg (fun l => Ending.returned (.string (strOfNums l))) HR.out, hbq⟩
theorem implFormatInt (n : Int) (h : M.Fit n) (w : World) : Calls Try.prog 41 #[.int .i64 n] w fun e w' => e = .returned (.string (fmtS n)) ∧ Below w.heap.size w w' := by
  obtain ⟨h1, h2⟩ := h
  by_cases h0 : n = 0
  · subst h0
    have e0 : fmtS 0 = ⟨#[48]⟩ := rfl
    rw [e0]
    clear e0
    go_enter Try.func41, Try.ntmps41
    go_wp2
    go_ret
    exact ⟨rfl, Below.refl _ _⟩
  · by_cases hn : n < 0
    · have e0 : fmtS n = strOfNums (45 :: P.digs n.natAbs) := by unfold fmtS P.fmtL; rw [if_neg h0, if_pos hn]
      rw [e0]
      have := implFormatInt_neg n.natAbs (by omega) (by omega) (by omega) w
      rwa [show (-(n.natAbs : Int)) = n by omega] at this
    · have e0 : fmtS n = strOfNums (P.digs n.natAbs) := by unfold fmtS P.fmtL; rw [if_neg h0, if_neg hn]
      rw [e0]
      have := implFormatInt_pos n.natAbs (by omega) (by omega) (by omega) w
      rwa [show ((n.natAbs : Nat) : Int) = n by omega] at this
end Go.Proofs.Ytphbochfpidgeaa.Wk
