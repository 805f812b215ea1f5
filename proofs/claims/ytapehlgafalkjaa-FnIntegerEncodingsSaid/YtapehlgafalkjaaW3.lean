/-
  Walks of chapter 1: LEB128.
  Conditions: none beyond the bounds that each states.
-/
import Derived.Test.YtapehlgafalkjaaW2
import Derived.Test.YtapehlgafalkjaaM3
namespace Go.Proofs.Ytapehlgafalkjaa.Wk
open Go.RowKit
set_option linter.unusedVariables false

theorem info_u8 : (Try.prog.info? 5).map (fun i => (i.zero, i.size, i.bytes)) = some (some (.int .u8 0), 1, 1) := by kernel_rfl
/-- What EncodeVarint writes. -/
def evS (n : Int) : ByteArray := if P.inR n 0 562949953421311 then strOfNums (P.uv n.toNat) else ⟨#[]⟩
theorem uv_step {w wr w1 : World} {m N : Nat} {acc : List Int} {v v' : Value} {o : Obj} {x : Int} (hm : 127 < m) (hacc : Hid (acc ++ P.uv m = P.uv N)) (hown : wr.ownsRow w.heap.size 5 1 v acc.length (acc.map (Value.int .u8)))
    (hbw : Below w.heap.size w wr) (hown' : w1.ownsRow w.heap.size 5 1 v' (acc.length + 1) (acc.map (Value.int .u8) ++ [.int .u8 x])) (hg : (wr.alloc o).grownBy w1 v.ownBlock) (hx : x = ((128 + m % 128 : Nat) : Int)) :
    Hid ((acc ++ [((128 + m % 128 : Nat) : Int)]) ++ P.uv (m / 128) = P.uv N) ∧ w1.ownsRow w.heap.size 5 1 v' (acc ++ [((128 + m % 128 : Nat) : Int)]).length ((acc ++ [((128 + m % 128 : Nat) : Int)]).map (Value.int .u8)) ∧ Below w.heap.size w w1 := by
  subst hx
  refine ⟨?_, by simpa using hown', (hbw.alloc hbw.size _).grown hg (by have := hbw.size; simp; omega) (fun k hk => (hown.lt k hk).1)⟩
  have := hacc.out
  rw [P.uv_big (by omega)] at this
  show _ = _
  rw [List.append_assoc]; exact this
theorem uv_last {w wr w1 : World} {m N : Nat} {acc : List Int} {v v' : Value} {o : Obj} {x : Int} (hm : m < 128) (hacc : Hid (acc ++ P.uv m = P.uv N)) (hown : wr.ownsRow w.heap.size 5 1 v acc.length (acc.map (Value.int .u8)))
    (hbw : Below w.heap.size w wr) (hown' : w1.ownsRow w.heap.size 5 1 v' (acc.length + 1) (acc.map (Value.int .u8) ++ [.int .u8 x])) (hg : (wr.alloc o).grownBy w1 v.ownBlock) (hx : x = (m : Int)) :
    w1.ownsRow w.heap.size 5 1 v' (acc.length + 1) ((P.uv N).map (Value.int .u8)) ∧ Below w.heap.size w w1 := by
  subst hx
  refine ⟨?_, (hbw.alloc hbw.size _).grown hg (by have := hbw.size; simp; omega) (fun k hk => (hown.lt k hk).1)⟩
  rw [← hacc.out, P.uv_small hm]
  simpa using hown'
set_option maxHeartbeats 400000 in
set_option maxRecDepth 100000 in
theorem implEncodeVarint_y (N : Nat) (hN : N ≤ 562949953421311) (w : World) : Calls Try.prog 21 #[.int .i64 N] w fun e w' => e = .returned (.string (strOfNums (P.uv N))) ∧ Below w.heap.size w w' := by
  have hin : P.inR N 0 562949953421311 = true := P.inR_mk (by omega)
  obtain ⟨i0, hi, hz0, hz1, hz2⟩ := info_parts info_u8
  have hlen := P.uv_len 6 N (by simpa using (by omega : N < 562949953421312))
  go_enter Try.func21, Try.ntmps21
  go_wp2_with (go_at_call 37; refine (within _ _ _ _).mono ?_; rintro e w' ⟨rfl, rfl⟩)
  go_loopw [0, 3] (fun vn vo wr => ∃ (m : Nat) (acc : List Int), m ≤ N ∧ vn = .int .i64 m ∧ Hid (acc ++ P.uv m = P.uv N) ∧ wr.ownsRow w.heap.size 5 1 vo acc.length (acc.map (Value.int .u8)) ∧ Below w.heap.size w wr)
    (fun vn _ _ => (intOf vn).toNat)
  case atStart => exact ⟨N, [], Nat.le_refl _, rfl, rfl, M.own_empty _ _, (Below.refl _ _).alloc (Nat.le_refl _) _⟩
  case round =>
    obtain ⟨m, acc, hm, rfl, hacc, hown, hbw⟩ := hrel
    have hal : acc.length + 1 ≤ 7 := by
      have h1 := congrArg List.length hacc.out
      rw [List.length_append] at h1
      have h2 := P.uv_pos m
      omega
    by_cases hlt : 127 < m
    · go_wp2_with (at_builtin; refine wpList_append_own _ rfl _ _ 37 rfl w.heap.size 5 i0 (.int .u8 0) 1 1 Try.underlying37 hi hz0 hz1 hz2 rfl (by decide) _ _ _ rfl (hown.alloc _) ⟨wr.heap.size, 0, none⟩ 1 1 [_] rfl rfl (M.one_new _ _ _) (by simp [Value.oneCell']) ?c3 ?c4 ?c5 ?_)
      case c3 => unfold maxLen; omega
      case c4 => omega
      case c5 => have := hbw.size; simp; omega
      intro v' w1 hown' hgrow _
      have R := uv_step (w := w) hlt hacc hown hbw hown' hgrow (by rw [Go.i64_and127, B.or128 _ (by omega) (by omega)]; omega)
      clear hown' hgrow hown hbw
      go_wp2
      go_roundw
      case rel => exact ⟨m / 128, _, by omega, by go_num, R.1, R.2.1, R.2.2⟩
      case measure => simp [intOf]; omega
    · go_wp2_with (at_builtin; refine wpList_append_own _ rfl _ _ 37 rfl w.heap.size 5 i0 (.int .u8 0) 1 1 Try.underlying37 hi hz0 hz1 hz2 rfl (by decide) _ _ _ rfl (hown.alloc _) ⟨wr.heap.size, 0, none⟩ 1 1 [_] rfl rfl (M.one_new _ _ _) (by simp [Value.oneCell']) ?c3 ?c4 ?c5 ?_)
      case c3 => unfold maxLen; omega
      case c4 => omega
      case c5 => have := hbw.size; simp; omega
      intro v' w1 hown' hgrow _
      have R := uv_last (w := w) (by omega) hacc hown hbw hown' hgrow rfl
      have hconv := M.conv_own (P := Try.prog) 37 9 Try.underlying37 Try.underlying5 Try.underlying9 R.1
      have hbw1 := R.2
      clear hown' hgrow hown hbw R
      go_wp2
      go_ret
      exact ⟨rfl, hbw1⟩
theorem implEncodeVarint (n : Int) (w : World) : Calls Try.prog 21 #[.int .i64 n] w fun e w' => e = .returned (.string (evS n)) ∧ Below w.heap.size w w' := by
  cases hr : P.inR n 0 562949953421311 with
  | true =>
    have hb := P.inR_t hr
    obtain ⟨m, rfl⟩ : ∃ m : Nat, n = m := ⟨n.toNat, by omega⟩
    have e0 : evS m = strOfNums (P.uv m) := by simp [evS, hr]
    rw [e0]
    exact implEncodeVarint_y m (by omega) w
  | false =>
    have e0 : evS n = ⟨#[]⟩ := by simp [evS, hr]
    rw [e0]
    clear e0
    go_enter Try.func21, Try.ntmps21
    go_wp2_with (go_at_call 37; refine (within _ _ _ _).mono ?_; rintro e w' ⟨rfl, rfl⟩)
    go_ret
    exact ⟨rfl, Below.refl _ _⟩
set_option maxHeartbeats 400000 in
set_option maxRecDepth 100000 in
theorem specEncodeVarint_y (N : Nat) (hN : N ≤ 562949953421311) (w : World) : Calls Try.prog 20 #[.int .i64 N] w fun e w' => e = .returned (.string (strOfNums (P.uv N))) ∧ Below w.heap.size w w' := by
  have hin : P.inR N 0 562949953421311 = true := P.inR_mk (by omega)
  obtain ⟨i0, hi, hz0, hz1, hz2⟩ := info_parts info_u8
  have hlen := P.uv_len 6 N (by simpa using (by omega : N < 562949953421312))
  go_enter Try.func20, Try.ntmps20
  go_wp2_with (go_at_call 38; refine (l1In _ _ _ _).mono ?_; rintro e w' ⟨rfl, rfl⟩)
  go_loopw [0, 3] (fun vn vo wr => ∃ (m : Nat) (acc : List Int), m ≤ N ∧ vn = .int .i64 m ∧ Hid (acc ++ P.uv m = P.uv N) ∧ wr.ownsRow w.heap.size 5 1 vo acc.length (acc.map (Value.int .u8)) ∧ Below w.heap.size w wr)
    (fun vn _ _ => (intOf vn).toNat)
  case atStart => exact ⟨N, [], Nat.le_refl _, rfl, rfl, M.own_empty _ _, (Below.refl _ _).alloc (Nat.le_refl _) _⟩
  case round =>
    obtain ⟨m, acc, hm, rfl, hacc, hown, hbw⟩ := hrel
    have hal : acc.length + 1 ≤ 7 := by
      have h1 := congrArg List.length hacc.out
      rw [List.length_append] at h1
      have h2 := P.uv_pos m
      omega
    by_cases hlt : 127 < m
    · go_wp2_with (at_builtin; refine wpList_append_own _ rfl _ _ 37 rfl w.heap.size 5 i0 (.int .u8 0) 1 1 Try.underlying37 hi hz0 hz1 hz2 rfl (by decide) _ _ _ rfl (hown.alloc _) ⟨wr.heap.size, 0, none⟩ 1 1 [_] rfl rfl (M.one_new _ _ _) (by simp [Value.oneCell']) ?c3 ?c4 ?c5 ?_)
      case c3 => unfold maxLen; omega
      case c4 => omega
      case c5 => have := hbw.size; simp; omega
      intro v' w1 hown' hgrow _
      have R := uv_step (w := w) hlt hacc hown hbw hown' hgrow (by omega)
      clear hown' hgrow hown hbw
      go_wp2
      go_roundw
      case rel => exact ⟨m / 128, _, by omega, by go_num, R.1, R.2.1, R.2.2⟩
      case measure => simp [intOf]; omega
    · go_wp2_with (at_builtin; refine wpList_append_own _ rfl _ _ 37 rfl w.heap.size 5 i0 (.int .u8 0) 1 1 Try.underlying37 hi hz0 hz1 hz2 rfl (by decide) _ _ _ rfl (hown.alloc _) ⟨wr.heap.size, 0, none⟩ 1 1 [_] rfl rfl (M.one_new _ _ _) (by simp [Value.oneCell']) ?c3 ?c4 ?c5 ?_)
      case c3 => unfold maxLen; omega
      case c4 => omega
      case c5 => have := hbw.size; simp; omega
      intro v' w1 hown' hgrow _
      have R := uv_last (w := w) (by omega) hacc hown hbw hown' hgrow rfl
      have hconv := M.conv_own (P := Try.prog) 37 9 Try.underlying37 Try.underlying5 Try.underlying9 R.1
      have hbw1 := R.2
      clear hown' hgrow hown hbw R
      go_wp2
      go_ret
      exact ⟨rfl, hbw1⟩
theorem specEncodeVarint (n : Int) (w : World) : Calls Try.prog 20 #[.int .i64 n] w fun e w' => e = .returned (.string (evS n)) ∧ Below w.heap.size w w' := by
  cases hr : P.inR n 0 562949953421311 with
  | true =>
    have hb := P.inR_t hr
    obtain ⟨m, rfl⟩ : ∃ m : Nat, n = m := ⟨n.toNat, by omega⟩
    have e0 : evS m = strOfNums (P.uv m) := by simp [evS, hr]
    rw [e0]
    exact specEncodeVarint_y m (by omega) w
  | false =>
    have e0 : evS n = ⟨#[]⟩ := by simp [evS, hr]
    rw [e0]
    clear e0
    go_enter Try.func20, Try.ntmps20
    go_wp2_with (go_at_call 38; refine (l1In _ _ _ _).mono ?_; rintro e w' ⟨rfl, rfl⟩)
    go_ret
    exact ⟨rfl, Below.refl _ _⟩
theorem FnExactEncodeVarint (n : Int) (hc : (Lit.int .i64 n).wf = true) (w : World) : Calls Try.prog 7 #[.int .i64 n] w fun e w' => e = .returned (.bool true) ∧ Below w.heap.size w w' := by
  clear hc
  go_enter Try.func7, Try.ntmps7
  go_wp2_with fail
  refine (specEncodeVarint _ _).mono ?_
  rintro e w1 ⟨rfl, hb1⟩
  go_wp2_with fail
  refine (implEncodeVarint _ _).mono ?_
  rintro e w2 ⟨rfl, hb2⟩
  go_wp2_with fail
  go_ret
  exact ⟨rfl, hb1.trans (hb2.mono hb1.size)⟩
end Go.Proofs.Ytapehlgafalkjaa.Wk
