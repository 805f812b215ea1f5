/-
  Walks of chapter 3: lists of pairs measured, copied, compared.
  Conditions: none beyond the bounds that each states.
-/
import Derived.Test.YtgjghpaenliliaaW3
import Derived.Test.YtgjghpaenliliaaM9
import Derived.Test.YtgjghpaenliliaaO1
import Derived.Test.YtgjghpaenliliaaP7
import Derived.Test.YtgjghpaenliliaaU0
namespace Go.Proofs.Ytgjghpaenliliaa.Wk
open Go.RowKit Go.Proofs.Ytgjghpaenliliaa.M
set_option linter.unusedVariables false
attribute [local go_sem] cell_grow

theorem info_pair : (Try.prog.info? 92).map (fun i => (i.zero, i.size, i.bytes)) = some (some (.agg #[.int .i64 0, .int .i64 0]), 2, 16) := by kernel_rfl
theorem sz_pairs {A : Option Addr} {n c : Nat} {l : List (Int × Int)} {left : Int} (w : World) (h : Sl RP 2 w w.heap.size A n c l) (h0 : 0 ≤ left) (h1 : left ≤ 1048576) :
    Calls Try.prog 85 #[.slice A n c, .int .i64 left] w fun e w' => e = .returned (.int .i64 (less left l.length)) ∧ Below w.heap.size w w' := by
  have hn := Nat.le_trans h.le h.max
  rw [h.len]
  unfold maxLen at hn
  clear h
  by_cases hl : left < n
  · have hv : less left n = -1 := by unfold less; rw [if_pos hl]
    rw [hv]
    clear hv
    go_enter Try.func85, Try.ntmps85
    go_wp2
    go_ret
    exact ⟨rfl, Below.refl _ _⟩
  · have hv : less left n = left - n := by unfold less; rw [if_neg hl]
    rw [hv]
    clear hv
    go_enter Try.func85, Try.ntmps85
    go_wp2
    go_ret
    exact ⟨rfl, Below.refl _ _⟩
theorem toPair (p : Int × Int) (w : World) : Calls Try.prog 106 #[.agg #[.int .i64 p.1, .int .i64 p.2]] w fun e w' => e = .returned (.agg #[.int .i64 p.1, .int .i64 p.2]) ∧ Below w.heap.size w w' := by
  go_enter Try.func106, Try.ntmps106
  go_wp2
  refine bodyPost_ret (v := .agg #[.int .i64 p.1, .int .i64 p.2]) (by simp [results, Try.results106, go_sem]) rfl ⟨rfl, ?_⟩
  exact (((Below.refl _ _).alloc (Nat.le_refl _) _).alloc (by simp) _).alloc (by simp; omega) _
theorem made_pairs (n : Nat) : madeCells #[.int .i64 0, .int .i64 0] (n * 2) = (prc (List.replicate n ((0 : Int), (0 : Int)))).toArray := by
  apply Array.ext
  · rw [size_madeCells]; simp [prc_len]
  · intro j h1 h2
    have hj : j < n * 2 := by rw [size_madeCells] at h1; exact h1
    obtain ⟨a, b⟩ := prc_at (List.replicate n ((0 : Int), (0 : Int))) (j / 2) (0, 0) (by rw [List.getElem?_replicate, if_pos (by omega)])
    have e : (madeCells #[.int .i64 0, .int .i64 0] (n * 2))[j] = (#[Value.int .i64 0, .int .i64 0])[j % 2]! := by simp [madeCells]
    rw [e]
    rcases Nat.mod_two_eq_zero_or_one j with h0 | h0
    · rw [h0]
      rw [show j / 2 * 2 = j by omega] at a
      obtain ⟨_, hh⟩ := List.getElem?_eq_some_iff.1 a
      simpa using hh.symm
    · rw [h0]
      rw [show j / 2 * 2 + 1 = j by omega] at b
      obtain ⟨_, hh⟩ := List.getElem?_eq_some_iff.1 b
      simpa using hh.symm
/-- It returns a list of pairs that the call laid. -/
abbrev OwnP (w : World) (l : List (Int × Int)) (e : Ending) (w' : World) : Prop := ∃ v, e = .returned v ∧ w'.ownsRow w.heap.size 92 2 v l.length (prc l) ∧ Below w.heap.size w w'
set_option maxHeartbeats 1600000 in
theorem toPairS {A : Option Addr} {n c : Nat} {l : List (Int × Int)} (w : World) (h : Sl RP 2 w w.heap.size A n c l) (hn : l.length ≤ 1048576) : Calls Try.prog 88 #[.slice A n c] w (OwnP w l) := by
  obtain ⟨i0, hi, hz0, hz1, hz2⟩ := info_parts info_pair
  have HL := Lib.hid h.len
  have hn : n ≤ 1048576 := by have := h.len; omega
  have hmk : ∀ w : World, (Instr.makeSlice 51 (.int .i64 (n : Int)) (.int .i64 (n : Int))).run Try.prog w = .ok (.slice (some ⟨w.heap.size, 0, none⟩) n n) (w.alloc (.cells (prc (List.replicate n ((0 : Int), (0 : Int)))).toArray 92)) := fun w => by
    have := run_make (P := Try.prog) w 51 92 i0 _ Try.underlying51 hi hz0 .i64 .i64 n n (by omega) (by omega) (by rw [hz2]; omega) (by omega)
    rw [hz1] at this
    rw [← made_pairs]
    simpa [Value.cells] using this
  go_enter Try.func88, Try.ntmps88
  go_wp2
  clear hmk
  go_loopw [4] (fun vi wr => ∃ k : Nat, k ≤ n ∧ vi = .int .i64 k ∧ Row wr w.heap.size 92 (prc (l.take k ++ List.replicate (n - k) ((0 : Int), (0 : Int)))) ∧ Below w.heap.size w wr)
    (fun vi _ => n - (intOf vi).toNat)
  case atStart => exact ⟨0, Nat.zero_le _, rfl, Row.new w _ _, (Below.refl _ _).alloc (Nat.le_refl _) _⟩
  case round =>
    obtain ⟨k, hk, rfl, hrow, hbw⟩ := hrel
    by_cases hlt : k < n
    · obtain ⟨b, o, p, rfl, hb, hx, hf, hg, g0, g1⟩ := pairAt h hlt
      have e0 := ((cell_of hbw) b (o + k * 2) hb).trans g0
      have e1 := ((cell_of hbw) b (o + k * 2 + 1) hb).trans g1
      have HX := Lib.hid hx
      clear g0 g1 hx h
      go_wp2_with fail
      refine (toPair p _).mono ?_
      rintro e w2 ⟨rfl, hb2⟩
      have R2 := hrow.below hb2 hrow.lt
      have hpl : (l.take k).length = k := by rw [List.length_take]; have := HL.out; omega
      have hat : (l.take k ++ List.replicate (n - k) ((0 : Int), (0 : Int)))[k]? = some (0, 0) := by
        rw [List.getElem?_append_right (by omega), List.getElem?_replicate, if_pos (by omega)]
      obtain ⟨i0', i1'⟩ := prc_at _ k _ hat
      have c0 := (R2.cell (k * 2)).trans i0'
      have c1' := (R2.cell (k * 2 + 1)).trans i1'
      have f0 := R2.free (k * 2)
      have f1 := R2.free (k * 2 + 1)
      have hlw := R2.lt
      have ROW : Hid (Row ((w2.setCell ⟨w.heap.size, k * 2, none⟩ (.int .i64 p.1)).setCell ⟨w.heap.size, k * 2 + 1, none⟩ (.int .i64 p.2)) w.heap.size 92 (prc (l.take (k + 1) ++ List.replicate (n - (k + 1)) ((0 : Int), (0 : Int))))) := by
        refine Lib.hid ?_
        have := (R2.set (k * 2) (.int .i64 p.1)).set (k * 2 + 1) (.int .i64 p.2)
        rw [prc_set _ k p] at this
        rw [show n - k = (n - (k + 1)) + 1 by omega] at this
        have e := set_at (l.take k) ((0 : Int), (0 : Int)) p (n - (k + 1))
        rw [hpl] at e
        rw [e] at this
        obtain ⟨hl, ee⟩ := List.getElem?_eq_some_iff.1 HX.out
        rw [List.take_succ_eq_append_getElem hl, ee]
        exact this
      have BEL := Lib.hid (((hbw.trans (hb2.mono hbw.size)).setCell (p := ⟨w.heap.size, k * 2, none⟩) (Nat.le_refl _) (.int .i64 p.1)).setCell (p := ⟨w.heap.size, k * 2 + 1, none⟩) (Nat.le_refl _) (.int .i64 p.2))
      clear hrow hbw hb2 R2 hat i0' i1' e0 e1 hpl
      go_wp2
      go_roundw
      case rel => exact ⟨k + 1, by omega, by go_num, ROW.out, BEL.out⟩
      case measure => simp [intOf]; omega
    · have hkn : k = n := by omega
      have e : l.take k = l := List.take_of_length_le (by have := HL.out; omega)
      rw [e] at hrow
      rw [hkn, Nat.sub_self, List.replicate_zero, List.append_nil] at hrow
      have HR : Hid (wr.ownsRow w.heap.size 92 2 (.slice (some ⟨w.heap.size, 0, none⟩) n n) l.length (prc l)) := by
        refine Lib.hid ?_
        rw [HL.out]
        exact hrow.own (Nat.le_refl _) (by rw [prc_len, HL.out]) (by unfold maxLen; omega)
      clear hrow h hkn e
      go_wp2
      go_ret
      exact ⟨_, rfl, HR.out, hbw⟩
theorem to_pairs {A : Option Addr} {n c : Nat} {l : List (Int × Int)} (w : World) (h : Sl RP 2 w w.heap.size A n c l) (ht : l.length ≤ 1048576) : Calls Try.prog 88 #[.slice A n c] w (RetSl RP 2 w l) :=
  (toPairS w h ht).mono fun e w' ⟨v, he, ho, hb⟩ => by
    obtain ⟨A', n', c', rfl, hs⟩ := own_pairs ho (fitPairs h)
    exact ⟨A', n', c', he, hs, hb⟩
theorem eqPair (p q : Int × Int) (w : World) : Calls Try.prog 108 #[.agg #[.int .i64 p.1, .int .i64 p.2], .agg #[.int .i64 q.1, .int .i64 q.2]] w fun e w' => e = .returned (.bool (decide (p = q))) ∧ Below w.heap.size w w' := by
  have HB := Lib.hid ((((Below.refl w.heap.size w).alloc (Nat.le_refl _) (.cells #[.int .i64 p.1, .int .i64 p.2] 92)).alloc (by simp) (.cells #[.int .i64 q.1, .int .i64 q.2] 92)))
  obtain ⟨a, b⟩ := p
  obtain ⟨a', b'⟩ := q
  have HD : Hid (decide ((a, b) = (a', b')) = (decide (a = a') && decide (b = b'))) := by show _ = _; simp
  simp only at HB
  by_cases h1 : a = a'
  · have t1 : (a != a') = false := by simpa using h1
    by_cases h2 : b = b'
    · have t2 : (b != b') = false := by simpa using h2
      have HV : Hid (decide ((a, b) = (a', b')) = true) := by show _ = _; rw [HD.out]; simp [h1, h2]
      clear h1 h2
      go_enter Try.func108, Try.ntmps108
      go_wp2
      go_ret
      exact ⟨ret_bool HV.out.symm, HB.out⟩
    · have t2 : (b != b') = true := by simpa using h2
      have HV : Hid (decide ((a, b) = (a', b')) = false) := by show _ = _; rw [HD.out]; simp [h1, h2]
      clear h1 h2
      go_enter Try.func108, Try.ntmps108
      go_wp2
      go_ret
      exact ⟨ret_bool HV.out.symm, HB.out⟩
  · have t1 : (a != a') = true := by simpa using h1
    have HV : Hid (decide ((a, b) = (a', b')) = false) := by show _ = _; rw [HD.out]; simp [h1]
    clear h1
    go_enter Try.func108, Try.ntmps108
    go_wp2
    go_ret
    exact ⟨ret_bool HV.out.symm, HB.out⟩
set_option maxHeartbeats 1600000 in
set_option maxRecDepth 100000 in
theorem eqPairS {A A' : Option Addr} {n n' c c' : Nat} {xs ys : List (Int × Int)} (w : World) (h : Sl RP 2 w w.heap.size A n c xs) (h' : Sl RP 2 w w.heap.size A' n' c' ys) :
    Calls Try.prog 92 #[.slice A n c, .slice A' n' c'] w fun e w' => e = .returned (.bool (decide (xs = ys))) ∧ Below w.heap.size w w' := by
  have m1 := Nat.le_trans h.le h.max
  have m2 := Nat.le_trans h'.le h'.max
  unfold maxLen at m1 m2
  have HL := Lib.hid h.len
  have HL' := Lib.hid h'.len
  by_cases hne : n = n'
  · have HN := Lib.hid hne
    have ht : ((n : Int) != (n' : Int)) = false := by simp [hne]
    clear hne
    go_enter Try.func92, Try.ntmps92
    go_wp2
    go_loopw [5] (fun vk wr => ∃ k : Nat, k ≤ n ∧ vk = .int .i64 k ∧ Hid (P.Agree xs ys k) ∧ Below w.heap.size w wr) (fun vk _ => n - (intOf vk).toNat)
    case atStart => exact ⟨0, Nat.zero_le _, rfl, rfl, Below.refl _ _⟩
    case round =>
      obtain ⟨k, hk, rfl, hup, hbw⟩ := hrel
      by_cases hlt : k < n
      · have hlt' : k < n' := by have := HN.out; omega
        obtain ⟨b, o, x, rfl, hb, hx, hf, hg, hc0, hc1⟩ := pairAt h hlt
        obtain ⟨b', o', y, rfl, hb', hy, hf', hg', hd0, hd1⟩ := pairAt h' hlt'
        have hsz := hbw.size
        have g1 : b < wr.heap.size := by omega
        have g2 : b' < wr.heap.size := by omega
        have e1 := ((cell_of hbw) b (o + k * 2) hb).trans hc0
        have e2 := ((cell_of hbw) b (o + k * 2 + 1) hb).trans hc1
        have e3 := ((cell_of hbw) b' (o' + k * 2) hb').trans hd0
        have e4 := ((cell_of hbw) b' (o' + k * 2 + 1) hb').trans hd1
        have q1 : (k : Int) < (n : Int) := by omega
        have q2 : (k : Int) < (n' : Int) := by omega
        have HX := Lib.hid hx
        have HY := Lib.hid hy
        clear hx hy h h' hc0 hc1 hd0 hd1
        by_cases hxy : x = y
        · have hd : decide (x = y) = true := by simpa using hxy
          have HE := Lib.hid (P.agree_step hup.out HX.out (hxy ▸ HY.out))
          clear hxy
          go_wp2_with fail
          refine wp_region_qb (by kernel_rfl) (by kernel_rfl) ?_; (repeat (go_big_quiet_step ((go_at_call 108; exact quietBb hd (eqPair x y _))))); refine wpQuiet_nil ?_; intro w8 hb8
          go_wp2
          go_roundw
          case rel => exact ⟨k + 1, by omega, by go_num, HE, hbw.trans (hb8.mono hsz)⟩
          case measure => simp [intOf]; omega
        · have hd : decide (x = y) = false := by simpa using hxy
          have HE : Hid (decide (xs = ys) = false) := by
            show _ = _
            rw [decide_eq_false_iff_not]; exact P.agree_no HX.out HY.out hxy
          clear hxy
          go_wp2_with fail
          refine wp_region_qb (by kernel_rfl) (by kernel_rfl) ?_; (repeat (go_big_quiet_step ((go_at_call 108; exact quietBb hd (eqPair x y _))))); refine wpQuiet_nil ?_; intro w8 hb8
          go_wp2
          go_ret
          exact ⟨ret_bool HE.out.symm, hbw.trans (hb8.mono hsz)⟩
      · have HE : Hid (decide (xs = ys) = true) := by
          show _ = _
          rw [decide_eq_true_iff]
          exact P.agree_all hup.out HL.out (by rw [HL'.out]; exact HN.out.symm) (by omega)
        clear h h'
        go_wp2
        go_ret
        exact ⟨ret_bool HE.out.symm, hbw⟩
  · have ht : ((n : Int) != (n' : Int)) = true := by simp; omega
    have HE : Hid (decide (xs = ys) = false) := by
      show _ = _
      rw [decide_eq_false_iff_not]
      rintro rfl
      exact hne (HL.out.symm.trans HL'.out)
    clear hne h h'
    go_enter Try.func92, Try.ntmps92
    go_wp2
    go_ret
    exact ⟨ret_bool HE.out.symm, Below.refl _ _⟩
theorem eq_pairs {A A' : Option Addr} {n n' c c' : Nat} {l : List (Int × Int)} (w : World) (h : Sl RP 2 w w.heap.size A n c l) (h' : Sl RP 2 w w.heap.size A' n' c' l) :
    Calls Try.prog 92 #[.slice A n c, .slice A' n' c'] w fun e w' => e = .returned (.bool true) ∧ Below w.heap.size w w' := (eqPairS w h h').mono fun e w' ⟨he, hb⟩ => ⟨by rw [he]; simp, hb⟩
end Go.Proofs.Ytgjghpaenliliaa.Wk
