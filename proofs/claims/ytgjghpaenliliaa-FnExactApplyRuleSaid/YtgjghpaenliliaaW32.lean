/-
  Walks of chapter 3: the table of what is above what.
  Conditions: none beyond the bounds that each states.
-/
import Derived.Test.YtgjghpaenliliaaW30
import Derived.Test.YtgjghpaenliliaaM10
namespace Go.Proofs.Ytgjghpaenliliaa.Wk
open Go.RowKit Go.Proofs.Ytgjghpaenliliaa.M
set_option linter.unusedVariables false
attribute [local go_sem] cell_grow

theorem info_tab : (Try.prog.info? 111).map (·.size) = some 100 := by kernel_rfl
theorem zero_tab (w : World) : (zeroValue 111).run Try.prog w = .ok (.agg (matC fun _ _ => false).toArray) w := by kernel_rfl
theorem sz_tab (M : Nat → Nat → Bool) : (Try.prog.info? 111).map (·.size) = some (matC M).length := by rw [matC_len]; exact info_tab
set_option maxHeartbeats 3200000 in
set_option maxRecDepth 100000 in
theorem above {A : Option Addr} {n c : Nat} {l : List (Int × Int)} (w : World) (h : Sl RP 2 w w.heap.size A n c l) (hin : P.inP l = true) :
    Calls Try.prog 107 #[.slice A n c] w fun e w' => e = .returned (.agg (matC fun x y => P.abv l x y).toArray) ∧ Below w.heap.size w w' := by
  have hzero := zero_tab
  have m1 := Nat.le_trans h.le h.max
  unfold maxLen at m1
  have HL := Lib.hid h.len
  have HIN := Lib.hid hin
  have R0 : Hid (Row ((w.alloc (.cells (matC fun _ _ => false).toArray 111)).alloc (.cells (matC fun _ _ => false).toArray 111)) w.heap.size 111 (matC fun _ _ => false)) := (Row.new w _ _).alloc _
  have R1 : Hid (Row ((w.alloc (.cells (matC fun _ _ => false).toArray 111)).alloc (.cells (matC fun _ _ => false).toArray 111)) (w.heap.size + 1) 111 (matC fun _ _ => false)) := by
    have := Row.new (w.alloc (.cells (matC fun _ _ => false).toArray 111)) 111 (matC fun _ _ => false)
    rw [World.size_alloc] at this
    exact this
  clear hin
  go_enter Try.func107, Try.ntmps107
  go_wp2
  clear hzero
  go_loopw [11] (fun vk wr => ∃ (k : Nat) (M : Nat → Nat → Bool), k ≤ n ∧ vk = .int .i64 k ∧ Row wr w.heap.size 111 (matC fun _ _ => false) ∧ Row wr (w.heap.size + 1) 111 (matC M) ∧ Hid (P.Ent l k M) ∧ Below w.heap.size w wr) (fun vk _ => n - (intOf vk).toNat)
  case atStart => exact ⟨0, _, Nat.zero_le _, rfl, R0.out, R1.out, P.Ent.init l, ((Below.refl _ _).alloc (Nat.le_refl _) _).alloc (by simp) _⟩
  case round =>
    clear R0 R1
    obtain ⟨k, M, hk, rfl, r0, r1, hent, hbw⟩ := hrel
    by_cases hlt : k < n
    · obtain ⟨b, o, ⟨p1, p2⟩, rfl, hb, hx, hf, hg, g0, g1⟩ := pairAt h hlt
      obtain ⟨⟨b1, b2⟩, ⟨b3, b4⟩⟩ := P.inP_mem HIN.out (List.mem_of_getElem? hx)
      simp only at b1 b2 b3 b4 g0 g1
      obtain ⟨i, rfl⟩ := Int.eq_ofNat_of_zero_le b1
      obtain ⟨j, rfl⟩ := Int.eq_ofNat_of_zero_le b3
      have e0 := ((cell_of hbw) b (o + k * 2) hb).trans g0
      have e1 := ((cell_of hbw) b (o + k * 2 + 1) hb).trans g1
      have hi10 : i < 10 := by omega
      have hj10 : j < 10 := by omega
      have c1 := (r1.cell (i * 10 + j)).trans (matC_at M hi10 hj10)
      have f1 := r1.free (i * 10 + j)
      have hlw := r1.lt
      have q1 : (i : Int) < 10 := by omega
      have q2 : (j : Int) < 10 := by omega
      have q3 : (0 : Int) ≤ (i : Int) := by omega
      have q4 : (0 : Int) ≤ (j : Int) := by omega
      have HE := Lib.hid (hent.out.step hx)
      have H0 := Lib.hid (((r0.far (p := ⟨w.heap.size + 1, i * 10 + j, none⟩) (by simp) (.bool true)).alloc (.cells #[.int .i64 i, .int .i64 j] 92)).drew)
      have H1 : Hid (Row ((wr.setCell ⟨w.heap.size + 1, i * 10 + j, none⟩ (.bool true)).alloc (.cells #[.int .i64 i, .int .i64 j] 92)).drew (w.heap.size + 1) 111 (matC (P.upd M i j true))) := by
        refine Lib.hid ?_
        have := ((r1.set (i * 10 + j) (.bool true)).alloc (.cells #[.int .i64 i, .int .i64 j] 92)).drew
        rwa [matC_set M hi10 hj10] at this
      have HB := Lib.hid (((hbw.setCell (p := ⟨w.heap.size + 1, i * 10 + j, none⟩) (by simp) (.bool true)).alloc (by have := hbw.size; simp; omega) (.cells #[.int .i64 i, .int .i64 j] 92)).drew)
      clear hx g0 g1 h r0 r1
      go_wp2_with fail
      refine wp_qt 6 (by kernel_rfl) (by kernel_rfl) ?_; simp only [List.take_succ_cons, List.take_zero, List.drop_succ_cons, List.drop_zero]; (repeat (go_big_quiet_step (fail))); refine wpQuiet_nil ?_
      go_wp2
      refine ⟨⟨k + 1, _, by omega, by go_num, H0.out, H1.out, HE, HB.out⟩, by simp [intOf]; omega⟩
    · have HFW := Lib.hid (hent.out.done HIN.out (by have := HL.out; omega))
      clear hent h
      go_wp2
      go_loopw [22] (fun vk wr => ∃ (k : Nat) (M : Nat → Nat → Bool), k ≤ 10 ∧ vk = .int .i64 k ∧ Row wr w.heap.size 111 (matC fun _ _ => false) ∧ Row wr (w.heap.size + 1) 111 (matC M) ∧ Hid (P.FW l k 0 0 M) ∧ Below w.heap.size w wr) (fun vk _ => 10 - (intOf vk).toNat)
      case atStart => exact ⟨0, M, by omega, rfl, r0, r1, HFW, hbw⟩
      case round =>
        clear r0 r1 hbw HFW
        obtain ⟨k, M, hk, rfl, r0, r1, hfw, hbw⟩ := hrel
        obtain ⟨w1, rfl⟩ : ∃ w1 : World, w1 = wr := ⟨_, rfl⟩
        by_cases hk10 : k < 10
        · go_wp2
          go_loopw [25] (fun vi wr => ∃ (i : Nat) (M : Nat → Nat → Bool), i ≤ 10 ∧ vi = .int .i64 i ∧ Row wr w.heap.size 111 (matC fun _ _ => false) ∧ Row wr (w.heap.size + 1) 111 (matC M) ∧ Hid (P.FW l k i 0 M) ∧ Below w.heap.size w wr) (fun vi _ => 10 - (intOf vi).toNat)
          case atStart => exact ⟨0, M, by omega, rfl, r0, r1, hfw, hbw⟩
          case round =>
            clear r0 r1 hbw hfw
            obtain ⟨i, M, hi, rfl, r0, r1, hfw, hbw⟩ := hrel
            obtain ⟨w2, rfl⟩ : ∃ w2 : World, w2 = wr := ⟨_, rfl⟩
            by_cases hi10 : i < 10
            · go_wp2
              go_loopw [28] (fun vj wr => ∃ (j : Nat) (M : Nat → Nat → Bool), j ≤ 10 ∧ vj = .int .i64 j ∧ Row wr w.heap.size 111 (matC fun _ _ => false) ∧ Row wr (w.heap.size + 1) 111 (matC M) ∧ Hid (P.FW l k i j M) ∧ Below w.heap.size w wr) (fun vj _ => 10 - (intOf vj).toNat)
              case atStart => exact ⟨0, M, by omega, rfl, r0, r1, hfw, hbw⟩
              case round =>
                clear r0 r1 hbw hfw
                obtain ⟨j, M, hj, rfl, r0, r1, hfw, hbw⟩ := hrel
                by_cases hj10 : j < 10
                · have c1 := (r1.cell (i * 10 + j)).trans (matC_at M hi10 hj10)
                  have c2 := (r1.cell (i * 10 + k)).trans (matC_at M hi10 hk10)
                  have c3 := (r1.cell (k * 10 + j)).trans (matC_at M hk10 hj10)
                  have f1 := r1.free (i * 10 + j)
                  have hlw := r1.lt
                  have q1 : (i : Int) < 10 := by omega
                  have q2 : (j : Int) < 10 := by omega
                  have q3 : (k : Int) < 10 := by omega
                  have q4 : (0 : Int) ≤ (i : Int) := by omega
                  have q5 : (0 : Int) ≤ (j : Int) := by omega
                  have q6 : (0 : Int) ≤ (k : Int) := by omega
                  have H0 := fun v => Lib.hid ((r0.far (p := ⟨w.heap.size + 1, i * 10 + j, none⟩) (by simp) (.bool v)).drew)
                  have H1 : ∀ v : Bool, Hid (Row (wr.setCell ⟨w.heap.size + 1, i * 10 + j, none⟩ (.bool v)).drew (w.heap.size + 1) 111 (matC (P.upd M i j v))) := fun v => by
                    refine Lib.hid ?_
                    have := (r1.set (i * 10 + j) (.bool v)).drew
                    rwa [matC_set M hi10 hj10] at this
                  have HB := fun v => Lib.hid ((hbw.setCell (p := ⟨w.heap.size + 1, i * 10 + j, none⟩) (by simp) (.bool v)).drew)
                  have HV := fun v hv => Lib.hid (hfw.out.step hi10 hj10 hk10 (v := v) hv)
                  clear r0 r1
                  cases m1 : M i j with
                  | true =>
                    have HE := HV true (by rw [m1]; rfl)
                    clear HV
                    rw [m1] at c1
                    go_wp2_with fail
                    refine wp_qt 23 (by kernel_rfl) (by kernel_rfl) ?_; simp only [List.take_succ_cons, List.take_zero, List.drop_succ_cons, List.drop_zero]; (repeat (go_big_quiet_step (fail))); refine wpQuiet_nil ?_
                    go_wp2
                    refine ⟨⟨j + 1, _, by omega, by go_num, (H0 _).out, (H1 _).out, HE, (HB _).out⟩, by simp [intOf]; omega⟩
                  | false =>
                    cases m2 : M i k with
                    | false =>
                      have HE := HV false (by rw [m1, m2]; rfl)
                      clear HV
                      rw [m1] at c1
                      rw [m2] at c2
                      go_wp2_with fail
                      refine wp_qt 23 (by kernel_rfl) (by kernel_rfl) ?_; simp only [List.take_succ_cons, List.take_zero, List.drop_succ_cons, List.drop_zero]; (repeat (go_big_quiet_step (fail))); refine wpQuiet_nil ?_
                      go_wp2
                      refine ⟨⟨j + 1, _, by omega, by go_num, (H0 _).out, (H1 _).out, HE, (HB _).out⟩, by simp [intOf]; omega⟩
                    | true =>
                      have HE := HV (M k j) (by rw [m1, m2]; rfl)
                      clear HV
                      rw [m1] at c1
                      rw [m2] at c2
                      go_wp2_with fail
                      refine wp_qt 23 (by kernel_rfl) (by kernel_rfl) ?_; simp only [List.take_succ_cons, List.take_zero, List.drop_succ_cons, List.drop_zero]; (repeat (go_big_quiet_step (fail))); refine wpQuiet_nil ?_
                      go_wp2
                      refine ⟨⟨j + 1, _, by omega, by go_num, (H0 _).out, (H1 _).out, HE, (HB _).out⟩, by simp [intOf]; omega⟩
                · have HE : Hid (P.FW l k (i + 1) 0 M) := by
                    obtain rfl : j = 10 := by omega
                    exact hfw.out.row
                  go_wp2
                  refine ⟨⟨i + 1, M, by omega, by go_num, r0, r1, HE, hbw⟩, by simp [intOf]; omega⟩
            · have HE : Hid (P.FW l (k + 1) 0 0 M) := by
                obtain rfl : i = 10 := by omega
                exact hfw.out.round
              go_wp2
              refine ⟨⟨k + 1, M, by omega, by go_num, r0, r1, HE, hbw⟩, by simp [intOf]; omega⟩
        · have HM : Hid (matC M = matC fun x y => P.abv l x y) := by
            obtain rfl : k = 10 := by omega
            exact matC_ext (hfw.out.last HIN.out)
          go_wp2_with (first | (refine wpList_load_row (by rfl) 111 _ (by rfl) (w.heap.size + 1) (by rfl) 111 _ (0, 0) _ r1.is Try.underlying111 (by rfl) (by simpa using sz_tab M) ?_) | (refine store_row (by rfl) 111 _ _ (by rfl) w.heap.size (matC M) _ 111 (by rfl) (by rfl) r0 (sz_tab M) (by rw [matC_len, matC_len]) (matC_one M) ?_; intro w9 r9 hg9))
          have hb9 := hbw.grown hg9 hbw.size (fun k hk => by injection hk with hk; omega)
          refine bodyPost_ret (v := .agg (matC M).toArray) (results_cell_row Try.results107 _ _ w.heap.size 111 (matC M).toArray (0, 0) _ (by rfl) r9.is Try.underlying111 (by rfl) (by simpa using sz_tab M)) rfl ⟨by rw [HM.out], hb9⟩
theorem okP_eq {l : List (Int × Int)} (h1 : P.inP l = true) (h3 : ∀ v : Nat, v < 10 → P.abv l v v = false) {n : Nat} (hn : l.length = n) : P.okP l = decide ((n : Int) ≤ 8) := by
  subst hn
  by_cases h : l.length ≤ 8
  · rw [P.okP_mk h1 h h3]; simp; omega
  · rw [P.okP_bad2 (by omega)]; simp; omega
set_option maxHeartbeats 1600000 in
set_option maxRecDepth 100000 in
theorem implArePairs {A : Option Addr} {n c : Nat} {l : List (Int × Int)} (w : World) (h : Sl RP 2 w w.heap.size A n c l) : Calls Try.prog 89 #[.slice A n c] w fun e w' => e = .returned (.bool (P.okP l)) ∧ Below w.heap.size w w' := by
  have hzero := zero_tab
  have m1 := Nat.le_trans h.le h.max
  unfold maxLen at m1
  have HL := Lib.hid h.len
  go_enter Try.func89, Try.ntmps89
  go_wp2
  go_loopw [4, 9] (fun va vk wr => ∃ k : Nat, k ≤ n ∧ vk = .int .i64 k ∧ Hid (∀ i p, i < k → l[i]? = some p → (P.inR p.1 0 9 && P.inR p.2 0 9) = true) ∧ Below w.heap.size w wr) (fun _ vk _ => n - (intOf vk).toNat)
  case atStart => exact ⟨0, Nat.zero_le _, rfl, fun i y hi => absurd hi (by omega), Below.refl _ _⟩
  case round =>
    obtain ⟨k, hk, rfl, hup, hbw⟩ := hrel
    by_cases hlt : k < n
    · obtain ⟨b, o, p, rfl, hb, hx, hf, hg, g0, g1⟩ := pairAt h hlt
      have e0 := ((cell_of hbw) b (o + k * 2) hb).trans g0
      have e1 := ((cell_of hbw) b (o + k * 2 + 1) hb).trans g1
      have HX := Lib.hid hx
      have HB := Lib.hid (hbw.alloc hbw.size (.cells #[.int .i64 p.1, .int .i64 p.2] 92))
      clear hx h g0 g1
      cases h1 : P.inR p.1 0 9 with
      | false =>
        have HE : Hid (P.okP l = false) := P.okP_bad1 (P.inP_no HX.out (.inl h1))
        go_wp2_with (go_at_call 42; refine (within _ _ _ _).mono ?_; rintro e w' ⟨rfl, rfl⟩)
        go_ret
        exact ⟨ret_bool HE.out.symm, HB.out⟩
      | true =>
        cases h2 : P.inR p.2 0 9 with
        | false =>
          have HE : Hid (P.okP l = false) := P.okP_bad1 (P.inP_no HX.out (.inr h2))
          go_wp2_with (go_at_call 42; refine (within _ _ _ _).mono ?_; rintro e w' ⟨rfl, rfl⟩)
          go_ret
          exact ⟨ret_bool HE.out.symm, HB.out⟩
        | true =>
          have HU := Lib.hid (P.before_step (Q := fun p : Int × Int => (P.inR p.1 0 9 && P.inR p.2 0 9) = true) hup.out HX.out (by rw [h1, h2]; rfl))
          go_wp2_with (go_at_call 42; refine (within _ _ _ _).mono ?_; rintro e w' ⟨rfl, rfl⟩)
          go_roundw
          case rel => exact ⟨k + 1, by omega, by go_num, HU, HB.out⟩
          case measure => simp [intOf]; omega
    · have HIN : Hid (P.inP l = true) := P.inP_all (fun i p hi hp => hup.out i p (by have := HL.out; omega) hp)
      have H1 := Lib.hid (h.on RP.keeps hbw)
      clear h hup
      go_wp2_with fail
      refine (above _ H1.out HIN.out).mono ?_
      rintro e w2 ⟨rfl, hb2⟩
      have r0 := Row.new w2 111 (matC fun _ _ => false)
      have hgz : w.heap.size ≤ w2.heap.size := by have := hb2.size; have := hbw.size; omega
      have HB0 := (hbw.trans (hb2.mono hbw.size)).alloc hgz (.cells (matC fun _ _ => false).toArray 111)
      clear H1 hb2 hbw
      go_wp2_with (refine store_row (by rfl) 111 _ _ (by rfl) w2.heap.size (matC fun x y => P.abv l x y) _ 111 (by rfl) (by rfl) r0 (sz_tab _) (by rw [matC_len, matC_len]) (matC_one _) ?_; intro w9 r9 hg9)
      have hb9 := HB0.grown hg9 HB0.size (fun k hk => by injection hk with hk; omega)
      clear HB0 hg9 r0 hzero
      go_wp2
      go_loop [6, 26] (fun _ vk => ∃ v : Nat, v ≤ 10 ∧ vk = .int .i64 v ∧ Hid (∀ i : Nat, i < v → P.abv l i i = false)) (fun _ vk => 10 - (intOf vk).toNat)
      case atStart => exact ⟨0, by omega, rfl, fun i hi => absurd hi (by omega)⟩
      case round =>
        obtain ⟨v, hv, rfl, hno⟩ := hrel
        by_cases hv10 : v < 10
        · have c1 := (r9.cell (v * 10 + v)).trans (matC_at _ hv10 hv10)
          have q1 : (v : Int) < 10 := by omega
          have q2 : (0 : Int) ≤ (v : Int) := by omega
          cases hav : P.abv l v v with
          | true =>
            have HE : Hid (P.okP l = false) := P.okP_bad3 hv10 hav
            rw [hav] at c1
            go_wp2
            go_ret
            exact ⟨ret_bool HE.out.symm, hb9⟩
          | false =>
            have HE : Hid (∀ i : Nat, i < v + 1 → P.abv l i i = false) := fun i hi => by
              rcases Nat.lt_or_ge i v with h | h
              · exact hno.out i h
              · obtain rfl : i = v := by omega
                exact hav
            rw [hav] at c1
            go_wp2
            go_round
            case rel => exact ⟨v + 1, by omega, by go_num, HE⟩
            case measure => simp [intOf]; omega
        · have HE : Hid (P.okP l = decide ((n : Int) ≤ 8)) := okP_eq HIN.out (fun i hi => hno.out i (by omega)) HL.out
          go_wp2
          go_ret
          exact ⟨ret_bool HE.out.symm, hb9⟩
end Go.Proofs.Ytgjghpaenliliaa.Wk
