/-
  Walks of chapter 3: pairs read back from their text.
  Conditions: none beyond the bounds that each states.
-/
import Derived.Test.YtjfbacdjockpjaaW73
namespace Go.Proofs.Ytjfbacdjockpjaa.Wk
open Go.RowKit Go.Proofs.Ytjfbacdjockpjaa.M
set_option linter.unusedVariables false
set_option linter.unusedSimpArgs false
attribute [local go_sem] cell_grow

theorem info_p74 : (Try.prog.info? 43).map (fun i => (i.zero, i.size, i.bytes)) = some (some (.agg #[.int .i64 0, .int .i64 0]), 2, 16) := by kernel_rfl
theorem below_dr74 {W w8 : World} (h : Below W.drew.heap.size W.drew w8) : Below W.heap.size W w8 := (Below.refl W.heap.size W).drew.trans h
set_option maxHeartbeats 3200000 in
set_option maxRecDepth 100000 in
theorem specParsePairs (w : World) {s : ByteArray} (hs : s.size ≤ 1048576) : Calls Try.prog 30 #[.string s] w (RetPB w (parP s) (parPB s)) := by
  obtain ⟨i0, hi, hz0, hz1, hz2⟩ := info_parts info_p74
  have HX := Lib.hid (P.cut_size s ⟨#[44]⟩)
  have HCL := Lib.hid (P.cut_len s ⟨#[44]⟩)
  have B1 := (Below.refl w.heap.size w).alloc (Nat.le_refl _) (.cells #[] 43)
  have O1 := own_emptyS w 43 2
  by_cases hnone : s = ⟨#[110, 111, 110, 101]⟩
  · have HP : Hid (parP s = [] ∧ parPB s = true) := by show _ ∧ _; rw [hnone]; exact parP_none
    have q0 : (s.toList == [110, 111, 110, 101]) = true := by rw [show ([110, 111, 110, 101] : List UInt8) = (⟨#[110, 111, 110, 101]⟩ : ByteArray).toList by rw [ByteArray.toList_eq]]; exact ba_yes hnone
    clear hnone
    go_enter Try.func30, Try.ntmps30
    go_wp2
    go_ret2
    refine ⟨.slice (some ⟨w.heap.size, 0, none⟩) 0 0, ret_pb HP.out.2.symm, ?_, B1⟩
    rw [HP.out.1]
    exact ⟨O1, own_und O1⟩
  · have HNO := Lib.hid hnone
    have q0 : (s.toList == [110, 111, 110, 101]) = false := by rw [show ([110, 111, 110, 101] : List UInt8) = (⟨#[110, 111, 110, 101]⟩ : ByteArray).toList by rw [ByteArray.toList_eq]]; exact ba_no hnone
    clear hnone
    have HEND := Lib.hid (parP_end (f := l2N) reads_l2N (s := s) HNO.out)
    go_enter Try.func30, Try.ntmps30
    go_wp2_with fail
    refine (l2Cut _ (b := 44) hs).mono ?_
    rintro e w2 ⟨vp, rfl, hP, b2⟩
    have hsz2 := b2.size
    simp at hsz2
    have B2 := B1.trans (b2.mono B1.size)
    have O2 := own_below O1 b2
    have hP1 := Lib.hid hP.1
    have hP2 := Lib.hid hP.2
    simp only [World.size_alloc] at hP1
    obtain ⟨A, c, rfl, _, _⟩ := own_form hP.1
    obtain ⟨n, hn⟩ : ∃ n, (P.cut s ⟨#[44]⟩).length = n := ⟨_, rfl⟩
    have HL := Lib.hid hn
    have hn1 : n ≤ 1048577 := by have := HL.out; have := HCL.out; omega
    have HRL : Hid ((rdPs l2N s).length = n) := by show _ = _; rw [rdPs_len]; exact HL.out
    have HRF := Lib.hid (rdPs_fit (f := l2N) l2N_fit s)
    obtain ⟨rs, hrs⟩ : ∃ rs, Hid (rdPs l2N s = rs) := ⟨_, rfl⟩
    rw [hrs.out] at HEND HRL HRF
    clear hP b2 O1 B1
    rw [hn]
    rw [hn] at hP1 hP2
    have hst : ∀ q, (Value.slice (some ⟨w.heap.size, 0, none⟩) 0 0).ownBlock = some q → q = w.heap.size ∨ w2.heap.size ≤ q := fun q hq => .inl (by simp [Value.ownBlock] at hq; omega)
    have HST := Lib.hid hst
    clear hst
    go_wp2
    go_loopw [4, 6, 7] (fun vo vi v7 wr => ∃ k : Nat, k ≤ n ∧ vi = .int .i64 k ∧ wr.ownsRow w.heap.size 43 2 vo k (prc (rs.take k)) ∧ Hid (∀ t ∈ (P.cut s ⟨#[44]⟩).take k, (P.cut t ⟨#[62]⟩).length = 2) ∧ Hid (wr.ownsRow (w.heap.size + 1) 9 1 (.slice A n c) n ((P.cut s ⟨#[44]⟩).map Value.string)) ∧ Hid (∀ q, vo.ownBlock = some q → q = w.heap.size ∨ w2.heap.size ≤ q) ∧ w2.heap.size ≤ wr.heap.size ∧ Below w.heap.size w wr) (fun _ vi _ _ => n - (intOf vi).toNat)
    case atStart => exact ⟨0, Nat.zero_le _, rfl, O2, fun t ht => absurd ht (by simp), hP1, HST, Nat.le_refl _, B2⟩
    case round =>
      clear hP1 HST O2 B2
      obtain ⟨k, hk, rfl, hown, htw, hpr, hq, hw2, hbw⟩ := hrel
      by_cases hlt : k < n
      · obtain ⟨A', n', c', e', hS⟩ := own_strs (xs := P.cut s ⟨#[44]⟩) (by rw [HL.out]; exact hpr.out) (fun x hx => by have := HX.out x hx; unfold maxLen; omega)
        injection e' with e1 e2 e3
        subst e1 e2 e3
        obtain ⟨b, o, x, rfl, hb, hx, hf, hc⟩ := hS.str hlt
        have hnc := hS.le
        have p1 : (k : Int) < (n : Int) := by omega
        have p2 : (n : Int) ≤ (c : Int) := by omega
        have HXM := Lib.hid (List.mem_of_getElem? hx)
        obtain ⟨Ao, co, hvo, _, _⟩ := own_form hown
        subst hvo
        have HXK := Lib.hid hx
        have hxs : x.size ≤ 1048576 := Nat.le_trans (HX.out x HXM.out) hs
        have hsz := hbw.size
        clear hx hS hf
        go_wp2_with fail
        refine (l2Cut _ (b := 62) hxs).mono ?_
        rintro e w3 ⟨vs, rfl, hV, b3⟩
        have hown3 := own_below hown b3
        have hpr3 := own_below hpr.out b3
        have hbw3 := hbw.trans (b3.mono hsz)
        have hsz3 := hbw3.size
        have hw3 := Nat.le_trans hw2 b3.size
        have HV := Lib.hid hV
        obtain ⟨As, cs, hvs, _, _⟩ := own_form hV.1
        subst hvs
        by_cases h2 : (P.cut x ⟨#[62]⟩).length = 2
        · obtain ⟨y, z, hyz⟩ : ∃ y z, P.cut x ⟨#[62]⟩ = [y, z] := by
            match hc : P.cut x ⟨#[62]⟩, h2 with
            | [y, z], _ => exact ⟨y, z, rfl⟩
          have HY := Lib.hid (P.cut_size x ⟨#[62]⟩)
          have hys : y.size ≤ maxLen := by have := HY.out y (by rw [hyz]; simp); unfold maxLen; omega
          have hzs : z.size ≤ maxLen := by have := HY.out z (by rw [hyz]; simp); unfold maxLen; omega
          have HSP : Hid (sideP l2N x = (l2N y, l2N z)) := by show _ = _; unfold sideP; rw [hyz]; rfl
          have HRK : Hid (rs[k]? = some (sideP l2N x)) := by show _ = _; rw [← hrs.out]; exact rdPs_at HXK.out
          obtain ⟨A', n', c', e', hT⟩ := own_strs HV.out.1 (fun u hu => by have := HY.out u hu; unfold maxLen; omega)
          injection e' with e1 e2 e3
          subst e1 e3
          rw [h2] at e2
          subst e2
          obtain ⟨sb, so, y', rfl, hsb, hy, _, hcy⟩ := hT.str (k := 0) (by omega)
          obtain ⟨sb1, so1, z', hbe, _, hz, _, hcz⟩ := hT.str (k := 1) (by omega)
          injection hbe with hbe
          injection hbe with hbe1 hbe2 _
          subst hbe1 hbe2
          rw [hyz] at hy hz
          simp at hy hz
          subst hy hz
          rw [Nat.add_zero] at hcy
          have hsc := hT.le
          have p3 : (2 : Int) ≤ (cs : Int) := by omega
          rw [h2]
          have q3 : ((2 : Nat) : Int) = 2 := rfl
          have htw2 : Hid (∀ t ∈ (P.cut s ⟨#[44]⟩).take (k + 1), (P.cut t ⟨#[62]⟩).length = 2) := by
            intro t ht
            obtain ⟨hl9, e9⟩ := List.getElem?_eq_some_iff.1 HXK.out
            rw [List.take_succ_eq_append_getElem hl9, e9] at ht
            rcases List.mem_append.1 ht with ht | ht
            · exact htw.out t ht
            · simp at ht; rw [ht]; exact h2
          clear h2 hyz hT hV b3 hown hbw hc
          have HY1 := Lib.hid hys
          have HZ1 := Lib.hid hzs
          go_wp2_with fail
          refine wp_region_mt 8 _ (by kernel_rfl) rfl rfl (fun _ _ _ _ h => h) (by kernel_rfl) ?_; simp only [List.take_succ_cons, List.take_zero, List.drop_succ_cons, List.drop_zero, Act.put, Act.eval, List.setIfInBounds_toArray, List.set_cons_zero, List.set_cons_succ, Array.getD_eq_getD_getElem?, List.getElem?_toArray, List.getElem?_cons_succ, List.getElem?_cons_zero, Option.getD_some]; (repeat (go_big_quiet_step ((go_at_call 46; first | exact quietB (l2Num _ HY1.out) | exact quietB (l2Num _ HZ1.out))))); refine wpQuiet_nil ?_; intro w8 hb8
          have hown5 := own_below hown3 hb8
          have hpr5 := own_below hpr3 hb8
          have hbw5 := hbw3.trans (hb8.mono hsz3)
          have hz8 := hb8.size
          clear hb8 hown3 hpr3 hbw3 hcy hcz
          go_wp2_with (at_builtin; refine wpList_append_own_at _ rfl _ _ 25 rfl w.heap.size 43 i0 (.agg #[.int .i64 0, .int .i64 0]) 2 16 Try.underlying25 hi hz0 hz1 hz2 rfl (by decide) _ _ _ rfl (hown5.alloc _) ⟨w8.heap.size, 0, none⟩ 1 1 [_, _] rfl rfl (cell_two_new _ _ _ _) (by simp [Value.oneCell']) (by unfold maxLen; omega) (by omega) (by simp; omega) ?_)
          intro v' w6 hown6 hgrow _ hat
          have hbw6 := Lib.hid (app_below hbw5 hown5 hgrow)
          have hpr6 := Lib.hid (own_grown (hpr5.alloc _) hgrow (fun g hg hh => by
            have h1 := hP2.out g hg
            have h2 := (hpr5.lt g hg).1
            have h3 := hq.out g hh.symm
            omega))
          have hw6 : w2.heap.size ≤ w6.heap.size := by have := hgrow.size; simp at this; omega
          have hq6 : Hid (∀ q, v'.ownBlock = some q → q = w.heap.size ∨ w2.heap.size ≤ q) := by
            intro q hv
            rcases hat with hat | hat
            · exact hq.out q (hat.symm.trans hv)
            · rw [hat] at hv
              injection hv with hv
              refine .inr ?_
              first | omega | (simp at hv; omega)
          have hown7 : Hid (w6.ownsRow w.heap.size 43 2 v' (k + 1) (prc (rs.take (k + 1)))) := by
            show World.ownsRow _ _ _ _ _ _ _
            rw [← prc_snoc2 HRK.out, HSP.out]
            exact hown6
          clear hown6 hgrow hown5 hbw5 hat hpr5
          go_wp2
          go_roundw
          case rel => exact ⟨k + 1, by omega, by go_num, hown7.out, htw2, hpr6, hq6, hw6, hbw6.out⟩
          case measure => simp [intOf]; omega
        · have HP := Lib.hid (parP_bad HNO.out HXM.out h2)
          obtain ⟨m, hm⟩ : ∃ m, (P.cut x ⟨#[62]⟩).length = m := ⟨_, rfl⟩
          rw [hm] at h2 ⊢
          have q3 : ((m : Int) != 2) = true := by simp; omega
          have BZ := hbw3.alloc hsz3 (.cells #[] 43)
          have OZ := Lib.hid (ownPs_nil (w2 := w3) (lo := w.heap.size) hsz3)
          clear hm h2 hV HV hc b3 hown hbw hown3 hpr3
          go_wp2
          go_ret2
          refine ⟨_, ret_pb HP.out.2.symm, ?_, BZ⟩
          rw [HP.out.1]
          exact OZ.out
      · have hkn : k = n := by omega
        subst hkn
        rw [List.take_of_length_le (by have := HRL.out; omega)] at hown
        obtain ⟨A', c', hv, _, _⟩ := own_form hown
        subst hv
        have hsz := hbw.size
        have hS : Sl RP 2 wr wr.heap.size A' k c' rs := by
          obtain ⟨A'', n'', c'', e'', hS⟩ := own_pairs (by rw [HRL.out]; exact hown) HRF.out
          injection e'' with e1 e2 e3
          subst e1 e2 e3
          exact hS
        have hl : rs.length = k := HRL.out
        have HO := Lib.hid hown
        have HB := Lib.hid hbw
        have HL2 := Lib.hid hl
        clear hown hbw hl
        have HTW : Hid (allTwo s) := fun t ht => htw.out t (by rw [List.take_of_length_le (by have := HL.out; omega)]; exact ht)
        have HN2 : Hid (pairsS rs ≠ s → parP s = [] ∧ parPB s = false) := fun h => HEND.out.2 (.inr h)
        have HY2 : Hid (pairsS rs = s → parP s = rs ∧ parPB s = true) := by
          intro e
          by_cases h0 : s = ⟨#[]⟩
          · exfalso
            have h1 := HTW.out
            subst h0
            have := h1 ⟨#[]⟩ (by rw [cut_nil (by decide)]; simp)
            rw [cut_nil (by decide)] at this
            simp at this
          · exact HEND.out.1 h0 e
        clear HEND
        go_wp2_with fail
        refine (specFormatPairs _ hS).mono ?_
        rintro e w7 ⟨rfl, b7⟩
        have O7 := own_below HO.out b7
        have B7 := HB.out.trans (b7.mono hsz)
        have z7 := B7.size
        by_cases e : pairsS rs = s
        · have HP := Lib.hid (HY2.out e)
          have q5 := ba_yes e
          clear e
          go_wp2
          go_ret2
          refine ⟨.slice A' k c', ret_pb HP.out.2.symm, ?_, B7⟩
          rw [HP.out.1]
          refine ⟨?_, own_und O7⟩
          rw [HL2.out]; exact O7
        · have HP := Lib.hid (HN2.out e)
          have q5 := ba_no e
          have BZ := B7.alloc z7 (.cells #[] 43)
          have OZ := Lib.hid (ownPs_nil (w2 := w7) (lo := w.heap.size) z7)
          clear e
          go_wp2
          go_ret2
          refine ⟨_, ret_pb HP.out.2.symm, ?_, BZ⟩
          rw [HP.out.1]
          exact OZ.out
set_option maxHeartbeats 3200000 in
set_option maxRecDepth 100000 in
theorem implParsePairs (w : World) {s : ByteArray} (hs : s.size ≤ 1048576) : Calls Try.prog 31 #[.string s] w (RetPB w (parP s) (parPB s)) := by
  obtain ⟨i0, hi, hz0, hz1, hz2⟩ := info_parts info_p74
  have HX := Lib.hid (P.cut_size s ⟨#[44]⟩)
  have HCL := Lib.hid (P.cut_len s ⟨#[44]⟩)
  have B1 := (Below.refl w.heap.size w).alloc (Nat.le_refl _) (.cells #[] 43)
  have O1 := own_emptyS w 43 2
  by_cases hnone : s = ⟨#[110, 111, 110, 101]⟩
  · have HP : Hid (parP s = [] ∧ parPB s = true) := by show _ ∧ _; rw [hnone]; exact parP_none
    have q0 : (s.toList == [110, 111, 110, 101]) = true := by rw [show ([110, 111, 110, 101] : List UInt8) = (⟨#[110, 111, 110, 101]⟩ : ByteArray).toList by rw [ByteArray.toList_eq]]; exact ba_yes hnone
    have hne : ¬ s = ⟨#[]⟩ := by rw [hnone]; intro e; injection e with e; simp at e
    have q1 : ¬ s.toList = [] := fun e => hne (by rw [ByteArray.toList_eq] at e; exact P.ba_ext e)
    have q2 : s.toList.isEmpty = false := by rw [List.isEmpty_eq_false_iff]; exact q1
    have HS : Hid (pairsS [] = s) := by show _ = _; rw [hnone]; exact pairsS_none okP_nil
    have hS : Sl RP 2 (w.alloc (.cells #[] 43)) (w.alloc (.cells #[] 43)).heap.size (some ⟨w.heap.size, 0, none⟩) 0 0 [] := ⟨rfl, Nat.le_refl _, Nat.zero_le _, fun h => absurd h (Nat.lt_irrefl 0)⟩
    have tt : (s.toList == s.toList) = true := by simp
    clear hnone hne
    go_enter Try.func31, Try.ntmps31
    go_wp2_with fail
    refine (implFormatPairs _ hS).mono ?_
    rintro e w2 ⟨rfl, b2⟩
    rw [HS.out]
    have O2 := own_below O1 b2
    have B2 := B1.trans (b2.mono B1.size)
    go_wp2
    go_ret2
    refine ⟨.slice (some ⟨w.heap.size, 0, none⟩) 0 0, ret_pb HP.out.2.symm, ?_, B2⟩
    rw [HP.out.1]
    exact ⟨O2, own_und O2⟩
  · have HNO := Lib.hid hnone
    have q0 : (s.toList == [110, 111, 110, 101]) = false := by rw [show ([110, 111, 110, 101] : List UInt8) = (⟨#[110, 111, 110, 101]⟩ : ByteArray).toList by rw [ByteArray.toList_eq]]; exact ba_no hnone
    clear hnone
    have HEND := Lib.hid (parP_end (f := (fun t => piN t.data.toList)) reads_piN (s := s) HNO.out)
    go_enter Try.func31, Try.ntmps31
    go_wp2_with fail
    refine (cut _ hs (by decide) (by decide)).mono ?_
    rintro e w2 ⟨vp, rfl, hP, b2⟩
    have hsz2 := b2.size
    simp at hsz2
    have B2 := B1.trans (b2.mono B1.size)
    have O2 := own_below O1 b2
    have hP1 := Lib.hid hP.1
    have hP2 := Lib.hid hP.2
    simp only [World.size_alloc] at hP1
    obtain ⟨A, c, rfl, _, _⟩ := own_form hP.1
    obtain ⟨n, hn⟩ : ∃ n, (P.cut s ⟨#[44]⟩).length = n := ⟨_, rfl⟩
    have HL := Lib.hid hn
    have hn1 : n ≤ 1048577 := by have := HL.out; have := HCL.out; omega
    have HRL : Hid ((rdPs (fun t => piN t.data.toList) s).length = n) := by show _ = _; rw [rdPs_len]; exact HL.out
    have HRF := Lib.hid (rdPs_fit (f := (fun t => piN t.data.toList)) (fun t => piN_fit _) s)
    obtain ⟨rs, hrs⟩ : ∃ rs, Hid (rdPs (fun t => piN t.data.toList) s = rs) := ⟨_, rfl⟩
    rw [hrs.out] at HEND HRL HRF
    clear hP b2 O1 B1
    rw [hn]
    rw [hn] at hP1 hP2
    have hst : ∀ q, (Value.slice (some ⟨w.heap.size, 0, none⟩) 0 0).ownBlock = some q → q = w.heap.size ∨ w2.heap.size ≤ q := fun q hq => .inl (by simp [Value.ownBlock] at hq; omega)
    have HST := Lib.hid hst
    clear hst
    go_wp2
    go_loopw [4, 6, 7, 8, 15] (fun vo v6 v7 v8 vi wr => ∃ k : Nat, k ≤ n ∧ vi = .int .i64 k ∧ wr.ownsRow w.heap.size 43 2 vo k (prc (rs.take k)) ∧ Hid (wr.ownsRow (w.heap.size + 1) 9 1 (.slice A n c) n ((P.cut s ⟨#[44]⟩).map Value.string)) ∧ Hid (∀ q, vo.ownBlock = some q → q = w.heap.size ∨ w2.heap.size ≤ q) ∧ w2.heap.size ≤ wr.heap.size ∧ Below w.heap.size w wr) (fun _ _ _ _ vi _ => n - (intOf vi).toNat)
    case atStart => exact ⟨0, Nat.zero_le _, rfl, O2, hP1, HST, Nat.le_refl _, B2⟩
    case round =>
      clear hP1 HST O2 B2
      obtain ⟨k, hk, rfl, hown, hpr, hq, hw2, hbw⟩ := hrel
      by_cases hlt : k < n
      · obtain ⟨A', n', c', e', hS⟩ := own_strs (xs := P.cut s ⟨#[44]⟩) (by rw [HL.out]; exact hpr.out) (fun x hx => by have := HX.out x hx; unfold maxLen; omega)
        injection e' with e1 e2 e3
        subst e1 e2 e3
        obtain ⟨b, o, x, rfl, hb, hx, hf, hc⟩ := hS.str hlt
        have hnc := hS.le
        have p1 : (k : Int) < (n : Int) := by omega
        have p2 : (n : Int) ≤ (c : Int) := by omega
        have HXM := Lib.hid (List.mem_of_getElem? hx)
        obtain ⟨Ao, co, hvo, _, _⟩ := own_form hown
        subst hvo
        have HXK := Lib.hid hx
        have hxs : x.size ≤ 1048576 := Nat.le_trans (HX.out x HXM.out) hs
        have hsz := hbw.size
        clear hx hS hf
        go_wp2_with fail
        refine (cut _ hxs (by decide) (by decide)).mono ?_
        rintro e w3 ⟨vs, rfl, hV, b3⟩
        have hown3 := own_below hown b3
        have hpr3 := own_below hpr.out b3
        have hbw3 := hbw.trans (b3.mono hsz)
        have hsz3 := hbw3.size
        have hw3 := Nat.le_trans hw2 b3.size
        have HV := Lib.hid hV
        obtain ⟨As, cs, hvs, _, _⟩ := own_form hV.1
        subst hvs
        by_cases h2 : (P.cut x ⟨#[62]⟩).length = 2
        · obtain ⟨y, z, hyz⟩ : ∃ y z, P.cut x ⟨#[62]⟩ = [y, z] := by
            match hc : P.cut x ⟨#[62]⟩, h2 with
            | [y, z], _ => exact ⟨y, z, rfl⟩
          have HY := Lib.hid (P.cut_size x ⟨#[62]⟩)
          have hys : y.size ≤ maxLen := by have := HY.out y (by rw [hyz]; simp); unfold maxLen; omega
          have hzs : z.size ≤ maxLen := by have := HY.out z (by rw [hyz]; simp); unfold maxLen; omega
          have HSP : Hid (sideP (fun t => piN t.data.toList) x = ((fun t => piN t.data.toList) y, (fun t => piN t.data.toList) z)) := by show _ = _; unfold sideP; rw [hyz]; rfl
          have HRK : Hid (rs[k]? = some (sideP (fun t => piN t.data.toList) x)) := by show _ = _; rw [← hrs.out]; exact rdPs_at HXK.out
          obtain ⟨A', n', c', e', hT⟩ := own_strs HV.out.1 (fun u hu => by have := HY.out u hu; unfold maxLen; omega)
          injection e' with e1 e2 e3
          subst e1 e3
          rw [h2] at e2
          subst e2
          obtain ⟨sb, so, y', rfl, hsb, hy, _, hcy⟩ := hT.str (k := 0) (by omega)
          obtain ⟨sb1, so1, z', hbe, _, hz, _, hcz⟩ := hT.str (k := 1) (by omega)
          injection hbe with hbe
          injection hbe with hbe1 hbe2 _
          subst hbe1 hbe2
          rw [hyz] at hy hz
          simp at hy hz
          subst hy hz
          rw [Nat.add_zero] at hcy
          have hsc := hT.le
          have p3 : (2 : Int) ≤ (cs : Int) := by omega
          rw [h2]
          have q3 : ((2 : Nat) : Int) = 2 := rfl
          clear h2 hyz hT hV b3 hown hbw hc
          have NB0 : Hid (¬ (Value.slice Ao k co).ownBlock = some w3.heap.size) := fun hg => by have := (hown3.lt _ hg).2; omega
          have NB1 : Hid (¬ (Value.slice (some ⟨b, o, none⟩) n c).ownBlock = some w3.heap.size) := fun hg => by have := (hpr3.lt _ hg).2; omega
          have HNK : Hid (k < n) := hlt
          have BX := (Below.refl w3.heap.size w3).alloc (Nat.le_refl _) (.cells #[.int .i64 0, .int .i64 0] 43)
          go_wp2_with fail
          refine (implParseInt y hys _).mono ?_
          rintro e w4 ⟨rfl, b4⟩
          obtain ⟨py, hpy⟩ : ∃ py, piN y.data.toList = py := ⟨_, rfl⟩
          have b4' := BX.trans (b4.mono (by simp))
          have hz4 := b4.size
          simp at hz4
          have R4 := (Row.new w3 43 [.int .i64 0, .int .i64 0]).below b4 (by simp)
          have f0 := R4.free 0
          have g0 : w4.cell? ⟨w3.heap.size, 0, none⟩ = some (.int .i64 0) := R4.cell 0
          have l4 := R4.lt
          have C4 : Chg (fun q => q = w3.heap.size) w4 (w4.setCell ⟨w3.heap.size, 0, none⟩ (.int .i64 py)) := (Chg.refl (fun q => q = w3.heap.size) w4).setCell (p := ⟨w3.heap.size, 0, none⟩) rfl _
          have hown4 := own_chg (own_below hown3 b4') C4 (fun g hg hh => by subst hh; have := (hown3.lt _ hg).2; omega)
          have hpr4 := own_chg (own_below hpr3 b4') C4 (fun g hg hh => by subst hh; have := (hpr3.lt _ hg).2; omega)
          have hbw4 := (hbw3.trans (b4'.mono hsz3)).setCell (p := ⟨w3.heap.size, 0, none⟩) hsz3 (.int .i64 py)
          have cy4 := ((cell_of b4') sb so hsb).trans hcy
          have cz4 := ((cell_of b4') sb (so + 1) hsb).trans hcz
          have cz5 : (w4.setCell ⟨w3.heap.size, 0, none⟩ (.int .i64 py)).cell? ⟨sb, so + 1, none⟩ = some (.string z) := by rw [World.cell?_setCell_far _ _ _ _ (by show w3.heap.size ≠ sb; omega)]; exact cz4
          have R5 : Row (w4.setCell ⟨w3.heap.size, 0, none⟩ (.int .i64 py)) w3.heap.size 43 [.int .i64 py, .int .i64 0] := R4.set 0 _
          rw [hpy] at HSP ⊢
          clear hcy hcz b4 b4' BX R4 hown3 hpr3 hbw3 cy4 hpy
          have z4 : (w4.setCell ⟨w3.heap.size, 0, none⟩ (.int .i64 py)).heap.size = w4.heap.size := by simp
          have H0 := Lib.hid hown4
          have H1 := Lib.hid hpr4
          have H2 := Lib.hid hbw4
          have H3 := Lib.hid R5
          clear hown4 hpr4 hbw4 R5 C4
          have hsb4 : sb < w4.heap.size := by omega
          go_wp2_with fail
          refine (implParseInt z hzs _).mono ?_
          rintro e w5 ⟨rfl, b5⟩
          obtain ⟨pz, hpz⟩ : ∃ pz, piN z.data.toList = pz := ⟨_, rfl⟩
          have hz5 := b5.size
          simp at hz5
          have R5 := H3.out.below b5 (by simp; omega)
          have f1 := R5.free 1
          have g1 : w5.cell? ⟨w3.heap.size, 1, none⟩ = some (.int .i64 0) := R5.cell 1
          have g2 : w5.cell? ⟨w3.heap.size, 0, none⟩ = some (.int .i64 py) := R5.cell 0
          have l5 := R5.lt
          have C5 : Chg (fun q => q = w3.heap.size) w5 (w5.setCell ⟨w3.heap.size, 1, none⟩ (.int .i64 pz)) := (Chg.refl (fun q => q = w3.heap.size) w5).setCell (p := ⟨w3.heap.size, 1, none⟩) rfl _
          have hb5 := own_below H0.out b5
          have hp5 := own_below H1.out b5
          have hown5 := own_chg hb5 C5 (fun g hg hh => by subst hh; exact NB0.out hg)
          have hpr5 := own_chg hp5 C5 (fun g hg hh => by subst hh; exact NB1.out hg)
          have hbw5 := (H2.out.trans (b5.mono (by simp; omega))).setCell (p := ⟨w3.heap.size, 1, none⟩) (by show w.heap.size ≤ w3.heap.size; omega) (.int .i64 pz)
          have R6 : Row (w5.setCell ⟨w3.heap.size, 1, none⟩ (.int .i64 pz)) w3.heap.size 43 [.int .i64 py, .int .i64 pz] := R5.set 1 _
          have h0 : (w5.setCell ⟨w3.heap.size, 1, none⟩ (.int .i64 pz)).cell? ⟨w3.heap.size, 0, none⟩ = some (.int .i64 py) := R6.cell 0
          have h1 : (w5.setCell ⟨w3.heap.size, 1, none⟩ (.int .i64 pz)).cell? ⟨w3.heap.size, 1, none⟩ = some (.int .i64 pz) := R6.cell 1
          have l6 := R6.lt
          rw [hpz] at HSP ⊢
          have hp1 := HNK.out
          clear b5 H0 H1 H2 H3 hb5 hp5 C5 R5 hpz cz4 cz5 R6
          have z6 : (w5.setCell ⟨w3.heap.size, 1, none⟩ (.int .i64 pz)).heap.size = w5.heap.size := by simp
          have N2 := cell_two_new (w5.setCell ⟨w3.heap.size, 1, none⟩ (.int .i64 pz)) (.int .i64 py) (.int .i64 pz) 43
          rw [z6] at N2
          have hwz : w.heap.size ≤ w5.heap.size := by omega
          go_wp2_with (at_builtin; refine wpList_append_own_at _ rfl _ _ 25 rfl w.heap.size 43 i0 (.agg #[.int .i64 0, .int .i64 0]) 2 16 Try.underlying25 hi hz0 hz1 hz2 rfl (by decide) _ _ _ rfl (hown5.alloc _) ⟨w5.heap.size, 0, none⟩ 1 1 [_, _] rfl rfl N2 (by simp [Value.oneCell']) (by unfold maxLen; omega) (by omega) (by simp; omega) ?_)
          intro v' w6 hown6 hgrow _ hat
          have hbw6 := Lib.hid (app_below hbw5 hown5 hgrow)
          have hpr6 := Lib.hid (own_grown (hpr5.alloc (.cells #[.int .i64 py, .int .i64 pz] 43)) hgrow (fun g hg hh => by
            have h1 := hP2.out g hg
            have h2 := (hpr5.lt g hg).1
            have h3 := hq.out g hh.symm
            omega))
          have hw6 : w2.heap.size ≤ w6.heap.size := by have := hgrow.size; simp at this; omega
          have hq6 : Hid (∀ q, v'.ownBlock = some q → q = w.heap.size ∨ w2.heap.size ≤ q) := by
            intro q hv
            rcases hat with hat | hat
            · exact hq.out q (hat.symm.trans hv)
            · rw [hat] at hv
              injection hv with hv
              refine .inr ?_
              first | omega | (simp at hv; omega)
          have hown7 : Hid (w6.ownsRow w.heap.size 43 2 v' (k + 1) (prc (rs.take (k + 1)))) := by
            show World.ownsRow _ _ _ _ _ _ _
            rw [← prc_snoc2 HRK.out, HSP.out]
            exact hown6
          clear hown6 hgrow hown5 hbw5 hat hpr5
          go_wp2
          go_roundw
          case rel => exact ⟨k + 1, by omega, by go_num, hown7.out, hpr6, hq6, hw6, hbw6.out⟩
          case measure => simp [intOf]; omega
        · have HP := Lib.hid (parP_bad HNO.out HXM.out h2)
          obtain ⟨m, hm⟩ : ∃ m, (P.cut x ⟨#[62]⟩).length = m := ⟨_, rfl⟩
          rw [hm] at h2 ⊢
          have q3 : ((m : Int) != 2) = true := by simp; omega
          have BZ := hbw3.alloc hsz3 (.cells #[] 43)
          have OZ := Lib.hid (ownPs_nil (w2 := w3) (lo := w.heap.size) hsz3)
          clear hm h2 hV HV hc b3 hown hbw hown3 hpr3
          go_wp2
          go_ret2
          refine ⟨_, ret_pb HP.out.2.symm, ?_, BZ⟩
          rw [HP.out.1]
          exact OZ.out
      · have hkn : k = n := by omega
        subst hkn
        rw [List.take_of_length_le (by have := HRL.out; omega)] at hown
        obtain ⟨A', c', hv, _, _⟩ := own_form hown
        subst hv
        have hsz := hbw.size
        have hS : Sl RP 2 wr wr.heap.size A' k c' rs := by
          obtain ⟨A'', n'', c'', e'', hS⟩ := own_pairs (by rw [HRL.out]; exact hown) HRF.out
          injection e'' with e1 e2 e3
          subst e1 e2 e3
          exact hS
        have hl : rs.length = k := HRL.out
        have HO := Lib.hid hown
        have HB := Lib.hid hbw
        have HL2 := Lib.hid hl
        clear hown hbw hl
        by_cases h0 : s = ⟨#[]⟩
        · have q1 : s.toList = [] := by rw [h0, ByteArray.toList_eq]
          have q2 : s.toList.isEmpty = true := by rw [q1]; rfl
          have HP := Lib.hid (HEND.out.2 (.inl h0))
          have BZ := HB.out.alloc hsz (.cells #[] 43)
          have OZ := Lib.hid (ownPs_nil (w2 := wr) (lo := w.heap.size) hsz)
          clear h0 HEND q0
          go_wp2
          go_ret2
          refine ⟨_, ret_pb HP.out.2.symm, ?_, BZ⟩
          rw [HP.out.1]
          exact OZ.out
        · have q1 : ¬ s.toList = [] := fun e => h0 (by rw [ByteArray.toList_eq] at e; exact P.ba_ext e)
          have q2 : s.toList.isEmpty = false := by rw [List.isEmpty_eq_false_iff]; exact q1
          have HY2 := Lib.hid (HEND.out.1 h0)
          have HN2 : Hid (pairsS rs ≠ s → parP s = [] ∧ parPB s = false) := fun h => HEND.out.2 (.inr h)
          clear h0 HEND
          go_wp2_with fail
          refine (implFormatPairs _ hS).mono ?_
          rintro e w7 ⟨rfl, b7⟩
          have O7 := own_below HO.out b7
          have B7 := HB.out.trans (b7.mono hsz)
          have z7 := B7.size
          by_cases e : pairsS rs = s
          · have HP := Lib.hid (HY2.out e)
            have q5 := ba_yes e
            clear e
            go_wp2
            go_ret2
            refine ⟨.slice A' k c', ret_pb HP.out.2.symm, ?_, B7⟩
            rw [HP.out.1]
            refine ⟨?_, own_und O7⟩
            rw [HL2.out]; exact O7
          · have HP := Lib.hid (HN2.out e)
            have q5 := ba_no e
            have BZ := B7.alloc z7 (.cells #[] 43)
            have OZ := Lib.hid (ownPs_nil (w2 := w7) (lo := w.heap.size) z7)
            clear e
            go_wp2
            go_ret2
            refine ⟨_, ret_pb HP.out.2.symm, ?_, BZ⟩
            rw [HP.out.1]
            exact OZ.out
end Go.Proofs.Ytjfbacdjockpjaa.Wk
