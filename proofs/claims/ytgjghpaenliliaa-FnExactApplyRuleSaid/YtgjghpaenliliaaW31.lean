/-
  Walks of chapter 3: the reference's search, ArePairs, IsAbove.
  Conditions: none beyond the bounds that each states.
-/
import Derived.Test.YtgjghpaenliliaaW30
import Derived.Test.YtgjghpaenliliaaP9
namespace Go.Proofs.Ytgjghpaenliliaa.Wk
open Go.RowKit Go.Proofs.Ytgjghpaenliliaa.M
set_option linter.unusedVariables false
attribute [local go_sem] cell_grow

theorem info_int2 : (Try.prog.info? 3).map (fun i => (i.zero, i.size, i.bytes)) = some (some (.int .i64 0), 1, 8) := by kernel_rfl
theorem l2Has {A : Option Addr} {n c : Nat} {xs : List Int} {x : Int} (w : World) (h : Sl RI 1 w w.heap.size A n c xs) : Calls Try.prog 109 #[.slice A n c, .int .i64 x] w fun e w' => e = .returned (.bool (decide (x ∈ xs))) ∧ w = w' := by
  have m1 := Nat.le_trans h.le h.max
  unfold maxLen at m1
  have HL := Lib.hid h.len
  go_enter Try.func109, Try.ntmps109
  go_wp2
  go_loop [5] (fun vk => ∃ k : Nat, k ≤ n ∧ vk = .int .i64 k ∧ Hid (∀ i y, i < k → xs[i]? = some y → y ≠ x)) (fun vk => n - (intOf vk).toNat)
  case atStart => exact ⟨0, Nat.zero_le _, rfl, fun i y hi => absurd hi (by omega)⟩
  case round =>
    obtain ⟨k, hk, rfl, hup⟩ := hrel
    by_cases hlt : k < n
    · obtain ⟨b, o, y, rfl, hb, hy, hf, hc⟩ := h.int hlt
      have HY := Lib.hid hy
      clear hy h
      by_cases hxy : y = x
      · have q : (y == x) = true := by simpa using hxy
        have HE : Hid (decide (x ∈ xs) = true) := by show _ = _; rw [decide_eq_true_iff, ← hxy]; exact List.mem_of_getElem? HY.out
        clear hxy
        go_wp2
        go_ret
        exact ⟨ret_bool HE.out.symm, rfl⟩
      · have q : (y == x) = false := by simpa using hxy
        have HU := Lib.hid (P.before_step hup.out HY.out hxy)
        clear hxy
        go_wp2
        go_round
        case rel => exact ⟨k + 1, by omega, by go_num, HU⟩
        case measure => simp [intOf]; omega
    · have HE : Hid (decide (x ∈ xs) = false) := by
        show _ = _
        rw [decide_eq_false_iff_not]
        intro hm
        obtain ⟨i, hi⟩ := List.getElem?_of_mem hm
        exact hup.out i x (by have := (List.getElem?_eq_some_iff.1 hi).1; have := HL.out; omega) hi rfl
      clear h
      go_wp2
      go_ret
      exact ⟨ret_bool HE.out.symm, rfl⟩
theorem l3Valid {A : Option Addr} {n c : Nat} {l : List (Int × Int)} (w : World) (h : Sl RP 2 w w.heap.size A n c l) : Calls Try.prog 105 #[.slice A n c] w fun e w' => e = .returned (.bool (P.inP l && decide (l.length ≤ 8))) ∧ w = w' := by
  have m1 := Nat.le_trans h.le h.max
  unfold maxLen at m1
  have HL := Lib.hid h.len
  go_enter Try.func105, Try.ntmps105
  go_wp2
  go_loop [3] (fun vk => ∃ k : Nat, k ≤ n ∧ vk = .int .i64 k ∧ Hid (∀ i p, i < k → l[i]? = some p → (P.inR p.1 0 9 && P.inR p.2 0 9) = true)) (fun vk => n - (intOf vk).toNat)
  case atStart => exact ⟨0, Nat.zero_le _, rfl, fun i y hi => absurd hi (by omega)⟩
  case round =>
    obtain ⟨k, hk, rfl, hup⟩ := hrel
    by_cases hlt : k < n
    · obtain ⟨b, o, p, rfl, hb, hx, hf, hg, hc0, hc1⟩ := pairAt h hlt
      have HX := Lib.hid hx
      clear hx h
      cases h1 : P.inR p.1 0 9 with
      | false =>
        have HE : Hid ((P.inP l && decide (l.length ≤ 8)) = false) := by show _ = _; rw [P.inP_no HX.out (.inl h1)]; rfl
        go_wp2_with (go_at_call 39; refine (l1In _ _ _ _).mono ?_; rintro e w' ⟨rfl, rfl⟩)
        go_ret
        exact ⟨ret_bool HE.out.symm, rfl⟩
      | true =>
        cases h2 : P.inR p.2 0 9 with
        | false =>
          have HE : Hid ((P.inP l && decide (l.length ≤ 8)) = false) := by show _ = _; rw [P.inP_no HX.out (.inr h2)]; rfl
          go_wp2_with (go_at_call 39; refine (l1In _ _ _ _).mono ?_; rintro e w' ⟨rfl, rfl⟩)
          go_ret
          exact ⟨ret_bool HE.out.symm, rfl⟩
        | true =>
          have HU := Lib.hid (P.before_step (Q := fun p : Int × Int => (P.inR p.1 0 9 && P.inR p.2 0 9) = true) hup.out HX.out (by rw [h1, h2]; rfl))
          go_wp2_with (go_at_call 39; refine (l1In _ _ _ _).mono ?_; rintro e w' ⟨rfl, rfl⟩)
          go_round
          case rel => exact ⟨k + 1, by omega, by go_num, HU⟩
          case measure => simp [intOf]; omega
    · have HE : Hid ((P.inP l && decide (l.length ≤ 8)) = decide ((n : Int) ≤ 8)) := by
        show _ = _
        rw [P.inP_all (fun i p hi hp => hup.out i p (by have := HL.out; omega) hp), Bool.true_and, HL.out]
        simp; omega
      clear h
      go_wp2
      go_ret
      exact ⟨ret_bool HE.out.symm, rfl⟩
set_option maxHeartbeats 3200000 in
set_option maxRecDepth 100000 in
theorem l3Reach {A : Option Addr} {n c : Nat} {l : List (Int × Int)} {a b : Int} (w : World) (h : Sl RP 2 w w.heap.size A n c l) (hn : n ≤ 8) (ha : Fit a) : Calls Try.prog 93 #[.slice A n c, .int .i64 a, .int .i64 b] w fun e w' => e = .returned (.bool (P.abv l a b)) ∧ Below w.heap.size w w' := by
  obtain ⟨i0, hi, hz0, hz1, hz2⟩ := info_parts info_int2
  have HL := Lib.hid h.len
  have HF : Hid (∀ S i k, P.Bfs l a b S i k → ∀ x ∈ S, Fit x) := fun S i k hB x hx => by
    rcases hB.sub x hx with rfl | ⟨p, hp, rfl⟩
    · exact ha
    · exact (fitPairs h p hp).2
  have HN : Hid (∀ S i k, P.Bfs l a b S i k → S.length ≤ n + 1) := fun S i k hB => by have := hB.len; have := HL.out; omega
  clear ha
  go_enter Try.func93, Try.ntmps93
  go_wp2
  go_loopw [7, 8, 9] (fun vs vi vk wr => ∃ (S : List Int) (i : Nat), i ≤ S.length ∧ vi = .int .i64 i ∧ wr.ownsRow w.heap.size 3 1 vs S.length (S.map (Value.int .i64)) ∧ Hid (P.Bfs l a b S i 0) ∧ Below w.heap.size w wr) (fun _ vi _ _ => n + 1 - (intOf vi).toNat)
  case atStart =>
    refine ⟨[a], 0, by simp, rfl, ?_, P.Bfs.init _ _ _, (Below.refl _ _).alloc (Nat.le_refl _) _⟩
    have := World.ownsRow_lit (base := w.heap.size) (e := 3) (size := 1) w #[.int .i64 a] 1 (Nat.le_refl _) (by unfold maxLen; omega) rfl
    simpa using this
  case round =>
    obtain ⟨S, i, hi', rfl, hown, hB, hbw⟩ := hrel
    obtain ⟨wo, rfl⟩ : ∃ wo : World, wo = wr := ⟨_, rfl⟩
    obtain ⟨A', m', c', hv, hS⟩ := own_ints hown (HF.out S i 0 hB.out)
    obtain rfl := hS.len
    subst hv
    have hSl := HN.out S i 0 hB.out
    by_cases hlt : i < S.length
    · clear hS
      go_wp2
      go_loopw [7, 9] (fun vs vk wr => ∃ (S : List Int) (k : Nat), k ≤ n ∧ i < S.length ∧ vk = .int .i64 k ∧ wr.ownsRow w.heap.size 3 1 vs S.length (S.map (Value.int .i64)) ∧ Hid (P.Bfs l a b S i k) ∧ Below w.heap.size w wr) (fun _ vk _ => n - (intOf vk).toNat)
      case atStart => exact ⟨S, 0, Nat.zero_le _, hlt, rfl, hown, hB, hbw⟩
      case round =>
        clear hown hbw hB hi'
        obtain ⟨T, k, hk, hiT, rfl, hown, hB, hbw⟩ := hrel
        obtain ⟨A2, m2, c2, hv, hS⟩ := own_ints hown (HF.out T i k hB.out)
        obtain rfl := hS.len
        subst hv
        have hTl := HN.out T i k hB.out
        have hsz := hbw.size
        by_cases hlk : k < n
        · obtain ⟨bp, op, p, rfl, hb, hx, hf, hg, g0, g1⟩ := pairAt h hlk
          obtain ⟨bs, os, s, rfl, hbs, hs, hfs, hcs⟩ := hS.int hiT
          have e0 := ((cell_of hbw) bp (op + k * 2) hb).trans g0
          have e1 := ((cell_of hbw) bp (op + k * 2 + 1) hb).trans g1
          have hb2 : bp < wr.heap.size := by omega
          have q1 : (k : Int) < (n : Int) := by omega
          have q2 : (i : Int) < (T.length : Int) := by omega
          have q3 : (T.length : Int) ≤ (c2 : Int) := by have := hS.le; omega
          have HX := Lib.hid hx
          have HSS := Lib.hid hs
          have HS := Lib.hid hS
          have HO := Lib.hid hown
          clear hx hs hS hown g0 g1 h
          by_cases h1 : p.1 = s
          · have t1 : (p.1 != s) = false := by simpa using h1
            have H1 := Lib.hid h1
            clear h1
            by_cases h2 : p.2 = b
            · have t2 : (p.2 == b) = true := by simpa using h2
              have HE := Lib.hid (hB.out.yes HX.out HSS.out H1.out h2)
              clear h2
              go_wp2_with fail
              refine wp_region_qb (by kernel_rfl) (by kernel_rfl) ?_; (repeat (go_big_quiet_step ((fail)))); refine wpQuiet_nil ?_; intro w8 hb8
              have k0 := ((cell_of hb8) bp (op + k * 2) hb2).trans e0
              have k1 := ((cell_of hb8) bp (op + k * 2 + 1) hb2).trans e1
              clear e0 e1
              go_wp2
              go_ret
              exact ⟨ret_bool HE.out.symm, hbw.trans (hb8.mono hsz)⟩
            · have t2 : (p.2 == b) = false := by simpa using h2
              have H2 := Lib.hid h2
              clear h2
              by_cases h3 : p.2 ∈ T
              · have t3 : decide (p.2 ∈ T) = true := by simpa using h3
                have HE := Lib.hid (hB.out.old HX.out HSS.out H2.out h3)
                clear h3
                go_wp2_with fail
                refine wp_region_qb (by kernel_rfl) (by kernel_rfl) ?_; (repeat (go_big_quiet_step ((fail)))); refine wpQuiet_nil ?_; intro w8 hb8
                have k0 := ((cell_of hb8) bp (op + k * 2) hb2).trans e0
                have k1 := ((cell_of hb8) bp (op + k * 2 + 1) hb2).trans e1
                have HS8 := Lib.hid (HS.out.on RI.keeps hb8)
                clear e0 e1
                go_wp2_with (go_at_call 109; refine (l2Has _ HS8.out).mono ?_; rintro e w' ⟨rfl, rfl⟩; rw [t3])
                go_roundw
                case rel => exact ⟨T, k + 1, by omega, hiT, by go_num, own_below HO.out hb8, HE, hbw.trans (hb8.mono hsz)⟩
                case measure => simp [intOf]; omega
              · have t3 : decide (p.2 ∈ T) = false := by simpa using h3
                have HE := Lib.hid (hB.out.new HX.out HSS.out H1.out H2.out h3)
                clear h3
                go_wp2_with fail
                refine wp_region_qb (by kernel_rfl) (by kernel_rfl) ?_; (repeat (go_big_quiet_step ((fail)))); refine wpQuiet_nil ?_; intro w8 hb8
                have k0 := ((cell_of hb8) bp (op + k * 2) hb2).trans e0
                have k1 := ((cell_of hb8) bp (op + k * 2 + 1) hb2).trans e1
                have HS8 := Lib.hid (HS.out.on RI.keeps hb8)
                have hown8 := own_below HO.out hb8
                have hbw8 := hbw.trans (hb8.mono hsz)
                have hsz8 := hbw8.size
                clear e0 e1 HO HS
                go_wp2_with (first | (go_at_call 109; refine (l2Has _ HS8.out).mono ?_; rintro e w' ⟨rfl, rfl⟩; rw [t3]) | (at_builtin; refine wpList_append_own _ rfl _ _ 29 rfl w.heap.size 3 i0 (.int .i64 0) 1 8 Try.underlying29 hi hz0 hz1 hz2 rfl (by decide) _ _ _ rfl (hown8.alloc _) ⟨w8.heap.size, 0, none⟩ 1 1 [_] rfl rfl (one_new _ _ _) (by simp [Value.oneCell']) (by unfold maxLen; omega) (by omega) (by simp; omega) ?_))
                intro v' w9 hown9 hgrow _
                have hbw9 := Lib.hid (app_below hbw8 hown8 hgrow)
                have HO9 : Hid (w9.ownsRow w.heap.size 3 1 v' (T ++ [p.2]).length ((T ++ [p.2]).map (Value.int .i64))) := by
                  refine Lib.hid ?_
                  simpa using hown9
                clear hown9 hgrow hown8 hbw8
                go_wp2
                go_roundw
                case rel => exact ⟨T ++ [p.2], k + 1, by omega, by simp; omega, by go_num, HO9.out, HE, hbw9.out⟩
                case measure => simp [intOf]; omega
          · have t1 : (p.1 != s) = true := by simpa using h1
            have HE := Lib.hid (hB.out.skip HX.out HSS.out h1)
            clear h1
            go_wp2_with fail
            refine wp_region_qb (by kernel_rfl) (by kernel_rfl) ?_; (repeat (go_big_quiet_step ((fail)))); refine wpQuiet_nil ?_; intro w8 hb8
            go_wp2
            go_roundw
            case rel => exact ⟨T, k + 1, by omega, hiT, by go_num, own_below HO.out hb8, HE, hbw.trans (hb8.mono hsz)⟩
            case measure => simp [intOf]; omega
        · have HE := Lib.hid (hB.out.next (by have := HL.out; omega))
          have HO := Lib.hid hown
          clear hS hown
          go_wp2
          refine ⟨⟨T, i + 1, by omega, by go_num, HO.out, HE, hbw⟩, by simp [intOf]; omega⟩
    · have HE := Lib.hid (hB.out.no (by omega))
      clear hS hown h
      go_wp2
      go_ret
      exact ⟨ret_bool HE.out.symm, hbw⟩
theorem abv_no {l : List (Int × Int)} {a b : Int} (h : P.inP l = true) (hab : P.inR a 0 9 = false ∨ P.inR b 0 9 = false) : P.abv l a b = false := by
  cases e : P.abv l a b with
  | false => rfl
  | true =>
    obtain ⟨h1, h2⟩ := P.Path.bd h (P.abv_iff.1 e)
    rcases hab with h | h
    · rw [P.inR_mk h1] at h; cases h
    · rw [P.inR_mk h2] at h; cases h
set_option maxHeartbeats 800000 in
theorem specArePairs {A : Option Addr} {n c : Nat} {l : List (Int × Int)} (w : World) (h : Sl RP 2 w w.heap.size A n c l) : Calls Try.prog 87 #[.slice A n c] w fun e w' => e = .returned (.bool (P.okP l)) ∧ Below w.heap.size w w' := by
  have HL := Lib.hid h.len
  have m1 := Nat.le_trans h.le h.max
  cases hv : (P.inP l && decide (l.length ≤ 8)) with
  | false =>
    have HE : Hid (P.okP l = false) := by
      rw [Bool.and_eq_false_iff] at hv
      rcases hv with hv | hv
      · exact P.okP_bad1 hv
      · exact P.okP_bad2 (by simpa using hv)
    go_enter Try.func87, Try.ntmps87
    go_wp2_with (go_at_call 105; refine (l3Valid _ h).mono ?_; rintro e w' ⟨rfl, rfl⟩)
    go_ret
    exact ⟨ret_bool HE.out.symm, Below.refl _ _⟩
  | true =>
    have hv2 := hv
    rw [Bool.and_eq_true, decide_eq_true_eq] at hv2
    have HIN := Lib.hid hv2.1
    have hn8 : n ≤ 8 := by have := hv2.2; have := HL.out; omega
    have H := Lib.hid h
    have HL8 := Lib.hid hv2.2
    clear hv2
    go_enter Try.func87, Try.ntmps87
    go_wp2_with (go_at_call 105; refine (l3Valid _ h).mono ?_; rintro e w' ⟨rfl, rfl⟩)
    clear h hv
    go_loopw [3] (fun vk wr => ∃ v : Nat, v ≤ 10 ∧ vk = .int .i64 v ∧ Hid (∀ i : Nat, i < v → P.abv l i i = false) ∧ Below w.heap.size w wr) (fun vk _ => 10 - (intOf vk).toNat)
    case atStart => exact ⟨0, by omega, rfl, fun i hi => absurd hi (by omega), Below.refl _ _⟩
    case round =>
      obtain ⟨v, hv, rfl, hno, hbw⟩ := hrel
      by_cases hv10 : v < 10
      · have HS := Lib.hid (H.out.on RP.keeps hbw)
        have hfit : Fit (v : Int) := by unfold Fit; omega
        cases hav : P.abv l v v with
        | true =>
          have HE : Hid (P.okP l = false) := P.okP_bad3 hv10 hav
          go_wp2_with (go_at_call 93; refine (l3Reach _ HS.out hn8 hfit).mono ?_; rintro e w2 ⟨rfl, hb2⟩)
          go_ret
          exact ⟨ret_bool HE.out.symm, hbw.trans (hb2.mono hbw.size)⟩
        | false =>
          have HE : Hid (∀ i : Nat, i < v + 1 → P.abv l i i = false) := fun i hi => by
            rcases Nat.lt_or_ge i v with h | h
            · exact hno.out i h
            · obtain rfl : i = v := by omega
              exact hav
          go_wp2_with (go_at_call 93; refine (l3Reach _ HS.out hn8 hfit).mono ?_; rintro e w2 ⟨rfl, hb2⟩)
          go_roundw
          case rel => exact ⟨v + 1, by omega, by go_num, HE, hbw.trans (hb2.mono hbw.size)⟩
          case measure => simp [intOf]; omega
      · have HE : Hid (P.okP l = true) := P.okP_mk HIN.out HL8.out (fun i hi => hno.out i (by omega))
        go_wp2
        go_ret
        exact ⟨ret_bool HE.out.symm, hbw⟩
end Go.Proofs.Ytgjghpaenliliaa.Wk
