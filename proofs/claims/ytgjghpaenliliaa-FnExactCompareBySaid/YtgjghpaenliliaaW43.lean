/-
  Walks of chapter 4: values compared.
  Conditions: none beyond the bounds that each states.
-/
import Derived.Test.YtgjghpaenliliaaW42
namespace Go.Proofs.Ytgjghpaenliliaa.Wk
open Go.RowKit Go.Proofs.Ytgjghpaenliliaa.M
set_option linter.unusedVariables false
attribute [local go_sem] cell_grow

set_option maxHeartbeats 3200000 in
theorem l4Compare {A E : Option Addr} {n c m d : Nat} {x : Wi} {a b : Int} (w : World) (h : Sl RI 1 w w.heap.size A n c x.list) (g : Sl RP 2 w w.heap.size E m d x.pairs) (hok : P.okW x = true) (ha : 0 ≤ a ∧ a ≤ 9) (hb : 0 ≤ b ∧ b ≤ 9) :
    Calls Try.prog 69 #[.agg #[.int .i64 x.kind, .int .i64 x.field, .int .i64 x.value, .slice A n c, .slice E m d], .int .i64 a, .int .i64 b] w fun e w' => e = .returned (.int .i64 (P.cmpV x a b)) ∧ Below w.heap.size w w' := by
  have BW := (Below.refl w.heap.size w).alloc (Nat.le_refl _) (.cells #[.int .i64 x.kind, .int .i64 x.field, .int .i64 x.value, .slice A n c, .slice E m d] 53)
  have H := Lib.hid (h.on RI.keeps BW)
  have G := Lib.hid (g.on RP.keeps BW)
  have hsz := BW.size
  have hval := P.okW_value hok
  have HOK := Lib.hid hok
  have HM := Lib.hid g.len
  clear h g hok
  by_cases k4 : x.kind = 4
  · have t4 : (x.kind == 4) = true := by simpa using k4
    have hm8 : m ≤ 8 := by have := P.okW_pairslen HOK.out; have := HM.out; omega
    have fa : Fit a := by unfold Fit; omega
    have fb : Fit b := by unfold Fit; omega
    by_cases hab : a = b
    · have q : (a == b) = true := by simpa using hab
      have HE : Hid (P.cmpV x a b = 0) := by show _ = _; unfold P.cmpV; rw [if_pos k4, if_pos hab]
      clear k4 hab
      go_enter Try.func69, Try.ntmps69
      go_wp2_with fail
      go_ret
      exact ⟨ret_int HE.out.symm, BW⟩
    · have q : (a == b) = false := by simpa using hab
      cases h1 : P.abv x.pairs a b with
      | true =>
        have HE : Hid (P.cmpV x a b = 1) := by show _ = _; unfold P.cmpV; rw [if_pos k4, if_neg hab, h1]; rfl
        clear k4 hab
        go_enter Try.func69, Try.ntmps69
        go_wp2_with (go_at_call 93; refine (l3Reach _ G.out hm8 fa).mono ?_; rintro e w2 ⟨rfl, b2⟩; rw [h1])
        go_ret
        exact ⟨ret_int HE.out.symm, BW.trans (b2.mono hsz)⟩
      | false =>
        cases h2 : P.abv x.pairs b a with
        | true =>
          have HE : Hid (P.cmpV x a b = -1) := by show _ = _; unfold P.cmpV; rw [if_pos k4, if_neg hab, h1, h2]; rfl
          clear k4 hab
          go_enter Try.func69, Try.ntmps69
          go_wp2_with fail
          refine (l3Reach _ G.out hm8 fa).mono ?_
          rintro e w2 ⟨rfl, b2⟩
          rw [h1]
          have hC := cell_of b2
          have z1 : w.heap.size < w2.heap.size := Nat.lt_of_lt_of_le (by simp) b2.size
          have G2 := Lib.hid (G.out.on RP.keeps b2)
          go_wp2_with fail
          refine (l3Reach _ G2.out hm8 fb).mono ?_
          rintro e w3 ⟨rfl, b3⟩
          rw [h2]
          go_wp2_with fail
          go_ret
          exact ⟨ret_int HE.out.symm, (BW.trans (b2.mono hsz)).trans (b3.mono (BW.trans (b2.mono hsz)).size)⟩
        | false =>
          have HE : Hid (P.cmpV x a b = 2) := by show _ = _; unfold P.cmpV; rw [if_pos k4, if_neg hab, h1, h2]; rfl
          clear k4 hab
          go_enter Try.func69, Try.ntmps69
          go_wp2_with fail
          refine (l3Reach _ G.out hm8 fa).mono ?_
          rintro e w2 ⟨rfl, b2⟩
          rw [h1]
          have hC := cell_of b2
          have z1 : w.heap.size < w2.heap.size := Nat.lt_of_lt_of_le (by simp) b2.size
          have G2 := Lib.hid (G.out.on RP.keeps b2)
          go_wp2_with fail
          refine (l3Reach _ G2.out hm8 fb).mono ?_
          rintro e w3 ⟨rfl, b3⟩
          rw [h2]
          go_wp2_with fail
          go_ret
          exact ⟨ret_int HE.out.symm, (BW.trans (b2.mono hsz)).trans (b3.mono (BW.trans (b2.mono hsz)).size)⟩
  · have t4 : (x.kind == 4) = false := by simpa using k4
    have r1 := P.rank_bd hval ha
    have r2 := P.rank_bd hval hb
    have HE0 : Hid (P.cmpV x a b = if P.rank x a < P.rank x b then 1 else if P.rank x b < P.rank x a then -1 else 0) := by show _ = _; unfold P.cmpV; rw [if_neg k4]
    clear k4
    by_cases lt : P.rank x a < P.rank x b
    ·
      have HE : Hid (P.cmpV x a b = 1) := by show _ = _; rw [HE0.out, if_pos lt]
      go_enter Try.func69, Try.ntmps69
      go_wp2_with fail
      refine (l4Rank _ H.out hval ha).mono ?_
      rintro e w2 ⟨rfl, b2⟩
      have hC := cell_of b2
      have z1 : w.heap.size < w2.heap.size := Nat.lt_of_lt_of_le (by simp) b2.size
      have H2 := Lib.hid (H.out.on RI.keeps b2)
      go_wp2_with fail
      refine (l4Rank _ H2.out hval hb).mono ?_
      rintro e w3 ⟨rfl, b3⟩
      go_wp2_with fail
      go_ret
      exact ⟨ret_int HE.out.symm, (BW.trans (b2.mono hsz)).trans (b3.mono (BW.trans (b2.mono hsz)).size)⟩
    · by_cases gt : P.rank x b < P.rank x a
      ·
        have HE : Hid (P.cmpV x a b = -1) := by show _ = _; rw [HE0.out, if_neg lt, if_pos gt]
        go_enter Try.func69, Try.ntmps69
        go_wp2_with fail
        refine (l4Rank _ H.out hval ha).mono ?_
        rintro e w2 ⟨rfl, b2⟩
        have hC := cell_of b2
        have z1 : w.heap.size < w2.heap.size := Nat.lt_of_lt_of_le (by simp) b2.size
        have H2 := Lib.hid (H.out.on RI.keeps b2)
        go_wp2_with fail
        refine (l4Rank _ H2.out hval hb).mono ?_
        rintro e w3 ⟨rfl, b3⟩
        go_wp2_with fail
        go_ret
        exact ⟨ret_int HE.out.symm, (BW.trans (b2.mono hsz)).trans (b3.mono (BW.trans (b2.mono hsz)).size)⟩
      ·
        have HE : Hid (P.cmpV x a b = 0) := by show _ = _; rw [HE0.out, if_neg lt, if_neg gt]
        go_enter Try.func69, Try.ntmps69
        go_wp2_with fail
        refine (l4Rank _ H.out hval ha).mono ?_
        rintro e w2 ⟨rfl, b2⟩
        have hC := cell_of b2
        have z1 : w.heap.size < w2.heap.size := Nat.lt_of_lt_of_le (by simp) b2.size
        have H2 := Lib.hid (H.out.on RI.keeps b2)
        go_wp2_with fail
        refine (l4Rank _ H2.out hval hb).mono ?_
        rintro e w3 ⟨rfl, b3⟩
        go_wp2_with fail
        go_ret
        exact ⟨ret_int HE.out.symm, (BW.trans (b2.mono hsz)).trans (b3.mono (BW.trans (b2.mono hsz)).size)⟩
set_option maxHeartbeats 3200000 in
theorem implCompareValues {A E : Option Addr} {n c m d : Nat} {x : Wi} {a b : Int} (w : World) (h : Sl RI 1 w w.heap.size A n c x.list) (g : Sl RP 2 w w.heap.size E m d x.pairs) (f1 : Fit x.kind) (f2 : Fit x.field) (f3 : Fit x.value) (fa : Fit a) (fb : Fit b) :
    Calls Try.prog 97 #[.agg #[.int .i64 x.kind, .int .i64 x.field, .int .i64 x.value, .slice A n c, .slice E m d], .int .i64 a, .int .i64 b] w fun e w' => e = .returned (.int .i64 (P.cmpVals x a b)) ∧ Below w.heap.size w w' := by
  have BW := (Below.refl w.heap.size w).alloc (Nat.le_refl _) (.cells #[.int .i64 x.kind, .int .i64 x.field, .int .i64 x.value, .slice A n c, .slice E m d] 53)
  have H := Lib.hid (h.on RI.keeps BW)
  have G := Lib.hid (g.on RP.keeps BW)
  have hsz := BW.size
  clear h g
  cases hok : P.okW x with
  | false =>
    have HE : Hid (P.cmpVals x a b = 2) := by show _ = _; unfold P.cmpVals; rw [hok]; rfl
    go_enter Try.func97, Try.ntmps97
    go_wp2_with (go_at_call 63; refine (implIsWish _ H.out G.out).mono ?_; rintro e w2 ⟨rfl, b2⟩; rw [hok])
    go_ret
    exact ⟨ret_int HE.out.symm, BW.trans (b2.mono hsz)⟩
  | true =>
    cases ra : P.inR a 0 9 with
    | false =>
      have HE : Hid (P.cmpVals x a b = 2) := by show _ = _; unfold P.cmpVals; rw [hok, ra]; rfl
      go_enter Try.func97, Try.ntmps97
      go_wp2_with (first | (go_at_call 63; refine (implIsWish _ H.out G.out).mono ?_; rintro e w2 ⟨rfl, b2⟩; rw [hok]) | (go_at_call 42; refine (within _ _ _ _).mono ?_; rintro e w' ⟨rfl, rfl⟩))
      go_ret
      exact ⟨ret_int HE.out.symm, BW.trans (b2.mono hsz)⟩
    | true =>
      cases rb : P.inR b 0 9 with
      | false =>
        have HE : Hid (P.cmpVals x a b = 2) := by show _ = _; unfold P.cmpVals; rw [hok, ra, rb]; rfl
        go_enter Try.func97, Try.ntmps97
        go_wp2_with (first | (go_at_call 63; refine (implIsWish _ H.out G.out).mono ?_; rintro e w2 ⟨rfl, b2⟩; rw [hok]) | (go_at_call 42; refine (within _ _ _ _).mono ?_; rintro e w' ⟨rfl, rfl⟩))
        go_ret
        exact ⟨ret_int HE.out.symm, BW.trans (b2.mono hsz)⟩
      | true =>
        have ha := P.inR_t ra
        have hb := P.inR_t rb
        by_cases k4 : x.kind = 4
        · have t4 : (x.kind == 4) = true := by simpa using k4
          have hin := P.okP_in (P.okW_pairs hok k4)
          obtain ⟨a0, a1⟩ := ha
          obtain ⟨b0, b1⟩ := hb
          obtain ⟨i, rfl⟩ := Int.eq_ofNat_of_zero_le a0
          obtain ⟨j, rfl⟩ := Int.eq_ofNat_of_zero_le b0
          have i10 : i < 10 := by omega
          have j10 : j < 10 := by omega
          have HV : Hid (P.cmpVals x i j = if (i : Int) = j then 0 else if P.abv x.pairs i j then 1 else if P.abv x.pairs j i then -1 else 2) := by show _ = _; unfold P.cmpVals; rw [hok, ra, rb]; unfold P.cmpV; rw [if_pos k4]; rfl
          have HIN := Lib.hid hin
          clear k4 hin
          by_cases hij : (i : Int) = j
          · have t : ((i : Int) == (j : Int)) = true := by simpa using hij
            have t' : (i == j) = true := by simp; omega
            have h1 : True := trivial
            have h2 : True := trivial
            have HE : Hid (P.cmpVals x i j = 0) := by show _ = _; rw [HV.out, if_pos hij]
            have hzero := zero_tab
            have HOK := Lib.hid hok
            go_enter Try.func97, Try.ntmps97
            go_wp2_with fail
            refine (implIsWish _ H.out G.out).mono ?_
            rintro e w2 ⟨rfl, b2⟩
            rw [hok]
            clear hok
            have hC := cell_of b2
            have z1 : w.heap.size < w2.heap.size := Nat.lt_of_lt_of_le (by simp) b2.size
            have H2 := Lib.hid (H.out.on RI.keeps b2)
            have G2 := Lib.hid (G.out.on RP.keeps b2)
            have B2 := BW.trans (b2.mono hsz)
            go_wp2_with (go_at_call 42; refine (within _ _ _ _).mono ?_; rintro e w' ⟨rfl, rfl⟩)
            refine (above _ G2.out HIN.out).mono ?_
            rintro e w3 ⟨rfl, b3⟩
            have B3 := B2.trans (b3.mono B2.size)
            have r0 := Row.new w3 111 (matC fun _ _ => false)
            have hgz : w.heap.size ≤ w3.heap.size := B3.size
            have HB0 := B3.alloc hgz (.cells (matC fun _ _ => false).toArray 111)
            clear b3 B3 B2 hC
            have q1 : (i : Int) < 10 := by omega
            have q2 : (0 : Int) ≤ (i : Int) := by omega
            have q3 : (j : Int) < 10 := by omega
            have q4 : (0 : Int) ≤ (j : Int) := by omega
            clear hij
            go_wp2_with (refine store_row (by rfl) 111 _ _ (by rfl) w3.heap.size (matC fun x' y => P.abv x.pairs x' y) _ 111 (by rfl) (by rfl) r0 (sz_tab _) (by rw [matC_len, matC_len]) (matC_one _) ?_; intro w9 r9 hg9; have c1 := (r9.cell (i * 10 + j)).trans (matC_at _ i10 j10); have c2 := (r9.cell (j * 10 + i)).trans (matC_at _ j10 i10); (try rw [h1] at c1); (try rw [h2] at c2))
            go_ret
            exact ⟨ret_int HE.out.symm, HB0.grown hg9 HB0.size (fun k hk => by injection hk with hk; omega)⟩
          · have t : ((i : Int) == (j : Int)) = false := by simp; omega
            have t' : (i == j) = false := by simp; omega
            cases h1 : P.abv x.pairs i j with
            | true =>
              have h2 : True := trivial
              have HE : Hid (P.cmpVals x i j = 1) := by show _ = _; rw [HV.out, if_neg hij, h1]; rfl
              have hzero := zero_tab
              have HOK := Lib.hid hok
              go_enter Try.func97, Try.ntmps97
              go_wp2_with fail
              refine (implIsWish _ H.out G.out).mono ?_
              rintro e w2 ⟨rfl, b2⟩
              rw [hok]
              clear hok
              have hC := cell_of b2
              have z1 : w.heap.size < w2.heap.size := Nat.lt_of_lt_of_le (by simp) b2.size
              have H2 := Lib.hid (H.out.on RI.keeps b2)
              have G2 := Lib.hid (G.out.on RP.keeps b2)
              have B2 := BW.trans (b2.mono hsz)
              go_wp2_with (go_at_call 42; refine (within _ _ _ _).mono ?_; rintro e w' ⟨rfl, rfl⟩)
              refine (above _ G2.out HIN.out).mono ?_
              rintro e w3 ⟨rfl, b3⟩
              have B3 := B2.trans (b3.mono B2.size)
              have r0 := Row.new w3 111 (matC fun _ _ => false)
              have hgz : w.heap.size ≤ w3.heap.size := B3.size
              have HB0 := B3.alloc hgz (.cells (matC fun _ _ => false).toArray 111)
              clear b3 B3 B2 hC
              have q1 : (i : Int) < 10 := by omega
              have q2 : (0 : Int) ≤ (i : Int) := by omega
              have q3 : (j : Int) < 10 := by omega
              have q4 : (0 : Int) ≤ (j : Int) := by omega
              clear hij
              go_wp2_with (refine store_row (by rfl) 111 _ _ (by rfl) w3.heap.size (matC fun x' y => P.abv x.pairs x' y) _ 111 (by rfl) (by rfl) r0 (sz_tab _) (by rw [matC_len, matC_len]) (matC_one _) ?_; intro w9 r9 hg9; have c1 := (r9.cell (i * 10 + j)).trans (matC_at _ i10 j10); have c2 := (r9.cell (j * 10 + i)).trans (matC_at _ j10 i10); (try rw [h1] at c1); (try rw [h2] at c2))
              go_ret
              exact ⟨ret_int HE.out.symm, HB0.grown hg9 HB0.size (fun k hk => by injection hk with hk; omega)⟩
            | false =>
              cases h2 : P.abv x.pairs j i with
              | true =>
                have HE : Hid (P.cmpVals x i j = -1) := by show _ = _; rw [HV.out, if_neg hij, h1, h2]; rfl
                have hzero := zero_tab
                have HOK := Lib.hid hok
                go_enter Try.func97, Try.ntmps97
                go_wp2_with fail
                refine (implIsWish _ H.out G.out).mono ?_
                rintro e w2 ⟨rfl, b2⟩
                rw [hok]
                clear hok
                have hC := cell_of b2
                have z1 : w.heap.size < w2.heap.size := Nat.lt_of_lt_of_le (by simp) b2.size
                have H2 := Lib.hid (H.out.on RI.keeps b2)
                have G2 := Lib.hid (G.out.on RP.keeps b2)
                have B2 := BW.trans (b2.mono hsz)
                go_wp2_with (go_at_call 42; refine (within _ _ _ _).mono ?_; rintro e w' ⟨rfl, rfl⟩)
                refine (above _ G2.out HIN.out).mono ?_
                rintro e w3 ⟨rfl, b3⟩
                have B3 := B2.trans (b3.mono B2.size)
                have r0 := Row.new w3 111 (matC fun _ _ => false)
                have hgz : w.heap.size ≤ w3.heap.size := B3.size
                have HB0 := B3.alloc hgz (.cells (matC fun _ _ => false).toArray 111)
                clear b3 B3 B2 hC
                have q1 : (i : Int) < 10 := by omega
                have q2 : (0 : Int) ≤ (i : Int) := by omega
                have q3 : (j : Int) < 10 := by omega
                have q4 : (0 : Int) ≤ (j : Int) := by omega
                clear hij
                go_wp2_with (refine store_row (by rfl) 111 _ _ (by rfl) w3.heap.size (matC fun x' y => P.abv x.pairs x' y) _ 111 (by rfl) (by rfl) r0 (sz_tab _) (by rw [matC_len, matC_len]) (matC_one _) ?_; intro w9 r9 hg9; have c1 := (r9.cell (i * 10 + j)).trans (matC_at _ i10 j10); have c2 := (r9.cell (j * 10 + i)).trans (matC_at _ j10 i10); (try rw [h1] at c1); (try rw [h2] at c2))
                go_ret
                exact ⟨ret_int HE.out.symm, HB0.grown hg9 HB0.size (fun k hk => by injection hk with hk; omega)⟩
              | false =>
                have HE : Hid (P.cmpVals x i j = 2) := by show _ = _; rw [HV.out, if_neg hij, h1, h2]; rfl
                have hzero := zero_tab
                have HOK := Lib.hid hok
                go_enter Try.func97, Try.ntmps97
                go_wp2_with fail
                refine (implIsWish _ H.out G.out).mono ?_
                rintro e w2 ⟨rfl, b2⟩
                rw [hok]
                clear hok
                have hC := cell_of b2
                have z1 : w.heap.size < w2.heap.size := Nat.lt_of_lt_of_le (by simp) b2.size
                have H2 := Lib.hid (H.out.on RI.keeps b2)
                have G2 := Lib.hid (G.out.on RP.keeps b2)
                have B2 := BW.trans (b2.mono hsz)
                go_wp2_with (go_at_call 42; refine (within _ _ _ _).mono ?_; rintro e w' ⟨rfl, rfl⟩)
                refine (above _ G2.out HIN.out).mono ?_
                rintro e w3 ⟨rfl, b3⟩
                have B3 := B2.trans (b3.mono B2.size)
                have r0 := Row.new w3 111 (matC fun _ _ => false)
                have hgz : w.heap.size ≤ w3.heap.size := B3.size
                have HB0 := B3.alloc hgz (.cells (matC fun _ _ => false).toArray 111)
                clear b3 B3 B2 hC
                have q1 : (i : Int) < 10 := by omega
                have q2 : (0 : Int) ≤ (i : Int) := by omega
                have q3 : (j : Int) < 10 := by omega
                have q4 : (0 : Int) ≤ (j : Int) := by omega
                clear hij
                go_wp2_with (refine store_row (by rfl) 111 _ _ (by rfl) w3.heap.size (matC fun x' y => P.abv x.pairs x' y) _ 111 (by rfl) (by rfl) r0 (sz_tab _) (by rw [matC_len, matC_len]) (matC_one _) ?_; intro w9 r9 hg9; have c1 := (r9.cell (i * 10 + j)).trans (matC_at _ i10 j10); have c2 := (r9.cell (j * 10 + i)).trans (matC_at _ j10 i10); (try rw [h1] at c1); (try rw [h2] at c2))
                go_ret
                exact ⟨ret_int HE.out.symm, HB0.grown hg9 HB0.size (fun k hk => by injection hk with hk; omega)⟩
        · have t4 : (x.kind == 4) = false := by simpa using k4
          have HE0 : Hid (P.cmpVals x a b = if P.rank x a < P.rank x b then 1 else if P.rank x b < P.rank x a then -1 else 0) := by show _ = _; unfold P.cmpVals; rw [hok, ra, rb]; unfold P.cmpV; rw [if_neg k4]; rfl
          have e1 : rovN x a = P.rank x a := by unfold rovN; rw [rovB_mk hok k4 ra]; rfl
          have e2 : rovN x b = P.rank x b := by unfold rovN; rw [rovB_mk hok k4 rb]; rfl
          have HF := Lib.hid (And.intro f1 (And.intro f2 f3))
          have r1 := P.rank_bd (P.okW_value hok) ha
          have r2 := P.rank_bd (P.okW_value hok) hb
          clear k4
          by_cases lt : P.rank x a < P.rank x b
          ·
            have HE : Hid (P.cmpVals x a b = 1) := by show _ = _; rw [HE0.out, if_pos lt]
            have HOK := Lib.hid hok
            go_enter Try.func97, Try.ntmps97
            go_wp2_with fail
            refine (implIsWish _ H.out G.out).mono ?_
            rintro e w2 ⟨rfl, b2⟩
            rw [hok]
            clear hok
            have hC := cell_of b2
            have z1 : w.heap.size < w2.heap.size := Nat.lt_of_lt_of_le (by simp) b2.size
            have H2 := Lib.hid (H.out.on RI.keeps b2)
            have G2 := Lib.hid (G.out.on RP.keeps b2)
            have B2 := BW.trans (b2.mono hsz)
            go_wp2_with (go_at_call 42; refine (within _ _ _ _).mono ?_; rintro e w' ⟨rfl, rfl⟩)
            refine (implRankOfValue _ H2.out G2.out f1 f2 f3 fa).mono ?_
            rintro e w3 ⟨rfl, b3⟩
            rw [e1]
            have B3 := B2.trans (b3.mono B2.size)
            have hC3 := cell_of b3
            have z2 : w.heap.size < w3.heap.size := Nat.lt_of_lt_of_le z1 b3.size
            have H3 := Lib.hid (H2.out.on RI.keeps b3)
            have G3 := Lib.hid (G2.out.on RP.keeps b3)
            go_wp2_with fail
            refine (implRankOfValue _ H3.out G3.out f1 f2 f3 fb).mono ?_
            rintro e w4 ⟨rfl, b4⟩
            rw [e2]
            go_wp2_with fail
            go_ret
            exact ⟨ret_int HE.out.symm, B3.trans (b4.mono B3.size)⟩
          · by_cases gt : P.rank x b < P.rank x a
            ·
              have HE : Hid (P.cmpVals x a b = -1) := by show _ = _; rw [HE0.out, if_neg lt, if_pos gt]
              have HOK := Lib.hid hok
              go_enter Try.func97, Try.ntmps97
              go_wp2_with fail
              refine (implIsWish _ H.out G.out).mono ?_
              rintro e w2 ⟨rfl, b2⟩
              rw [hok]
              clear hok
              have hC := cell_of b2
              have z1 : w.heap.size < w2.heap.size := Nat.lt_of_lt_of_le (by simp) b2.size
              have H2 := Lib.hid (H.out.on RI.keeps b2)
              have G2 := Lib.hid (G.out.on RP.keeps b2)
              have B2 := BW.trans (b2.mono hsz)
              go_wp2_with (go_at_call 42; refine (within _ _ _ _).mono ?_; rintro e w' ⟨rfl, rfl⟩)
              refine (implRankOfValue _ H2.out G2.out f1 f2 f3 fa).mono ?_
              rintro e w3 ⟨rfl, b3⟩
              rw [e1]
              have B3 := B2.trans (b3.mono B2.size)
              have hC3 := cell_of b3
              have z2 : w.heap.size < w3.heap.size := Nat.lt_of_lt_of_le z1 b3.size
              have H3 := Lib.hid (H2.out.on RI.keeps b3)
              have G3 := Lib.hid (G2.out.on RP.keeps b3)
              go_wp2_with fail
              refine (implRankOfValue _ H3.out G3.out f1 f2 f3 fb).mono ?_
              rintro e w4 ⟨rfl, b4⟩
              rw [e2]
              go_wp2_with fail
              go_ret
              exact ⟨ret_int HE.out.symm, B3.trans (b4.mono B3.size)⟩
            ·
              have HE : Hid (P.cmpVals x a b = 0) := by show _ = _; rw [HE0.out, if_neg lt, if_neg gt]
              have HOK := Lib.hid hok
              go_enter Try.func97, Try.ntmps97
              go_wp2_with fail
              refine (implIsWish _ H.out G.out).mono ?_
              rintro e w2 ⟨rfl, b2⟩
              rw [hok]
              clear hok
              have hC := cell_of b2
              have z1 : w.heap.size < w2.heap.size := Nat.lt_of_lt_of_le (by simp) b2.size
              have H2 := Lib.hid (H.out.on RI.keeps b2)
              have G2 := Lib.hid (G.out.on RP.keeps b2)
              have B2 := BW.trans (b2.mono hsz)
              go_wp2_with (go_at_call 42; refine (within _ _ _ _).mono ?_; rintro e w' ⟨rfl, rfl⟩)
              refine (implRankOfValue _ H2.out G2.out f1 f2 f3 fa).mono ?_
              rintro e w3 ⟨rfl, b3⟩
              rw [e1]
              have B3 := B2.trans (b3.mono B2.size)
              have hC3 := cell_of b3
              have z2 : w.heap.size < w3.heap.size := Nat.lt_of_lt_of_le z1 b3.size
              have H3 := Lib.hid (H2.out.on RI.keeps b3)
              have G3 := Lib.hid (G2.out.on RP.keeps b3)
              go_wp2_with fail
              refine (implRankOfValue _ H3.out G3.out f1 f2 f3 fb).mono ?_
              rintro e w4 ⟨rfl, b4⟩
              rw [e2]
              go_wp2_with fail
              go_ret
              exact ⟨ret_int HE.out.symm, B3.trans (b4.mono B3.size)⟩
end Go.Proofs.Ytgjghpaenliliaa.Wk
