/-
  The walk of the law on integer encodings.
  Conditions: none beyond what the argument reads as.
-/
import Derived.Test.YtapehlgafalkjaaW82
namespace Go.Proofs.Ytapehlgafalkjaa.Wk
open Go.RowKit Go.Proofs.Ytapehlgafalkjaa.M
set_option linter.unusedVariables false

theorem lawBig {B : Nat} {A : Option Addr} {n c : Nat} {bs : List UInt8} (w : World) (h : Sl RB 1 w B A n c bs) : Calls Try.prog 32 #[.slice A n c] w fun e w' => e = .returned (.bool (decide (1048576 < n))) ∧ w = w' := by
  have mx := Nat.le_trans h.le h.max
  unfold maxLen at mx
  by_cases hb : 1048576 < n
  · have q : (1048576 : Int) < (n : Int) := by omega
    have e0 : decide (1048576 < n) = true := by simpa using hb
    rw [e0]
    go_enter Try.func32, Try.ntmps32
    go_wp2
    go_ret
    exact ⟨rfl, rfl⟩
  · have q : ¬ (1048576 : Int) < (n : Int) := by omega
    have e0 : decide (1048576 < n) = false := by simpa using hb
    rw [e0]
    go_enter Try.func32, Try.ntmps32
    go_wp2
    go_ret
    exact ⟨rfl, rfl⟩
theorem emp_yes {s : ByteArray} (h : s = ⟨#[]⟩) : s.toList = [] := by rw [h, ByteArray.toList_eq]
theorem emp_no {s : ByteArray} (h : ¬ s = ⟨#[]⟩) : ¬ s.toList = [] := fun e => h (by rw [ByteArray.toList_eq] at e; exact ba_ext2 e)
theorem emp_yes2 {s : ByteArray} (h : s = ⟨#[]⟩) : s.toList.isEmpty = true := by rw [emp_yes h]; rfl
theorem emp_no2 {s : ByteArray} (h : ¬ s = ⟨#[]⟩) : s.toList.isEmpty = false := by rw [List.isEmpty_eq_false_iff]; exact emp_no h
set_option maxHeartbeats 6400000 in
set_option maxRecDepth 100000 in
theorem FnIntegerEncodings (w : World) (v0 : Value) (l0 : List UInt8) (e0 : V RB 1 w w.heap.size v0 l0) : Calls Try.prog 13 #[v0] w fun e w' => e = .returned (.bool true) ∧ Below w.heap.size w w' := by
  obtain ⟨A, n, c, rfl, hS⟩ := e0
  have HS := Lib.hid hS
  by_cases hbig : 1048576 < n
  · have q : decide (1048576 < n) = true := by simpa using hbig
    go_enter Try.func13, Try.ntmps13
    go_wp2_with fail
    refine (lawBig _ HS.out).mono ?_
    rintro e w1 ⟨rfl, rfl⟩
    rw [q]
    go_wp2
    go_ret
    exact ⟨rfl, Below.refl _ _⟩
  have q : decide (1048576 < n) = false := by simpa using hbig
  have hn : n ≤ 1048576 := by omega
  clear hS hbig
  go_enter Try.func13, Try.ntmps13
  go_wp2_with fail
  refine (lawBig _ HS.out).mono ?_
  rintro e w1 ⟨rfl, rfl⟩
  rw [q]
  clear q
  go_wp2_with fail
  refine (drawEV _ HS.out hn).mono ?_
  rintro e w2 ⟨x, rfl, fx, b2⟩
  go_wp2_with fail
  refine (drawEH _ (HS.out.on RB.keeps b2) hn).mono ?_
  rintro e w3 ⟨t, rfl, ft, b3⟩
  have B3 := b2.trans (b3.mono b2.size)
  clear b2 b3
  go_wp2_with fail
  refine (implEncodeVarint x _).mono ?_
  rintro e w4 ⟨rfl, b4⟩
  have B4 := B3.trans (b4.mono B3.size)
  clear b4 B3
  have EV := Lib.hid (ev_law x t)
  obtain ⟨s, hs⟩ : ∃ s, evS x = s := ⟨_, rfl⟩
  have hsz : s.size ≤ 7 := by
    rw [← hs]
    rcases EV.out with ⟨h, _⟩ | ⟨_, _, _, h, _⟩
    · rw [h]; exact Nat.zero_le _
    · exact h
  rw [hs] at EV
  rw [hs]
  have hst : (s ++ t).size ≤ 2097152 := by rw [ByteArray.size_append]; omega
  have hsm : s.size + t.size ≤ 9223372036854775807 := by omega
  clear hs
  go_wp2_with fail
  refine (implDecodeVarint (s ++ t) hst _).mono ?_
  rintro e w5 ⟨r, hr, rfl, b5⟩
  have B5 := B4.trans (b5.mono B4.size)
  clear b5 B4
  have HR := Lib.hid hr
  clear hr
  rcases EV.out with ⟨h0, h1⟩ | ⟨h0, h1, h2, h3, h4⟩
  · have z1 := emp_yes h0
    have z2 := emp_yes2 h0
    by_cases hx0 : 0 ≤ x
    · have hx1 : ¬ x ≤ 562949953421311 := fun h => h1 ⟨hx0, h⟩
      clear h1 h0 EV
      go_wp2_with fail
      refine (drawEF _ (HS.out.on RB.keeps B5) hn).mono ?_
      rintro e w6 ⟨y, wd, rfl, fy, wd0, wd1, b6⟩
      have B6 := B5.trans (b6.mono B5.size)
      clear b6 B5
      go_wp2_with fail
      refine (implEncodeFixed y wd fy.2 _).mono ?_
      rintro e w7 ⟨rfl, b7⟩
      have B7 := B6.trans (b7.mono B6.size)
      clear b7 B6
      have EF := Lib.hid (ef_law y wd t)
      obtain ⟨f, hf⟩ : ∃ f, efS y wd = f := ⟨_, rfl⟩
      have HF := Lib.hid hf
      have hfz : f.size ≤ 7 := by
        rw [← hf]
        rcases EF.out with h | ⟨_, _, _, _, h⟩
        · rw [h]; exact Nat.zero_le _
        · exact h
      rw [hf] at EF
      rw [hf]
      have hft : (f ++ t).size ≤ maxLen := by rw [ByteArray.size_append]; unfold maxLen; omega
      have hfm : f.size + t.size ≤ 9223372036854775807 := by omega
      clear hf
      go_wp2_with fail
      refine (implDecodeFixed (f ++ t) wd _ hft).mono ?_
      rintro e w8 ⟨rfl, b8⟩
      have B8 := B7.trans (b8.mono B7.size)
      clear b8 B7
      rcases EF.out with k0 | ⟨k0, k1, k2, k3, _⟩
      · have z1 := emp_yes k0
        have z2 := emp_yes2 k0
        clear k0 EF
        go_wp2_with fail
        refine (specEncodeFixed y wd fy.2 _).mono ?_
        rintro e w9 ⟨rfl, b9⟩
        have B9 := B8.trans (b9.mono B8.size)
        clear b9 B8
        rw [HF.out]
        go_wp2_with fail
        refine (implEncodeHex t (by omega) _).mono ?_
        rintro e w10 ⟨rfl, b10⟩
        have B10 := B9.trans (b10.mono B9.size)
        clear b10 B9
        obtain ⟨HX, HZ⟩ := hex_law t
        obtain ⟨d, hd⟩ : ∃ d, strOfNums (P.enc t.data.toList) = d := ⟨_, rfl⟩
        rw [hd] at HX HZ
        rw [hd]
        clear hd
        go_wp2_with fail
        refine (implDecodeHex d (by omega) _).mono ?_
        rintro e w11 ⟨rfl, b11⟩
        rw [HX]
        have B11 := B10.trans (b11.mono B10.size)
        clear b11 B10 HX
        have hzz : (d.size : Int) = 2 * (t.size : Int) := by omega
        go_wp2_with fail
        refine (implFormatInt y fy _).mono ?_
        rintro e w12 ⟨rfl, b12⟩
        have B12 := B11.trans (b12.mono B11.size)
        clear b12 B11
        have PL := Lib.hid (pi_law y)
        have hgs : (fmtS y).size ≤ maxLen := by
          unfold fmtS
          rw [strOfNums_size]
          have := P.fmtL_len fy.1 fy.2
          unfold maxLen; omega
        have SF : Hid (∀ w : World, Calls Try.prog 24 #[.int .i64 y] w fun e w' => e = .returned (.string (fmtS y)) ∧ Below w.heap.size w w') := fun w => specFormatInt y fy w
        obtain ⟨g, hg⟩ : ∃ g, fmtS y = g := ⟨_, rfl⟩
        rw [hg] at PL hgs SF
        rw [hg]
        clear hg
        go_wp2_with fail
        refine (implParseInt g hgs _).mono ?_
        rintro e w13 ⟨rfl, b13⟩
        have B13 := B12.trans (b13.mono B12.size)
        clear b13 B12
        have tt : (t.toList == t.toList) = true := by simp
        have gg : (g.toList == g.toList) = true := by simp
        rcases PL.out with ⟨m0, m1, m2⟩ | ⟨m0, m2⟩
        · rw [m1, m2]
          have n1 : (-1000000000 : Int) < y := m0.1
          have n2 : y < 1000000000 := m0.2
          have yy : (y == y) = true := by simp
          go_wp2_with fail
          refine (SF.out _).mono ?_
          rintro e w14 ⟨rfl, b14⟩
          have BZ := B13.trans (b14.mono B13.size)
          go_wp2
          go_ret
          exact ⟨rfl, BZ⟩
        · rw [m2]
          by_cases n1 : (-1000000000 : Int) < y
          · have n2 : ¬ y < 1000000000 := fun h => m0 ⟨n1, h⟩
            have n3 : decide (y < 1000000000) = false := by simpa using n2
            go_wp2_with fail
            refine (SF.out _).mono ?_
            rintro e w14 ⟨rfl, b14⟩
            have BZ := B13.trans (b14.mono B13.size)
            go_wp2
            go_ret
            exact ⟨rfl, BZ⟩
          · go_wp2_with fail
            refine (SF.out _).mono ?_
            rintro e w14 ⟨rfl, b14⟩
            have BZ := B13.trans (b14.mono B13.size)
            go_wp2
            go_ret
            exact ⟨rfl, BZ⟩
      · have z1 := emp_no k0
        have z2 := emp_no2 k0
        rw [k1, k2]
        have yq : (y != y) = false := by simp
        have zq : ((f.size : Int) != wd) = false := by simp [k3]
        clear k0 k1 k2 EF
        go_wp2_with fail
        refine (specEncodeFixed y wd fy.2 _).mono ?_
        rintro e w9 ⟨rfl, b9⟩
        have B9 := B8.trans (b9.mono B8.size)
        clear b9 B8
        rw [HF.out]
        go_wp2_with fail
        refine (implEncodeHex t (by omega) _).mono ?_
        rintro e w10 ⟨rfl, b10⟩
        have B10 := B9.trans (b10.mono B9.size)
        clear b10 B9
        obtain ⟨HX, HZ⟩ := hex_law t
        obtain ⟨d, hd⟩ : ∃ d, strOfNums (P.enc t.data.toList) = d := ⟨_, rfl⟩
        rw [hd] at HX HZ
        rw [hd]
        clear hd
        go_wp2_with fail
        refine (implDecodeHex d (by omega) _).mono ?_
        rintro e w11 ⟨rfl, b11⟩
        rw [HX]
        have B11 := B10.trans (b11.mono B10.size)
        clear b11 B10 HX
        have hzz : (d.size : Int) = 2 * (t.size : Int) := by omega
        go_wp2_with fail
        refine (implFormatInt y fy _).mono ?_
        rintro e w12 ⟨rfl, b12⟩
        have B12 := B11.trans (b12.mono B11.size)
        clear b12 B11
        have PL := Lib.hid (pi_law y)
        have hgs : (fmtS y).size ≤ maxLen := by
          unfold fmtS
          rw [strOfNums_size]
          have := P.fmtL_len fy.1 fy.2
          unfold maxLen; omega
        have SF : Hid (∀ w : World, Calls Try.prog 24 #[.int .i64 y] w fun e w' => e = .returned (.string (fmtS y)) ∧ Below w.heap.size w w') := fun w => specFormatInt y fy w
        obtain ⟨g, hg⟩ : ∃ g, fmtS y = g := ⟨_, rfl⟩
        rw [hg] at PL hgs SF
        rw [hg]
        clear hg
        go_wp2_with fail
        refine (implParseInt g hgs _).mono ?_
        rintro e w13 ⟨rfl, b13⟩
        have B13 := B12.trans (b13.mono B12.size)
        clear b13 B12
        have tt : (t.toList == t.toList) = true := by simp
        have gg : (g.toList == g.toList) = true := by simp
        rcases PL.out with ⟨m0, m1, m2⟩ | ⟨m0, m2⟩
        · rw [m1, m2]
          have n1 : (-1000000000 : Int) < y := m0.1
          have n2 : y < 1000000000 := m0.2
          have yy : (y == y) = true := by simp
          go_wp2_with fail
          refine (SF.out _).mono ?_
          rintro e w14 ⟨rfl, b14⟩
          have BZ := B13.trans (b14.mono B13.size)
          go_wp2
          go_ret
          exact ⟨rfl, BZ⟩
        · rw [m2]
          by_cases n1 : (-1000000000 : Int) < y
          · have n2 : ¬ y < 1000000000 := fun h => m0 ⟨n1, h⟩
            have n3 : decide (y < 1000000000) = false := by simpa using n2
            go_wp2_with fail
            refine (SF.out _).mono ?_
            rintro e w14 ⟨rfl, b14⟩
            have BZ := B13.trans (b14.mono B13.size)
            go_wp2
            go_ret
            exact ⟨rfl, BZ⟩
          · go_wp2_with fail
            refine (SF.out _).mono ?_
            rintro e w14 ⟨rfl, b14⟩
            have BZ := B13.trans (b14.mono B13.size)
            go_wp2
            go_ret
            exact ⟨rfl, BZ⟩
    · clear h1 h0 EV
      go_wp2_with fail
      refine (drawEF _ (HS.out.on RB.keeps B5) hn).mono ?_
      rintro e w6 ⟨y, wd, rfl, fy, wd0, wd1, b6⟩
      have B6 := B5.trans (b6.mono B5.size)
      clear b6 B5
      go_wp2_with fail
      refine (implEncodeFixed y wd fy.2 _).mono ?_
      rintro e w7 ⟨rfl, b7⟩
      have B7 := B6.trans (b7.mono B6.size)
      clear b7 B6
      have EF := Lib.hid (ef_law y wd t)
      obtain ⟨f, hf⟩ : ∃ f, efS y wd = f := ⟨_, rfl⟩
      have HF := Lib.hid hf
      have hfz : f.size ≤ 7 := by
        rw [← hf]
        rcases EF.out with h | ⟨_, _, _, _, h⟩
        · rw [h]; exact Nat.zero_le _
        · exact h
      rw [hf] at EF
      rw [hf]
      have hft : (f ++ t).size ≤ maxLen := by rw [ByteArray.size_append]; unfold maxLen; omega
      have hfm : f.size + t.size ≤ 9223372036854775807 := by omega
      clear hf
      go_wp2_with fail
      refine (implDecodeFixed (f ++ t) wd _ hft).mono ?_
      rintro e w8 ⟨rfl, b8⟩
      have B8 := B7.trans (b8.mono B7.size)
      clear b8 B7
      rcases EF.out with k0 | ⟨k0, k1, k2, k3, _⟩
      · have z1 := emp_yes k0
        have z2 := emp_yes2 k0
        clear k0 EF
        go_wp2_with fail
        refine (specEncodeFixed y wd fy.2 _).mono ?_
        rintro e w9 ⟨rfl, b9⟩
        have B9 := B8.trans (b9.mono B8.size)
        clear b9 B8
        rw [HF.out]
        go_wp2_with fail
        refine (implEncodeHex t (by omega) _).mono ?_
        rintro e w10 ⟨rfl, b10⟩
        have B10 := B9.trans (b10.mono B9.size)
        clear b10 B9
        obtain ⟨HX, HZ⟩ := hex_law t
        obtain ⟨d, hd⟩ : ∃ d, strOfNums (P.enc t.data.toList) = d := ⟨_, rfl⟩
        rw [hd] at HX HZ
        rw [hd]
        clear hd
        go_wp2_with fail
        refine (implDecodeHex d (by omega) _).mono ?_
        rintro e w11 ⟨rfl, b11⟩
        rw [HX]
        have B11 := B10.trans (b11.mono B10.size)
        clear b11 B10 HX
        have hzz : (d.size : Int) = 2 * (t.size : Int) := by omega
        go_wp2_with fail
        refine (implFormatInt y fy _).mono ?_
        rintro e w12 ⟨rfl, b12⟩
        have B12 := B11.trans (b12.mono B11.size)
        clear b12 B11
        have PL := Lib.hid (pi_law y)
        have hgs : (fmtS y).size ≤ maxLen := by
          unfold fmtS
          rw [strOfNums_size]
          have := P.fmtL_len fy.1 fy.2
          unfold maxLen; omega
        have SF : Hid (∀ w : World, Calls Try.prog 24 #[.int .i64 y] w fun e w' => e = .returned (.string (fmtS y)) ∧ Below w.heap.size w w') := fun w => specFormatInt y fy w
        obtain ⟨g, hg⟩ : ∃ g, fmtS y = g := ⟨_, rfl⟩
        rw [hg] at PL hgs SF
        rw [hg]
        clear hg
        go_wp2_with fail
        refine (implParseInt g hgs _).mono ?_
        rintro e w13 ⟨rfl, b13⟩
        have B13 := B12.trans (b13.mono B12.size)
        clear b13 B12
        have tt : (t.toList == t.toList) = true := by simp
        have gg : (g.toList == g.toList) = true := by simp
        rcases PL.out with ⟨m0, m1, m2⟩ | ⟨m0, m2⟩
        · rw [m1, m2]
          have n1 : (-1000000000 : Int) < y := m0.1
          have n2 : y < 1000000000 := m0.2
          have yy : (y == y) = true := by simp
          go_wp2_with fail
          refine (SF.out _).mono ?_
          rintro e w14 ⟨rfl, b14⟩
          have BZ := B13.trans (b14.mono B13.size)
          go_wp2
          go_ret
          exact ⟨rfl, BZ⟩
        · rw [m2]
          by_cases n1 : (-1000000000 : Int) < y
          · have n2 : ¬ y < 1000000000 := fun h => m0 ⟨n1, h⟩
            have n3 : decide (y < 1000000000) = false := by simpa using n2
            go_wp2_with fail
            refine (SF.out _).mono ?_
            rintro e w14 ⟨rfl, b14⟩
            have BZ := B13.trans (b14.mono B13.size)
            go_wp2
            go_ret
            exact ⟨rfl, BZ⟩
          · go_wp2_with fail
            refine (SF.out _).mono ?_
            rintro e w14 ⟨rfl, b14⟩
            have BZ := B13.trans (b14.mono B13.size)
            go_wp2
            go_ret
            exact ⟨rfl, BZ⟩
      · have z1 := emp_no k0
        have z2 := emp_no2 k0
        rw [k1, k2]
        have yq : (y != y) = false := by simp
        have zq : ((f.size : Int) != wd) = false := by simp [k3]
        clear k0 k1 k2 EF
        go_wp2_with fail
        refine (specEncodeFixed y wd fy.2 _).mono ?_
        rintro e w9 ⟨rfl, b9⟩
        have B9 := B8.trans (b9.mono B8.size)
        clear b9 B8
        rw [HF.out]
        go_wp2_with fail
        refine (implEncodeHex t (by omega) _).mono ?_
        rintro e w10 ⟨rfl, b10⟩
        have B10 := B9.trans (b10.mono B9.size)
        clear b10 B9
        obtain ⟨HX, HZ⟩ := hex_law t
        obtain ⟨d, hd⟩ : ∃ d, strOfNums (P.enc t.data.toList) = d := ⟨_, rfl⟩
        rw [hd] at HX HZ
        rw [hd]
        clear hd
        go_wp2_with fail
        refine (implDecodeHex d (by omega) _).mono ?_
        rintro e w11 ⟨rfl, b11⟩
        rw [HX]
        have B11 := B10.trans (b11.mono B10.size)
        clear b11 B10 HX
        have hzz : (d.size : Int) = 2 * (t.size : Int) := by omega
        go_wp2_with fail
        refine (implFormatInt y fy _).mono ?_
        rintro e w12 ⟨rfl, b12⟩
        have B12 := B11.trans (b12.mono B11.size)
        clear b12 B11
        have PL := Lib.hid (pi_law y)
        have hgs : (fmtS y).size ≤ maxLen := by
          unfold fmtS
          rw [strOfNums_size]
          have := P.fmtL_len fy.1 fy.2
          unfold maxLen; omega
        have SF : Hid (∀ w : World, Calls Try.prog 24 #[.int .i64 y] w fun e w' => e = .returned (.string (fmtS y)) ∧ Below w.heap.size w w') := fun w => specFormatInt y fy w
        obtain ⟨g, hg⟩ : ∃ g, fmtS y = g := ⟨_, rfl⟩
        rw [hg] at PL hgs SF
        rw [hg]
        clear hg
        go_wp2_with fail
        refine (implParseInt g hgs _).mono ?_
        rintro e w13 ⟨rfl, b13⟩
        have B13 := B12.trans (b13.mono B12.size)
        clear b13 B12
        have tt : (t.toList == t.toList) = true := by simp
        have gg : (g.toList == g.toList) = true := by simp
        rcases PL.out with ⟨m0, m1, m2⟩ | ⟨m0, m2⟩
        · rw [m1, m2]
          have n1 : (-1000000000 : Int) < y := m0.1
          have n2 : y < 1000000000 := m0.2
          have yy : (y == y) = true := by simp
          go_wp2_with fail
          refine (SF.out _).mono ?_
          rintro e w14 ⟨rfl, b14⟩
          have BZ := B13.trans (b14.mono B13.size)
          go_wp2
          go_ret
          exact ⟨rfl, BZ⟩
        · rw [m2]
          by_cases n1 : (-1000000000 : Int) < y
          · have n2 : ¬ y < 1000000000 := fun h => m0 ⟨n1, h⟩
            have n3 : decide (y < 1000000000) = false := by simpa using n2
            go_wp2_with fail
            refine (SF.out _).mono ?_
            rintro e w14 ⟨rfl, b14⟩
            have BZ := B13.trans (b14.mono B13.size)
            go_wp2
            go_ret
            exact ⟨rfl, BZ⟩
          · go_wp2_with fail
            refine (SF.out _).mono ?_
            rintro e w14 ⟨rfl, b14⟩
            have BZ := B13.trans (b14.mono B13.size)
            go_wp2
            go_ret
            exact ⟨rfl, BZ⟩
  · have z1 := emp_no h0
    have z2 := emp_no2 h0
    have hrr := P.DV_one HR.out h4
    subst hrr
    have hxx : ((x.toNat : Nat) : Int) = x := by omega
    simp only [hxx]
    have xq : (x != x) = false := by simp
    have sq : ((s.size : Int) != (s.size : Int)) = false := by simp
    clear h0 h4 EV HR
    go_wp2_with fail
    refine (drawEF _ (HS.out.on RB.keeps B5) hn).mono ?_
    rintro e w6 ⟨y, wd, rfl, fy, wd0, wd1, b6⟩
    have B6 := B5.trans (b6.mono B5.size)
    clear b6 B5
    go_wp2_with fail
    refine (implEncodeFixed y wd fy.2 _).mono ?_
    rintro e w7 ⟨rfl, b7⟩
    have B7 := B6.trans (b7.mono B6.size)
    clear b7 B6
    have EF := Lib.hid (ef_law y wd t)
    obtain ⟨f, hf⟩ : ∃ f, efS y wd = f := ⟨_, rfl⟩
    have HF := Lib.hid hf
    have hfz : f.size ≤ 7 := by
      rw [← hf]
      rcases EF.out with h | ⟨_, _, _, _, h⟩
      · rw [h]; exact Nat.zero_le _
      · exact h
    rw [hf] at EF
    rw [hf]
    have hft : (f ++ t).size ≤ maxLen := by rw [ByteArray.size_append]; unfold maxLen; omega
    have hfm : f.size + t.size ≤ 9223372036854775807 := by omega
    clear hf
    go_wp2_with fail
    refine (implDecodeFixed (f ++ t) wd _ hft).mono ?_
    rintro e w8 ⟨rfl, b8⟩
    have B8 := B7.trans (b8.mono B7.size)
    clear b8 B7
    rcases EF.out with k0 | ⟨k0, k1, k2, k3, _⟩
    · have z1 := emp_yes k0
      have z2 := emp_yes2 k0
      clear k0 EF
      go_wp2_with fail
      refine (specEncodeFixed y wd fy.2 _).mono ?_
      rintro e w9 ⟨rfl, b9⟩
      have B9 := B8.trans (b9.mono B8.size)
      clear b9 B8
      rw [HF.out]
      go_wp2_with fail
      refine (implEncodeHex t (by omega) _).mono ?_
      rintro e w10 ⟨rfl, b10⟩
      have B10 := B9.trans (b10.mono B9.size)
      clear b10 B9
      obtain ⟨HX, HZ⟩ := hex_law t
      obtain ⟨d, hd⟩ : ∃ d, strOfNums (P.enc t.data.toList) = d := ⟨_, rfl⟩
      rw [hd] at HX HZ
      rw [hd]
      clear hd
      go_wp2_with fail
      refine (implDecodeHex d (by omega) _).mono ?_
      rintro e w11 ⟨rfl, b11⟩
      rw [HX]
      have B11 := B10.trans (b11.mono B10.size)
      clear b11 B10 HX
      have hzz : (d.size : Int) = 2 * (t.size : Int) := by omega
      go_wp2_with fail
      refine (implFormatInt y fy _).mono ?_
      rintro e w12 ⟨rfl, b12⟩
      have B12 := B11.trans (b12.mono B11.size)
      clear b12 B11
      have PL := Lib.hid (pi_law y)
      have hgs : (fmtS y).size ≤ maxLen := by
        unfold fmtS
        rw [strOfNums_size]
        have := P.fmtL_len fy.1 fy.2
        unfold maxLen; omega
      have SF : Hid (∀ w : World, Calls Try.prog 24 #[.int .i64 y] w fun e w' => e = .returned (.string (fmtS y)) ∧ Below w.heap.size w w') := fun w => specFormatInt y fy w
      obtain ⟨g, hg⟩ : ∃ g, fmtS y = g := ⟨_, rfl⟩
      rw [hg] at PL hgs SF
      rw [hg]
      clear hg
      go_wp2_with fail
      refine (implParseInt g hgs _).mono ?_
      rintro e w13 ⟨rfl, b13⟩
      have B13 := B12.trans (b13.mono B12.size)
      clear b13 B12
      have tt : (t.toList == t.toList) = true := by simp
      have gg : (g.toList == g.toList) = true := by simp
      rcases PL.out with ⟨m0, m1, m2⟩ | ⟨m0, m2⟩
      · rw [m1, m2]
        have n1 : (-1000000000 : Int) < y := m0.1
        have n2 : y < 1000000000 := m0.2
        have yy : (y == y) = true := by simp
        go_wp2_with fail
        refine (SF.out _).mono ?_
        rintro e w14 ⟨rfl, b14⟩
        have BZ := B13.trans (b14.mono B13.size)
        go_wp2
        go_ret
        exact ⟨rfl, BZ⟩
      · rw [m2]
        by_cases n1 : (-1000000000 : Int) < y
        · have n2 : ¬ y < 1000000000 := fun h => m0 ⟨n1, h⟩
          have n3 : decide (y < 1000000000) = false := by simpa using n2
          go_wp2_with fail
          refine (SF.out _).mono ?_
          rintro e w14 ⟨rfl, b14⟩
          have BZ := B13.trans (b14.mono B13.size)
          go_wp2
          go_ret
          exact ⟨rfl, BZ⟩
        · go_wp2_with fail
          refine (SF.out _).mono ?_
          rintro e w14 ⟨rfl, b14⟩
          have BZ := B13.trans (b14.mono B13.size)
          go_wp2
          go_ret
          exact ⟨rfl, BZ⟩
    · have z1 := emp_no k0
      have z2 := emp_no2 k0
      rw [k1, k2]
      have yq : (y != y) = false := by simp
      have zq : ((f.size : Int) != wd) = false := by simp [k3]
      clear k0 k1 k2 EF
      go_wp2_with fail
      refine (specEncodeFixed y wd fy.2 _).mono ?_
      rintro e w9 ⟨rfl, b9⟩
      have B9 := B8.trans (b9.mono B8.size)
      clear b9 B8
      rw [HF.out]
      go_wp2_with fail
      refine (implEncodeHex t (by omega) _).mono ?_
      rintro e w10 ⟨rfl, b10⟩
      have B10 := B9.trans (b10.mono B9.size)
      clear b10 B9
      obtain ⟨HX, HZ⟩ := hex_law t
      obtain ⟨d, hd⟩ : ∃ d, strOfNums (P.enc t.data.toList) = d := ⟨_, rfl⟩
      rw [hd] at HX HZ
      rw [hd]
      clear hd
      go_wp2_with fail
      refine (implDecodeHex d (by omega) _).mono ?_
      rintro e w11 ⟨rfl, b11⟩
      rw [HX]
      have B11 := B10.trans (b11.mono B10.size)
      clear b11 B10 HX
      have hzz : (d.size : Int) = 2 * (t.size : Int) := by omega
      go_wp2_with fail
      refine (implFormatInt y fy _).mono ?_
      rintro e w12 ⟨rfl, b12⟩
      have B12 := B11.trans (b12.mono B11.size)
      clear b12 B11
      have PL := Lib.hid (pi_law y)
      have hgs : (fmtS y).size ≤ maxLen := by
        unfold fmtS
        rw [strOfNums_size]
        have := P.fmtL_len fy.1 fy.2
        unfold maxLen; omega
      have SF : Hid (∀ w : World, Calls Try.prog 24 #[.int .i64 y] w fun e w' => e = .returned (.string (fmtS y)) ∧ Below w.heap.size w w') := fun w => specFormatInt y fy w
      obtain ⟨g, hg⟩ : ∃ g, fmtS y = g := ⟨_, rfl⟩
      rw [hg] at PL hgs SF
      rw [hg]
      clear hg
      go_wp2_with fail
      refine (implParseInt g hgs _).mono ?_
      rintro e w13 ⟨rfl, b13⟩
      have B13 := B12.trans (b13.mono B12.size)
      clear b13 B12
      have tt : (t.toList == t.toList) = true := by simp
      have gg : (g.toList == g.toList) = true := by simp
      rcases PL.out with ⟨m0, m1, m2⟩ | ⟨m0, m2⟩
      · rw [m1, m2]
        have n1 : (-1000000000 : Int) < y := m0.1
        have n2 : y < 1000000000 := m0.2
        have yy : (y == y) = true := by simp
        go_wp2_with fail
        refine (SF.out _).mono ?_
        rintro e w14 ⟨rfl, b14⟩
        have BZ := B13.trans (b14.mono B13.size)
        go_wp2
        go_ret
        exact ⟨rfl, BZ⟩
      · rw [m2]
        by_cases n1 : (-1000000000 : Int) < y
        · have n2 : ¬ y < 1000000000 := fun h => m0 ⟨n1, h⟩
          have n3 : decide (y < 1000000000) = false := by simpa using n2
          go_wp2_with fail
          refine (SF.out _).mono ?_
          rintro e w14 ⟨rfl, b14⟩
          have BZ := B13.trans (b14.mono B13.size)
          go_wp2
          go_ret
          exact ⟨rfl, BZ⟩
        · go_wp2_with fail
          refine (SF.out _).mono ?_
          rintro e w14 ⟨rfl, b14⟩
          have BZ := B13.trans (b14.mono B13.size)
          go_wp2
          go_ret
          exact ⟨rfl, BZ⟩
end Go.Proofs.Ytapehlgafalkjaa.Wk
