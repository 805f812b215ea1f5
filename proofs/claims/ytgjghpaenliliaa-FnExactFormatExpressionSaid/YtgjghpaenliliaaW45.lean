/-
  Walks of chapter 4: FormatWish.
  Conditions: none beyond the bounds that each states.
-/
import Derived.Test.YtgjghpaenliliaaW43
import Derived.Test.YtgjghpaenliliaaW34
import Derived.Test.YtgjghpaenliliaaW20
import Derived.Deep.RegionHeld3
namespace Go.Proofs.Ytgjghpaenliliaa.Wk
open Go.RowKit Go.Proofs.Ytgjghpaenliliaa.M
set_option linter.unusedVariables false
attribute [local go_sem] cell_grow

/-- What FormatWish writes. -/
noncomputable def wishS (x : Wi) : ByteArray :=
  if P.okW x then
    (if x.kind = 0 then ⟨#[108, 111, 119]⟩ ++ ⟨#[32, 102]⟩ ++ fmtS x.field
    else if x.kind = 1 then ⟨#[104, 105, 103, 104]⟩ ++ ⟨#[32, 102]⟩ ++ fmtS x.field
    else if x.kind = 2 then ⟨#[110, 101, 97, 114]⟩ ++ ⟨#[32, 102]⟩ ++ fmtS x.field ++ ⟨#[32]⟩ ++ fmtS x.value
    else if x.kind = 3 then ⟨#[97, 109, 111, 110, 103]⟩ ++ ⟨#[32, 102]⟩ ++ fmtS x.field ++ ⟨#[32]⟩ ++ numsS ⟨#[44]⟩ x.list
    else ⟨#[111, 114, 100, 101, 114]⟩ ++ ⟨#[32, 102]⟩ ++ fmtS x.field ++ ⟨#[32]⟩ ++ pairsS x.pairs)
  else ⟨#[]⟩
theorem pairsS_size {l : List (Int × Int)} (h : ∀ p ∈ l, Fit p.1 ∧ Fit p.2) : (pairsS l).size ≤ 40000 := by
  unfold pairsS
  split
  · rename_i hok
    split
    · decide
    · have := P.glueTo_size (b := ⟨#[44]⟩) (by decide) (pairS_all h) (l.map pairS).length
      unfold P.glue
      rw [List.length_map] at this ⊢
      have := P.okP_len hok
      omega
  · decide
theorem asc3 (a b c : ByteArray) : a ++ (b ++ c) = a ++ b ++ c := (ByteArray.append_assoc).symm
set_option maxHeartbeats 3200000 in
set_option maxRecDepth 100000 in
theorem specFormatWish {A E : Option Addr} {n c m d : Nat} {x : Wi} (w : World) (h : Sl RI 1 w w.heap.size A n c x.list) (g : Sl RP 2 w w.heap.size E m d x.pairs) (f1 : Fit x.kind) (f2 : Fit x.field) (f3 : Fit x.value) :
    Calls Try.prog 25 #[.agg #[.int .i64 x.kind, .int .i64 x.field, .int .i64 x.value, .slice A n c, .slice E m d]] w fun e w' => e = .returned (.string (wishS x)) ∧ Below w.heap.size w w' := by
  obtain ⟨kind, field, value, list, pairs⟩ := x
  simp only at h g f1 f2 f3 ⊢
  have BW := (Below.refl w.heap.size w).alloc (Nat.le_refl _) (.cells #[.int .i64 kind, .int .i64 field, .int .i64 value, .slice A n c, .slice E m d] 53)
  have H := Lib.hid (h.on RI.keeps BW)
  have G := Lib.hid (g.on RP.keeps BW)
  have HF := Lib.hid (V.fit ⟨A, n, c, rfl, h⟩)
  have HG := Lib.hid (fitPairs g)
  have HL := Lib.hid h.len
  have hsz := BW.size
  have ww0 : w.heap.size < (w.alloc (.cells #[.int .i64 kind, .int .i64 field, .int .i64 value, .slice A n c, .slice E m d] 53)).heap.size := by simp
  clear h g
  cases hok : P.okW ⟨kind, field, value, list, pairs⟩ with
  | false =>
    have HE : Hid (wishS ⟨kind, field, value, list, pairs⟩ = ⟨#[]⟩) := by show _ = _; unfold wishS; rw [hok]; rfl
    go_enter Try.func25, Try.ntmps25
    go_wp2_with (go_at_call 56; refine (specIsWish (x := ⟨kind, field, value, list, pairs⟩) _ H.out G.out).mono ?_; rintro e w2 ⟨rfl, b2⟩; rw [hok])
    go_ret
    exact ⟨ret_str HE.out.symm, BW.trans (b2.mono hsz)⟩
  | true =>
    obtain ⟨kk0, kk4⟩ := P.okW_kind hok
    have hn10 : n ≤ 1048576 := by have h1 : list.length ≤ 10 := P.okW_listlen hok; have h2 : list.length = n := HL.out; omega
    have s1 := fmtS_size f2
    have s2 := fmtS_size f3
    have s3 := numsS_size (t := ⟨#[44]⟩) (by decide) HF.out
    have hl10 := P.okW_listlen hok
    simp only at kk0 kk4 hl10
    have s4 := pairsS_size HG.out
    have s5 : (numsS ⟨#[44]⟩ list).size ≤ 50000 := by omega
    have s6 : (⟨#[32, 102]⟩ : ByteArray).size = 2 := rfl
    have s7 : (⟨#[32]⟩ : ByteArray).size = 1 := rfl
    clear s3 hl10
    by_cases k0 : kind = 0
    · subst k0
      have HE : Hid (wishS ⟨0, field, value, list, pairs⟩ = ⟨#[108, 111, 119]⟩ ++ ⟨#[32, 102]⟩ ++ fmtS field) := by
        show _ = _
        unfold wishS
        rw [hok, if_pos rfl, if_pos (show (0 : Int) = 0 from rfl)]
      have s8 : (⟨#[108, 111, 119]⟩ : ByteArray).size = 3 := rfl
      go_enter Try.func25, Try.ntmps25
      go_wp2_with fail
      refine (specIsWish (x := ⟨0, field, value, list, pairs⟩) _ H.out G.out).mono ?_
      rintro e w2 ⟨rfl, b2⟩
      rw [hok]
      clear hok
      have hC2 := cell_of b2
      have z0 : w.heap.size < w2.heap.size := Nat.lt_of_lt_of_le ww0 b2.size
      have B2 := BW.trans (b2.mono hsz)
      have H2 := Lib.hid (H.out.on RI.keeps b2)
      have G2 := Lib.hid (G.out.on RP.keeps b2)
      go_wp2_with fail
      refine (specFormatInt field f2 _).mono ?_
      rintro e w3 ⟨rfl, b3⟩
      have hC3 := cell_of b3
      have z1 : w.heap.size < w3.heap.size := Nat.lt_of_lt_of_le z0 b3.size
      have B3 := B2.trans (b3.mono B2.size)
      have H3 := Lib.hid (H2.out.on RI.keeps b3)
      have G3 := Lib.hid (G2.out.on RP.keeps b3)
      go_wp2_with fail
      go_ret
      exact ⟨ret_str (by rw [HE.out]; simp only [asc3]), B3⟩
    · by_cases k1 : kind = 1
      · subst k1
        have HE : Hid (wishS ⟨1, field, value, list, pairs⟩ = ⟨#[104, 105, 103, 104]⟩ ++ ⟨#[32, 102]⟩ ++ fmtS field) := by
          show _ = _
          unfold wishS
          rw [hok, if_pos rfl, if_neg (show ¬ (1 : Int) = 0 by decide), if_pos (show (1 : Int) = 1 from rfl)]
        have s8 : (⟨#[104, 105, 103, 104]⟩ : ByteArray).size = 4 := rfl
        go_enter Try.func25, Try.ntmps25
        go_wp2_with fail
        refine (specIsWish (x := ⟨1, field, value, list, pairs⟩) _ H.out G.out).mono ?_
        rintro e w2 ⟨rfl, b2⟩
        rw [hok]
        clear hok
        have hC2 := cell_of b2
        have z0 : w.heap.size < w2.heap.size := Nat.lt_of_lt_of_le ww0 b2.size
        have B2 := BW.trans (b2.mono hsz)
        have H2 := Lib.hid (H.out.on RI.keeps b2)
        have G2 := Lib.hid (G.out.on RP.keeps b2)
        go_wp2_with fail
        refine (specFormatInt field f2 _).mono ?_
        rintro e w3 ⟨rfl, b3⟩
        have hC3 := cell_of b3
        have z1 : w.heap.size < w3.heap.size := Nat.lt_of_lt_of_le z0 b3.size
        have B3 := B2.trans (b3.mono B2.size)
        have H3 := Lib.hid (H2.out.on RI.keeps b3)
        have G3 := Lib.hid (G2.out.on RP.keeps b3)
        go_wp2_with fail
        go_ret
        exact ⟨ret_str (by rw [HE.out]; simp only [asc3]), B3⟩
      · by_cases k2 : kind = 2
        · subst k2
          have HE : Hid (wishS ⟨2, field, value, list, pairs⟩ = ⟨#[110, 101, 97, 114]⟩ ++ ⟨#[32, 102]⟩ ++ fmtS field ++ ⟨#[32]⟩ ++ fmtS value) := by
            show _ = _
            unfold wishS
            rw [hok, if_pos rfl, if_neg (show ¬ (2 : Int) = 0 by decide), if_neg (show ¬ (2 : Int) = 1 by decide), if_pos (show (2 : Int) = 2 from rfl)]
          have s8 : (⟨#[110, 101, 97, 114]⟩ : ByteArray).size = 4 := rfl
          go_enter Try.func25, Try.ntmps25
          go_wp2_with fail
          refine (specIsWish (x := ⟨2, field, value, list, pairs⟩) _ H.out G.out).mono ?_
          rintro e w2 ⟨rfl, b2⟩
          rw [hok]
          clear hok
          have hC2 := cell_of b2
          have z0 : w.heap.size < w2.heap.size := Nat.lt_of_lt_of_le ww0 b2.size
          have B2 := BW.trans (b2.mono hsz)
          have H2 := Lib.hid (H.out.on RI.keeps b2)
          have G2 := Lib.hid (G.out.on RP.keeps b2)
          go_wp2_with fail
          refine (specFormatInt field f2 _).mono ?_
          rintro e w3 ⟨rfl, b3⟩
          have hC3 := cell_of b3
          have z1 : w.heap.size < w3.heap.size := Nat.lt_of_lt_of_le z0 b3.size
          have B3 := B2.trans (b3.mono B2.size)
          have H3 := Lib.hid (H2.out.on RI.keeps b3)
          have G3 := Lib.hid (G2.out.on RP.keeps b3)
          go_wp2_with (go_at_call 58; refine (specFormatInt value f3 _).mono ?_; rintro e w4 ⟨rfl, b4⟩)
          go_ret
          exact ⟨ret_str (by rw [HE.out]; simp only [asc3]), B3.trans (b4.mono B3.size)⟩
        · by_cases k3 : kind = 3
          · subst k3
            have HE : Hid (wishS ⟨3, field, value, list, pairs⟩ = ⟨#[97, 109, 111, 110, 103]⟩ ++ ⟨#[32, 102]⟩ ++ fmtS field ++ ⟨#[32]⟩ ++ numsS ⟨#[44]⟩ list) := by
              show _ = _
              unfold wishS
              rw [hok, if_pos rfl, if_neg (show ¬ (3 : Int) = 0 by decide), if_neg (show ¬ (3 : Int) = 1 by decide), if_neg (show ¬ (3 : Int) = 2 by decide), if_pos (show (3 : Int) = 3 from rfl)]
            have s8 : (⟨#[97, 109, 111, 110, 103]⟩ : ByteArray).size = 5 := rfl
            go_enter Try.func25, Try.ntmps25
            go_wp2_with fail
            refine (specIsWish (x := ⟨3, field, value, list, pairs⟩) _ H.out G.out).mono ?_
            rintro e w2 ⟨rfl, b2⟩
            rw [hok]
            clear hok
            have hC2 := cell_of b2
            have z0 : w.heap.size < w2.heap.size := Nat.lt_of_lt_of_le ww0 b2.size
            have B2 := BW.trans (b2.mono hsz)
            have H2 := Lib.hid (H.out.on RI.keeps b2)
            have G2 := Lib.hid (G.out.on RP.keeps b2)
            go_wp2_with fail
            refine (specFormatInt field f2 _).mono ?_
            rintro e w3 ⟨rfl, b3⟩
            have hC3 := cell_of b3
            have z1 : w.heap.size < w3.heap.size := Nat.lt_of_lt_of_le z0 b3.size
            have B3 := B2.trans (b3.mono B2.size)
            have H3 := Lib.hid (H2.out.on RI.keeps b3)
            have G3 := Lib.hid (G2.out.on RP.keeps b3)
            go_wp2_with (go_at_call 59; refine (l2List _ H3.out hn10).mono ?_; rintro e w4 ⟨rfl, b4⟩)
            go_ret
            exact ⟨ret_str (by rw [HE.out]; simp only [asc3]), B3.trans (b4.mono B3.size)⟩
          · obtain rfl : kind = 4 := by omega
            have HE : Hid (wishS ⟨4, field, value, list, pairs⟩ = ⟨#[111, 114, 100, 101, 114]⟩ ++ ⟨#[32, 102]⟩ ++ fmtS field ++ ⟨#[32]⟩ ++ pairsS pairs) := by
              show _ = _
              unfold wishS
              rw [hok, if_pos rfl, if_neg (show ¬ (4 : Int) = 0 by decide), if_neg (show ¬ (4 : Int) = 1 by decide), if_neg (show ¬ (4 : Int) = 2 by decide), if_neg (show ¬ (4 : Int) = 3 by decide)]
            have s8 : (⟨#[111, 114, 100, 101, 114]⟩ : ByteArray).size = 5 := rfl
            go_enter Try.func25, Try.ntmps25
            go_wp2_with fail
            refine (specIsWish (x := ⟨4, field, value, list, pairs⟩) _ H.out G.out).mono ?_
            rintro e w2 ⟨rfl, b2⟩
            rw [hok]
            clear hok
            have hC2 := cell_of b2
            have z0 : w.heap.size < w2.heap.size := Nat.lt_of_lt_of_le ww0 b2.size
            have B2 := BW.trans (b2.mono hsz)
            have H2 := Lib.hid (H.out.on RI.keeps b2)
            have G2 := Lib.hid (G.out.on RP.keeps b2)
            go_wp2_with fail
            refine (specFormatInt field f2 _).mono ?_
            rintro e w3 ⟨rfl, b3⟩
            have hC3 := cell_of b3
            have z1 : w.heap.size < w3.heap.size := Nat.lt_of_lt_of_le z0 b3.size
            have B3 := B2.trans (b3.mono B2.size)
            have H3 := Lib.hid (H2.out.on RI.keeps b3)
            have G3 := Lib.hid (G2.out.on RP.keeps b3)
            go_wp2_with (go_at_call 60; refine (specFormatPairs _ G3.out).mono ?_; rintro e w4 ⟨rfl, b4⟩)
            go_ret
            exact ⟨ret_str (by rw [HE.out]; simp only [asc3]), B3.trans (b4.mono B3.size)⟩
end Go.Proofs.Ytgjghpaenliliaa.Wk
