/-
  Walks of chapter 4: FormatWish of the program.
  Conditions: none beyond the bounds that each states.
-/
import Derived.Test.YtgjghpaenliliaaW45
import Derived.Deep.RegionWith
import Derived.Deep.CutRange
namespace Go.Proofs.Ytgjghpaenliliaa.Wk
open Go.RowKit Go.Proofs.Ytgjghpaenliliaa.M
set_option linter.unusedVariables false
attribute [local go_sem] cell_grow

/-- A kind's word. -/
def kindW (k : Int) : ByteArray := if k = 0 then ⟨#[108, 111, 119]⟩ else if k = 1 then ⟨#[104, 105, 103, 104]⟩ else if k = 2 then ⟨#[110, 101, 97, 114]⟩ else if k = 3 then ⟨#[97, 109, 111, 110, 103]⟩ else ⟨#[111, 114, 100, 101, 114]⟩
theorem kindW_size (k : Int) : (kindW k).size ≤ 5 := by
  unfold kindW
  repeat' split
  all_goals decide
theorem kindW_at {k : Int} (h0 : 0 ≤ k) (h4 : k ≤ 4) : (#[Value.string ⟨#[108, 111, 119]⟩, .string ⟨#[104, 105, 103, 104]⟩, .string ⟨#[110, 101, 97, 114]⟩, .string ⟨#[97, 109, 111, 110, 103]⟩, .string ⟨#[111, 114, 100, 101, 114]⟩] : Array Value)[k.toNat]? = some (.string (kindW k)) := by
  rcases (by omega : k = 0 ∨ k = 1 ∨ k = 2 ∨ k = 3 ∨ k = 4) with rfl | rfl | rfl | rfl | rfl <;> rfl
theorem wishS_eq {x : Wi} (h : P.okW x = true) : wishS x = kindW x.kind ++ ⟨#[32, 102]⟩ ++ fmtS x.field ++ (if x.kind = 0 then ⟨#[]⟩ else if x.kind = 1 then ⟨#[]⟩ else if x.kind = 2 then ⟨#[32]⟩ ++ fmtS x.value else if x.kind = 3 then ⟨#[32]⟩ ++ numsS ⟨#[44]⟩ x.list else ⟨#[32]⟩ ++ pairsS x.pairs) := by
  unfold wishS kindW
  rw [h, if_pos rfl]
  repeat' split
  all_goals first | rfl | (simp only [asc3]; done) | (exact (ByteArray.append_empty).symm) | omega
set_option maxHeartbeats 6400000 in
set_option maxRecDepth 100000 in
theorem implFormatWish {A E : Option Addr} {n c m d : Nat} {x : Wi} (w : World) (h : Sl RI 1 w w.heap.size A n c x.list) (g : Sl RP 2 w w.heap.size E m d x.pairs) (f1 : Fit x.kind) (f2 : Fit x.field) (f3 : Fit x.value) :
    Calls Try.prog 29 #[.agg #[.int .i64 x.kind, .int .i64 x.field, .int .i64 x.value, .slice A n c, .slice E m d]] w fun e w' => e = .returned (.string (wishS x)) ∧ Below w.heap.size w w' := by
  obtain ⟨kind, field, value, list, pairs⟩ := x
  simp only at h g f1 f2 f3 ⊢
  have BW := (Below.refl w.heap.size w).alloc (Nat.le_refl _) (.cells #[.int .i64 kind, .int .i64 field, .int .i64 value, .slice A n c, .slice E m d] 53)
  have H := Lib.hid (h.on RI.keeps BW)
  have G := Lib.hid (g.on RP.keeps BW)
  have HF := Lib.hid (V.fit ⟨A, n, c, rfl, h⟩)
  have HG := Lib.hid (fitPairs g)
  have HL := Lib.hid h.len
  have hsz := BW.size
  have ww0 : w.heap.size < (w.alloc (.cells #[.int .i64 kind, .int .i64 field, .int .i64 value, .slice A n c, .slice E m d] 53)).heap.size := by simp
  clear h g
  cases hok : P.okW ⟨kind, field, value, list, pairs⟩ with
  | false =>
    have HE : Hid (wishS ⟨kind, field, value, list, pairs⟩ = ⟨#[]⟩) := by show _ = _; unfold wishS; rw [hok]; rfl
    go_enter Try.func29, Try.ntmps29
    go_wp2_with (go_at_call 63; refine (implIsWish (x := ⟨kind, field, value, list, pairs⟩) _ H.out G.out).mono ?_; rintro e w2 ⟨rfl, b2⟩; rw [hok])
    go_ret
    exact ⟨ret_str HE.out.symm, BW.trans (b2.mono hsz)⟩
  | true =>
    obtain ⟨kk0, kk4⟩ := P.okW_kind hok
    have hn10 : n ≤ 1048576 := by have h1 : list.length ≤ 10 := P.okW_listlen hok; have h2 : list.length = n := HL.out; omega
    have s1 := fmtS_size f2
    have s2 := fmtS_size f3
    have s3 := numsS_size (t := ⟨#[44]⟩) (by decide) HF.out
    have hl10 := P.okW_listlen hok
    simp only at kk0 kk4 hl10
    have s4 := pairsS_size HG.out
    have s5 : (numsS ⟨#[44]⟩ list).size ≤ 50000 := by omega
    have s6 : (⟨#[32, 102]⟩ : ByteArray).size = 2 := rfl
    have s7 : (⟨#[32]⟩ : ByteArray).size = 1 := rfl
    have s8 := kindW_size kind
    have kk5 : kind < 5 := by omega
    have hlit := kindW_at kk0 kk4
    have hlit2 := hlit
    rw [List.getElem?_toArray] at hlit2
    have hlit3 : ∀ hh, ([Value.string ⟨#[108, 111, 119]⟩, .string ⟨#[104, 105, 103, 104]⟩, .string ⟨#[110, 101, 97, 114]⟩, .string ⟨#[97, 109, 111, 110, 103]⟩, .string ⟨#[111, 114, 100, 101, 114]⟩] : List Value)[kind.toNat]'hh = .string (kindW kind) := fun hh => by
      rw [List.getElem?_eq_getElem hh] at hlit2
      exact Option.some.inj hlit2
    have HE := Lib.hid (wishS_eq hok)
    clear s3 hl10
    go_enter Try.func29, Try.ntmps29
    go_wp2_with fail
    refine (implIsWish (x := ⟨kind, field, value, list, pairs⟩) _ H.out G.out).mono ?_
    rintro e w2 ⟨rfl, b2⟩
    rw [hok]
    clear hok
    have hC2 := cell_of b2
    have z0 : w.heap.size < w2.heap.size := Nat.lt_of_lt_of_le ww0 b2.size
    have z0p : w.heap.size < w2.heap.size + 1 := by omega
    have B2 := BW.trans (b2.mono hsz)
    have H2 := Lib.hid (H.out.on RI.keeps b2)
    have G2 := Lib.hid (G.out.on RP.keeps b2)
    go_wp2_with fail
    go_cut [3] from 7 to 16 (fun v3 wx => v3 = .string (kindW kind ++ ⟨#[32, 102]⟩ ++ fmtS field) ∧ Below w2.heap.size w2 wx)
    case first =>
      clear HE
      go_region_with (go_at_call 65; with_reducible (refine (implFormatInt _ f2 _).mono ?_); rintro e w8 ⟨rfl, hb8⟩; have hC8 := cell_of hb8; have hc80 := hC8 w.heap.size 0 (by first | exact z0 | exact z0p | (simp; omega)); have hc81 := hC8 w.heap.size 1 (by first | exact z0 | exact z0p | (simp; omega)); have hz8 : w.heap.size < w8.heap.size := Nat.lt_of_lt_of_le (by first | exact z0 | exact z0p | (simp; omega)) hb8.size)
      all_goals
        go_wp2_with fail
        go_meet
      all_goals
        refine ⟨rfl, ?_⟩
        first
          | exact ((Below.refl w2.heap.size w2).alloc (Nat.le_refl _) _).drew.trans (hb8.mono (by simp))
          | exact ((Below.refl w2.heap.size w2).drew.trans (hb8.mono (Nat.le_refl _))).alloc hb8.size _
          | exact (((Below.refl w2.heap.size w2).drew.trans (hb8.mono (Nat.le_refl _))).alloc hb8.size _).drew
    case rest =>
      obtain ⟨rfl, b3⟩ := hcut
      have hC3 := cell_of b3
      have z1 : w.heap.size < wc.heap.size := Nat.lt_of_lt_of_le z0 b3.size
      have B3 := B2.trans (b3.mono B2.size)
      have H3 := Lib.hid (H2.out.on RI.keeps b3)
      have G3 := Lib.hid (G2.out.on RP.keeps b3)
      clear hlit hlit2 hlit3
      by_cases k0 : kind = 0
      · subst k0
        go_wp2_with fail
        go_ret
        exact ⟨ret_str (by rw [HE.out]; simp; exact ByteArray.append_empty.symm), B3⟩
      · by_cases k1 : kind = 1
        · subst k1
          go_wp2_with fail
          go_ret
          exact ⟨ret_str (by rw [HE.out]; simp; exact ByteArray.append_empty.symm), B3⟩
        · by_cases k2 : kind = 2
          · subst k2
            go_wp2_with (go_at_call 65; refine (implFormatInt value f3 _).mono ?_; rintro e w4 ⟨rfl, b4⟩)
            go_ret
            exact ⟨ret_str (by rw [HE.out]; simp [asc3]), B3.trans (b4.mono B3.size)⟩
          · by_cases k3 : kind = 3
            · subst k3
              go_wp2_with (go_at_call 66; refine (numbers _ H3.out hn10 (by decide)).mono ?_; rintro e w4 ⟨rfl, b4⟩)
              go_ret
              exact ⟨ret_str (by rw [HE.out]; simp [asc3]), B3.trans (b4.mono B3.size)⟩
            · obtain rfl : kind = 4 := by omega
              go_wp2_with (go_at_call 67; refine (implFormatPairs _ G3.out).mono ?_; rintro e w4 ⟨rfl, b4⟩)
              go_ret
              exact ⟨ret_str (by rw [HE.out]; simp [asc3]), B3.trans (b4.mono B3.size)⟩
end Go.Proofs.Ytgjghpaenliliaa.Wk
