/-
  Walks of chapter 3: FormatPairs.
  Conditions: none beyond the bounds that each states.
-/
import Derived.Test.YtgjghpaenliliaaW31
import Derived.Test.YtgjghpaenliliaaW32
import Derived.Test.YtgjghpaenliliaaU2
namespace Go.Proofs.Ytgjghpaenliliaa.Wk
open Go.RowKit Go.Proofs.Ytgjghpaenliliaa.M
set_option linter.unusedVariables false
attribute [local go_sem] cell_grow

/-- A pair as a text. -/
def pairS (p : Int × Int) : ByteArray := fmtS p.1 ++ ⟨#[62]⟩ ++ fmtS p.2
theorem pairS_size {p : Int × Int} (h : Fit p.1 ∧ Fit p.2) : (pairS p).size ≤ 41 := by
  have h1 := fmtS_size h.1
  have h2 := fmtS_size h.2
  have h3 : (⟨#[62]⟩ : ByteArray).size = 1 := rfl
  unfold pairS
  simp only [ByteArray.size_append]; omega
theorem pairS_all {l : List (Int × Int)} (h : ∀ p ∈ l, Fit p.1 ∧ Fit p.2) : ∀ t ∈ l.map pairS, t.size ≤ 4096 := by
  intro t ht
  obtain ⟨p, hp, rfl⟩ := List.mem_map.1 ht
  have := pairS_size (h p hp); omega
/-- What FormatPairs writes. -/
noncomputable def pairsS (l : List (Int × Int)) : ByteArray := if P.okP l then (if l = [] then ⟨#[110, 111, 110, 101]⟩ else P.glue ⟨#[44]⟩ (l.map pairS)) else ⟨#[]⟩
set_option maxHeartbeats 1600000 in
set_option maxRecDepth 100000 in
theorem implFormatPairs {A : Option Addr} {n c : Nat} {l : List (Int × Int)} (w : World) (h : Sl RP 2 w w.heap.size A n c l) : Calls Try.prog 67 #[.slice A n c] w fun e w' => e = .returned (.string (pairsS l)) ∧ Below w.heap.size w w' := by
  have HL := Lib.hid h.len
  obtain ⟨i0, hi, hz0, hz1, hz2⟩ := info_parts info_str
  cases hok : P.okP l with
  | false =>
    have HE : Hid (pairsS l = ⟨#[]⟩) := by show _ = _; unfold pairsS; rw [hok]; rfl
    go_enter Try.func67, Try.ntmps67
    go_wp2_with (go_at_call 89; refine (implArePairs _ h).mono ?_; rintro e w2 ⟨rfl, hb2⟩; rw [hok])
    go_ret
    exact ⟨ret_str HE.out.symm, hb2⟩
  | true =>
    by_cases h0 : n = 0
    · have HE : Hid (pairsS l = ⟨#[110, 111, 110, 101]⟩) := by
        show _ = _
        have : l = [] := List.eq_nil_of_length_eq_zero (by rw [HL.out, h0])
        unfold pairsS; rw [hok, if_pos rfl, if_pos this]
      have q : ((n : Int) == 0) = true := by simp [h0]
      clear h0
      go_enter Try.func67, Try.ntmps67
      go_wp2_with (go_at_call 89; refine (implArePairs _ h).mono ?_; rintro e w2 ⟨rfl, hb2⟩; rw [hok])
      go_ret
      exact ⟨ret_str HE.out.symm, hb2⟩
    · have HE : Hid (pairsS l = P.glue ⟨#[44]⟩ (l.map pairS)) := by
        show _ = _
        have : l ≠ [] := by rintro rfl; exact h0 HL.out.symm
        unfold pairsS; rw [hok, if_pos rfl, if_neg this]
      have q : ((n : Int) == 0) = false := by simp; omega
      have hn8 : n ≤ 8 := by have := P.okP_len hok; have := HL.out; omega
      have HF := Lib.hid (pairS_all (fitPairs h))
      have HF2 := Lib.hid (fitPairs h)
      clear h0
      go_enter Try.func67, Try.ntmps67
      go_wp2_with fail
      refine (implArePairs _ h).mono ?_
      rintro e w2 ⟨rfl, hb2⟩
      rw [hok]
      go_wp2
      go_loopw [3, 5, 15] (fun vo va vk wr => ∃ k : Nat, k ≤ n ∧ vk = .int .i64 k ∧ wr.ownsRow w.heap.size 9 1 vo k (((l.map pairS).take k).map Value.string) ∧ Below w.heap.size w wr) (fun _ _ vk _ => n - (intOf vk).toNat)
      case atStart => exact ⟨0, Nat.zero_le _, rfl, own_mono (own_empty _ _) hb2.size, hb2.alloc hb2.size _⟩
      case round =>
        clear hb2
        obtain ⟨k, hk, rfl, hown, hbw⟩ := hrel
        by_cases hlt : k < n
        · obtain ⟨b, o, p, rfl, hb, hx, hf1, hf2, g0, g1⟩ := pairAt h hlt
          have e0 := ((cell_of hbw) b (o + k * 2) hb).trans g0
          have e1 := ((cell_of hbw) b (o + k * 2 + 1) hb).trans g1
          have hsz := hbw.size
          have s1 := fmtS_size hf1
          have s2 := fmtS_size hf2
          have s3 : (⟨#[62]⟩ : ByteArray).size = 1 := rfl
          have HX : Hid ((l.map pairS)[k]? = some (fmtS p.1 ++ ⟨#[62]⟩ ++ fmtS p.2)) := by show _ = _; rw [List.getElem?_map, hx]; rfl
          have HO := Lib.hid (hown.alloc (.cells #[.int .i64 p.1, .int .i64 p.2] 92))
          have HB := Lib.hid (hbw.alloc hsz (.cells #[.int .i64 p.1, .int .i64 p.2] 92))
          obtain ⟨A', c', rfl, _, _⟩ := own_form hown
          clear hx h g0 g1 hown hbw
          go_wp2_with fail
          refine wp_region_mt 8 _ (by kernel_rfl) rfl rfl (fun _ _ _ _ h => h) (by kernel_rfl) ?_; simp only [List.take_succ_cons, List.take_zero, List.drop_succ_cons, List.drop_zero, Act.put, Act.eval, List.setIfInBounds_toArray, List.set_cons_zero, List.set_cons_succ, Array.getD_eq_getD_getElem?, List.getElem?_toArray, List.getElem?_cons_succ, List.getElem?_cons_zero, Option.getD_some]; (repeat (go_big_quiet_step ((go_at_call 65; exact quietB (implFormatInt _ (by assumption) _))))); refine wpQuiet_nil ?_; intro w8 hb8
          have hown8 := own_below HO.out hb8
          have hbw8 := HB.out.trans (hb8.mono HB.out.size)
          have hsz8 := hbw8.size
          clear HO HB hb8
          go_wp2_with (at_builtin; refine wpList_append_own _ rfl _ _ 59 rfl w.heap.size 9 i0 (.string ⟨#[]⟩) 1 16 Try.underlying59 hi hz0 hz1 hz2 rfl (by decide) _ _ _ rfl (hown8.alloc _) ⟨w8.heap.size, 0, none⟩ 1 1 [_] rfl rfl (one_new _ _ _) (by simp [Value.oneCell']) (by unfold maxLen; omega) (by omega) (by simp; omega) ?_)
          intro v' w3 hown3 hgrow _
          have hbw3 := Lib.hid (app_below hbw8 hown8 hgrow)
          have hown4 : Hid (w3.ownsRow w.heap.size 9 1 v' (k + 1) (((l.map pairS).take (k + 1)).map Value.string)) := by
            refine Lib.hid ?_
            rw [← take_map_snoc HX.out]
            simpa using hown3
          clear hown3 hgrow hown8 hbw8
          go_wp2
          go_roundw
          case rel => exact ⟨k + 1, by omega, by go_num, hown4.out, hbw3.out⟩
          case measure => simp [intOf]; omega
        · have hl : (l.map pairS).length = n := by rw [List.length_map, HL.out]
          have e : (l.map pairS).take k = l.map pairS := List.take_of_length_le (by omega)
          rw [e, show k = (l.map pairS).length by omega] at hown
          obtain ⟨A', n', c', e', hS⟩ := own_strs hown (fun x hx => by have := HF.out x hx; unfold maxLen; omega)
          subst e'
          have hn' : n' ≤ 1048576 := by have := hS.len; omega
          clear hl e hown h
          go_wp2_with fail
          refine (glued _ hS hn' (by decide) HF.out).mono ?_
          rintro e w2 ⟨rfl, hb2⟩
          clear hS
          go_wp2
          go_ret
          exact ⟨ret_str HE.out.symm, hbw.trans (hb2.mono hbw.size)⟩
theorem glue_ne {l : List (Int × Int)} (h : ∀ p ∈ l, Fit p.1 ∧ Fit p.2) {k : Nat} (hk : 0 < k) (hl : k ≤ l.length) : 1 ≤ (P.glueTo ⟨#[44]⟩ (l.map pairS) k).size := by
  cases k with
  | zero => omega
  | succ k =>
    have hx : ((l.map pairS).getD k ⟨#[]⟩).size ≥ 1 := by
      have hk : k < l.length := by omega
      simp only [List.getD, List.getElem?_map, List.getElem?_eq_getElem hk, Option.map_some, Option.getD_some]
      unfold pairS
      simp only [ByteArray.size_append]
      have : (⟨#[62]⟩ : ByteArray).size = 1 := rfl
      omega
    rw [P.glueTo]
    simp only [ByteArray.size_append]; omega
set_option maxHeartbeats 1600000 in
set_option maxRecDepth 100000 in
theorem specFormatPairs {A : Option Addr} {n c : Nat} {l : List (Int × Int)} (w : World) (h : Sl RP 2 w w.heap.size A n c l) : Calls Try.prog 60 #[.slice A n c] w fun e w' => e = .returned (.string (pairsS l)) ∧ Below w.heap.size w w' := by
  have HL := Lib.hid h.len
  cases hok : P.okP l with
  | false =>
    have HE : Hid (pairsS l = ⟨#[]⟩) := by show _ = _; unfold pairsS; rw [hok]; rfl
    go_enter Try.func60, Try.ntmps60
    go_wp2_with (go_at_call 87; refine (specArePairs _ h).mono ?_; rintro e w2 ⟨rfl, hb2⟩; rw [hok])
    go_ret
    exact ⟨ret_str HE.out.symm, hb2⟩
  | true =>
    have hn8 : n ≤ 8 := by have := P.okP_len hok; have := HL.out; omega
    have HF := Lib.hid (pairS_all (fitPairs h))
    have HF2 := Lib.hid (fitPairs h)
    have HK := Lib.hid hok
    go_enter Try.func60, Try.ntmps60
    go_wp2_with fail
    refine (specArePairs _ h).mono ?_
    rintro e w2 ⟨rfl, hb2⟩
    rw [hok]
    clear hok
    go_wp2
    go_loopw [3, 4] (fun vs vk wr => ∃ k : Nat, k ≤ n ∧ vk = .int .i64 k ∧ vs = .string (P.glueTo ⟨#[44]⟩ (l.map pairS) k) ∧ Below w.heap.size w wr) (fun _ vk _ => n - (intOf vk).toNat)
    case atStart => exact ⟨0, Nat.zero_le _, rfl, rfl, hb2⟩
    case round =>
      clear hb2
      obtain ⟨k, hk, rfl, rfl, hbw⟩ := hrel
      by_cases hlt : k < n
      · obtain ⟨b, o, p, rfl, hb, hx, hf1, hf2, g0, g1⟩ := pairAt h hlt
        have e0 := ((cell_of hbw) b (o + k * 2) hb).trans g0
        have e1 := ((cell_of hbw) b (o + k * 2 + 1) hb).trans g1
        have hsz := hbw.size
        have hb1 : b < wr.heap.size := by omega
        have q1 : (k : Int) < (n : Int) := by omega
        have q2 : (n : Int) ≤ (c : Int) := by have := h.le; omega
        have s0 := P.glueTo_size (b := ⟨#[44]⟩) (by decide) HF.out k
        have s1 := fmtS_size hf1
        have s2 := fmtS_size hf2
        have s3 : (⟨#[62]⟩ : ByteArray).size = 1 := rfl
        have s4 : (⟨#[44]⟩ : ByteArray).size = 1 := rfl
        have hx2 : (l.map pairS)[k]? = some (fmtS p.1 ++ ⟨#[62]⟩ ++ fmtS p.2) := by rw [List.getElem?_map, hx]; rfl
        by_cases h0 : k = 0
        · have q : decide (0 < k) = false := by simp; omega
          have HG := Lib.hid (P.glueTo_one (b := ⟨#[44]⟩) h0 hx2)
          clear hx hx2 h h0 g0 g1
          go_wp2_with fail
          refine wp_region_qb (by kernel_rfl) (by kernel_rfl) ?_; (repeat (go_big_quiet_step ((go_at_call 58; exact quietB (specFormatInt _ (by assumption) _))))); refine wpQuiet_nil ?_; intro w8 hb8
          go_wp2
          go_roundw
          case rel => exact ⟨k + 1, by omega, by go_num, vstr (by rw [HG.out]; simp only [ByteArray.append_assoc]), hbw.trans (hb8.mono hsz)⟩
          case measure => simp [intOf]; omega
        · have q : decide (0 < k) = true := by simp; omega
          have HG := Lib.hid (P.glueTo_more (b := ⟨#[44]⟩) h0 hx2)
          clear hx hx2 h h0 g0 g1
          go_wp2_with fail
          refine wp_region_qb (by kernel_rfl) (by kernel_rfl) ?_; (repeat (go_big_quiet_step ((go_at_call 58; exact quietB (specFormatInt _ (by assumption) _))))); refine wpQuiet_nil ?_; intro w8 hb8
          go_wp2
          go_roundw
          case rel => exact ⟨k + 1, by omega, by go_num, vstr (by rw [HG.out]; simp only [ByteArray.append_assoc]), hbw.trans (hb8.mono hsz)⟩
          case measure => simp [intOf]; omega
      · have HG := Lib.hid (P.glue_at (b := ⟨#[44]⟩) (l := l.map pairS) (k := k) (n := n) (by rw [List.length_map, HL.out]) (by omega))
        by_cases h0 : n = 0
        · have HE : Hid (pairsS l = ⟨#[110, 111, 110, 101]⟩) := by
            show _ = _
            have : l = [] := List.eq_nil_of_length_eq_zero (by rw [HL.out, h0])
            unfold pairsS; rw [HK.out, if_pos rfl, if_pos this]
          have hk0 : P.glueTo ⟨#[44]⟩ (l.map pairS) k = ⟨#[]⟩ := by rw [show k = 0 by omega]; rfl
          have q : (P.glueTo ⟨#[44]⟩ (l.map pairS) k).toList.isEmpty = true := by rw [hk0, ByteArray.toList_eq]; rfl
          clear h h0 hk0
          go_wp2
          go_ret
          exact ⟨ret_str HE.out.symm, hbw⟩
        · have HE : Hid (pairsS l = P.glue ⟨#[44]⟩ (l.map pairS)) := by
            show _ = _
            have : l ≠ [] := by rintro rfl; exact h0 HL.out.symm
            unfold pairsS; rw [HK.out, if_pos rfl, if_neg this]
          have s1 := glue_ne HF2.out (k := k) (by omega) (by have := HL.out; omega)
          have q : (P.glueTo ⟨#[44]⟩ (l.map pairS) k).toList.isEmpty = false := by
            rw [List.isEmpty_eq_false_iff]
            intro e
            rw [ByteArray.toList_eq] at e
            have := congrArg List.length e
            rw [Array.length_toList, List.length_nil] at this
            have h2 : (P.glueTo ⟨#[44]⟩ (l.map pairS) k).size = (P.glueTo ⟨#[44]⟩ (l.map pairS) k).data.size := rfl
            omega
          clear h h0 s1
          go_wp2
          go_ret
          exact ⟨ret_str (HE.out.trans HG.out).symm, hbw⟩
end Go.Proofs.Ytgjghpaenliliaa.Wk
