/-
  Walks of chapter 2: texts joined; FormatItem.
  Conditions: none beyond the bounds that each states.
-/
import Derived.Test.YtgjghpaenliliaaW14
import Derived.Test.YtgjghpaenliliaaU2
namespace Go.Proofs.Ytgjghpaenliliaa.Wk
open Go.RowKit Go.Proofs.Ytgjghpaenliliaa.M
set_option linter.unusedVariables false
attribute [local go_sem] cell_grow

/-- Numbers with a text between. -/
def numsS (by_ : ByteArray) (xs : List Int) : ByteArray := P.glue by_ (xs.map fmtS)
set_option maxHeartbeats 800000 in
theorem l2List {A : Option Addr} {n c : Nat} {xs : List Int} (w : World) (h : Sl RI 1 w w.heap.size A n c xs) (hn : n ≤ 1048576) : Calls Try.prog 59 #[.slice A n c] w fun e w' => e = .returned (.string (numsS ⟨#[44]⟩ xs)) ∧ Below w.heap.size w w' := by
  have HF := Lib.hid (fmtS_all (V.fit ⟨A, n, c, rfl, h⟩))
  have HL := Lib.hid h.len
  go_enter Try.func59, Try.ntmps59
  go_wp2
  go_loopw [3, 4] (fun vs vk wr => ∃ k : Nat, k ≤ n ∧ vk = .int .i64 k ∧ vs = .string (P.glueTo ⟨#[44]⟩ (xs.map fmtS) k) ∧ Below w.heap.size w wr) (fun _ vk _ => n - (intOf vk).toNat)
  case atStart => exact ⟨0, Nat.zero_le _, rfl, rfl, Below.refl _ _⟩
  case round =>
    obtain ⟨k, hk, rfl, rfl, hbw⟩ := hrel
    by_cases hlt : k < n
    · obtain ⟨b, o, x, rfl, hb, hx, hf, hc⟩ := h.int hlt
      have hsz := hbw.size
      have e1 := ((cell_of hbw) b (o + k) hb).trans hc
      have hx2 : (xs.map fmtS)[k]? = some (fmtS x) := by rw [List.getElem?_map, hx]; rfl
      have s1 := P.glueTo_size (b := ⟨#[44]⟩) (by decide) HF.out k
      have s2 := fmtS_size hf
      by_cases h0 : k = 0
      · have q : decide (0 < k) = false := by simp; omega
        have HG := Lib.hid (P.glueTo_one (b := ⟨#[44]⟩) h0 hx2)
        clear hx hx2 h h0 hc
        go_wp2_with (go_at_call 58; refine (specFormatInt x hf _).mono ?_; rintro e w2 ⟨rfl, hb2⟩)
        go_roundw
        case rel => exact ⟨k + 1, by omega, by go_num, vstr HG.out.symm, hbw.trans (hb2.mono hsz)⟩
        case measure => simp [intOf]; omega
      · have q : decide (0 < k) = true := by simp; omega
        have HG := Lib.hid (P.glueTo_more (b := ⟨#[44]⟩) h0 hx2)
        have s3 : (⟨#[44]⟩ : ByteArray).size = 1 := rfl
        clear hx hx2 h h0 hc
        go_wp2_with (go_at_call 58; refine (specFormatInt x hf _).mono ?_; rintro e w2 ⟨rfl, hb2⟩)
        go_roundw
        case rel => exact ⟨k + 1, by omega, by go_num, vstr HG.out.symm, hbw.trans (hb2.mono hsz)⟩
        case measure => simp [intOf]; omega
    · have HG := Lib.hid (P.glue_at (b := ⟨#[44]⟩) (l := xs.map fmtS) (k := k) (n := n) (by rw [List.length_map, HL.out]) (by omega))
      clear h
      go_wp2
      go_ret
      exact ⟨ret_str HG.out.symm, hbw⟩
set_option maxHeartbeats 800000 in
theorem numbers {A : Option Addr} {n c : Nat} {xs : List Int} {t : ByteArray} (w : World) (h : Sl RI 1 w w.heap.size A n c xs) (hn : n ≤ 1048576) (ht : t.size ≤ 16) :
    Calls Try.prog 66 #[.slice A n c, .string t] w fun e w' => e = .returned (.string (numsS t xs)) ∧ Below w.heap.size w w' := by
  obtain ⟨i0, hi, hz0, hz1, hz2⟩ := info_parts info_str
  have HF := Lib.hid (fmtS_all (V.fit ⟨A, n, c, rfl, h⟩))
  have HL := Lib.hid h.len
  go_enter Try.func66, Try.ntmps66
  go_wp2
  go_loopw [5, 7, 11] (fun vo vx vk wr => ∃ k : Nat, k ≤ n ∧ vk = .int .i64 k ∧ wr.ownsRow w.heap.size 9 1 vo k (((xs.map fmtS).take k).map Value.string) ∧ Below w.heap.size w wr) (fun _ _ vk _ => n - (intOf vk).toNat)
  case atStart => exact ⟨0, Nat.zero_le _, rfl, own_empty _ _, (Below.refl _ _).alloc (Nat.le_refl _) _⟩
  case round =>
    obtain ⟨k, hk, rfl, hown, hbw⟩ := hrel
    by_cases hlt : k < n
    · obtain ⟨b, o, x, rfl, hb, hx, hf, hc⟩ := h.int hlt
      have hsz := hbw.size
      have e1 := ((cell_of hbw) b (o + k) hb).trans hc
      have HX : Hid ((xs.map fmtS)[k]? = some (fmtS x)) := by show _ = _; rw [List.getElem?_map, hx]; rfl
      clear hx h hc
      go_wp2_with fail
      refine (implFormatInt x hf _).mono ?_
      rintro e w2 ⟨rfl, hb2⟩
      have hown2 := own_below hown hb2
      have hbw2 := hbw.trans (hb2.mono hsz)
      have hsz2 := hbw2.size
      clear hown hbw hb2 e1
      go_wp2_with (at_builtin; refine wpList_append_own _ rfl _ _ 59 rfl w.heap.size 9 i0 (.string ⟨#[]⟩) 1 16 Try.underlying59 hi hz0 hz1 hz2 rfl (by decide) _ _ _ rfl (hown2.alloc _) ⟨w2.heap.size, 0, none⟩ 1 1 [_] rfl rfl (one_new _ _ _) (by simp [Value.oneCell']) (by unfold maxLen; omega) (by omega) (by simp; omega) ?_)
      intro v' w3 hown3 hgrow _
      have hbw3 := Lib.hid (app_below hbw2 hown2 hgrow)
      have hown4 : Hid (w3.ownsRow w.heap.size 9 1 v' (k + 1) (((xs.map fmtS).take (k + 1)).map Value.string)) := by
        refine Lib.hid ?_
        rw [← take_map_snoc HX.out]
        simpa using hown3
      clear hown3 hgrow hown2 hbw2
      go_wp2
      go_roundw
      case rel => exact ⟨k + 1, by omega, by go_num, hown4.out, hbw3.out⟩
      case measure => simp [intOf]; omega
    · have hl : (xs.map fmtS).length = n := by rw [List.length_map, HL.out]
      have e : (xs.map fmtS).take k = xs.map fmtS := List.take_of_length_le (by omega)
      rw [e, show k = (xs.map fmtS).length by omega] at hown
      obtain ⟨A', n', c', e', hS⟩ := own_strs hown (fun x hx => by have := HF.out x hx; unfold maxLen; omega)
      subst e'
      have hn' : n' ≤ 1048576 := by have := hS.len; omega
      clear hl e hown h
      go_wp2_with fail
      refine (glued _ hS hn' ht HF.out).mono ?_
      rintro e w2 ⟨rfl, hb2⟩
      clear hS
      go_wp2
      go_ret
      exact ⟨rfl, hbw.trans (hb2.mono hbw.size)⟩
/-- What FormatItem writes. -/
def itemS (x : It) : ByteArray := if P.okI x then fmtS x.id ++ ⟨#[58]⟩ ++ numsS ⟨#[44]⟩ x.vals else ⟨#[]⟩
theorem numsS_size {t : ByteArray} {xs : List Int} (ht : t.size ≤ 16) (h : ∀ x ∈ xs, Fit x) : (numsS t xs).size ≤ 4112 * xs.length := by
  have := P.glueTo_size ht (fmtS_all h) (xs.map fmtS).length
  unfold numsS P.glue
  rwa [List.length_map] at this ⊢
theorem P.okI_len {x : It} (h : P.okI x = true) : x.vals.length = 3 := by
  simp only [P.okI, Bool.and_eq_true, decide_eq_true_eq] at h; exact h.1.2
end Go.Proofs.Ytgjghpaenliliaa.Wk
