/-
  Chapter 1: numbers written and read again, on plain lists; the draws of chapter 1.
  Conditions: none beyond the bounds that each states.
-/
import Derived.Test.YtphbochfpidgeaaW81
import Derived.Test.YtphbochfpidgeaaW11
import Derived.Test.YtphbochfpidgeaaW9
import Derived.Test.YtphbochfpidgeaaW6
import Derived.Test.YtphbochfpidgeaaW5
namespace Go.Proofs.Ytphbochfpidgeaa.P
theorem lv_cons (a : UInt8) (t : List UInt8) : ∀ k, lv (a :: t) (k + 1) = a.toNat % 128 + 128 * lv t k
  | 0 => by simp [lv]
  | k + 1 => by
    rw [lv_succ, lv_cons a t k, lv_succ t k]
    have e : (a :: t).getD (k + 1) 0 = t.getD k 0 := by simp [List.getD]
    rw [e, Nat.pow_succ]
    have : (t.getD k 0).toNat % 128 * (128 ^ k * 128) = 128 * ((t.getD k 0).toNat % 128 * 128 ^ k) := by
      rw [← Nat.mul_assoc, Nat.mul_comm]
    omega
theorem lv_uv : ∀ (m n : Nat), n ≤ m → ∀ l : List UInt8, nums (l.take (uv n).length) = uv n → lv l (uv n).length = n
  | m, n, hm, l, h => by
    by_cases hb : n < 128
    · rw [uv_small hb] at h ⊢
      match l with
      | [] => simp [nums] at h
      | a :: t =>
        simp [nums] at h
        show lv (a :: t) (0 + 1) = n
        rw [lv_cons]
        simp [lv]
        omega
    · rw [uv_big (by omega)] at h ⊢
      cases m with
      | zero => omega
      | succ m =>
        match l with
        | [] => simp [nums] at h
        | a :: t =>
          rw [List.length_cons, List.take_succ_cons] at h
          have h1 : (a.toNat : Int) = ((128 + n % 128 : Nat) : Int) ∧ nums (t.take (uv (n / 128)).length) = uv (n / 128) := by
            have e : nums (a :: List.take (uv (n / 128)).length t) = (a.toNat : Int) :: nums (List.take (uv (n / 128)).length t) := rfl
            rw [e] at h
            injection h with h1 h2
            exact ⟨h1, h2⟩
          rw [List.length_cons, lv_cons, lv_uv m (n / 128) (by omega) t h1.2]
          omega
theorem uv_mem {n : Nat} : ∀ x ∈ uv n, 0 ≤ x ∧ x < 256 := by
  obtain ⟨a, z, e, h0, h1, h2⟩ := uv_shape n
  rw [e]
  intro x hx
  rcases List.mem_append.1 hx with hx | hx
  · have := h2 x hx; omega
  · simp at hx; omega
theorem nums_app (a b : List UInt8) : nums (a ++ b) = nums a ++ nums b := by simp [nums]
/-- A number's bytes, whatever follows. -/
theorem dv_uv {n : Nat} {s t : List UInt8} (hn : n ≤ 562949953421311) (h : nums s = uv n) : DV (s ++ t) (n, s.length) := by
  have hl : s.length = (uv n).length := by rw [← h, nums_len]
  have h7 := uv_len 6 n (by simpa using (by omega : n < 562949953421312))
  have ht : nums ((s ++ t).take (uv n).length) = uv n := by rw [← hl, List.take_left]; exact h
  have hlv := lv_uv n n (Nat.le_refl _) (s ++ t) ht
  refine .inl ⟨s.length, by have := uv_pos n; omega, by omega, by simp, ?_, ?_⟩
  · show uv (lv (s ++ t) s.length) = nums ((s ++ t).take s.length)
    rw [hl, hlv]; exact ht.symm
  · rw [hl, hlv]
theorem lo8_at : ∀ (m n k : Nat), k < m → (lo8 m n)[k]? = some ((n / 256 ^ (m - 1 - k) % 256 : Nat) : Int)
  | 0, _, _, h => absurd h (Nat.not_lt_zero _)
  | m + 1, n, 0, _ => by rw [lo8_succ]; simp
  | m + 1, n, k + 1, h => by
    rw [lo8_succ, List.getElem?_cons_succ, lo8_at m n k (by omega)]
    rw [show m + 1 - 1 - (k + 1) = m - 1 - k by omega]
theorem lo8_mem {m n : Nat} : ∀ x ∈ lo8 m n, 0 ≤ x ∧ x < 256 := by
  intro x hx
  obtain ⟨k, hk⟩ := List.getElem?_of_mem hx
  have hlt : k < m := by have := (List.getElem?_eq_some_iff.1 hk).1; rwa [lo8_len] at this
  rw [lo8_at m n k hlt] at hk
  injection hk with hk
  omega
theorem be_lo8 {m n : Nat} {s t : List UInt8} (hz : n / 256 ^ m = 0) (h : nums s = lo8 m n) : ∀ k, k ≤ m → be (s ++ t) k = n / 256 ^ (m - k)
  | 0, _ => by simp [be, hz]
  | k + 1, hk => by
    have hl : s.length = m := by have := congrArg List.length h; rwa [nums_len, lo8_len] at this
    rw [be_succ, be_lo8 hz h k (by omega)]
    have h1 : (s ++ t).getD k 0 = s.getD k 0 := by simp [List.getD, List.getElem?_append_left (show k < s.length by omega)]
    have h2 : ((s.getD k 0).toNat : Int) = ((n / 256 ^ (m - 1 - k) % 256 : Nat) : Int) := by
      have := lo8_at m n k (by omega)
      rw [← h] at this
      unfold nums at this
      rw [List.getElem?_map, List.getElem?_eq_getElem (by omega)] at this
      simp [List.getD, List.getElem?_eq_getElem (show k < s.length by omega)]
      simpa using this
    rw [h1]
    have h3 := div_succ n (m - 1 - k)
    rw [show m - (k + 1) = m - 1 - k by omega, show m - k = m - 1 - k + 1 by omega, ← h3]
    omega
theorem enc_mem {l : List UInt8} : ∀ x ∈ enc l, 0 ≤ x ∧ x < 256 := by
  intro x hx
  unfold enc at hx
  obtain ⟨b, _, hx⟩ := List.mem_flatMap.1 hx
  have := b.toNat_lt
  simp at hx
  unfold hexd at hx
  rcases hx with hx | hx <;> (split at hx <;> omega)
end Go.Proofs.Ytphbochfpidgeaa.P
namespace Go.Proofs.Ytphbochfpidgeaa.Wk
open Go.RowKit Go.Proofs.Ytphbochfpidgeaa.M
set_option linter.unusedVariables false

theorem str_nums {xs : List Int} (h : ∀ x ∈ xs, 0 ≤ x ∧ x < 256) : P.nums (strOfNums xs).data.toList = xs := ((bytesEq2 h _).1 rfl).symm
theorem ba_ext2 {a b : ByteArray} (h : a.data.toList = b.data.toList) : a = b := by
  cases a; cases b
  simp only [ByteArray.mk.injEq]
  exact Array.ext' h
theorem ba_app2 (a b : ByteArray) : (a ++ b).data.toList = a.data.toList ++ b.data.toList := by rw [ByteArray.data_append]; simp
theorem nums_str (t : ByteArray) : strOfNums (P.nums t.data.toList) = t := by
  apply ba_ext2
  rw [bytesEq2 (fun x hx => by
    unfold P.nums at hx
    obtain ⟨b, _, rfl⟩ := List.mem_map.1 hx
    have := b.toNat_lt
    omega)]
theorem size_len (s : ByteArray) : s.size = s.data.toList.length := rfl
/-- A varint is decoded again, whatever follows. -/
theorem ev_law (n : Int) (tail : ByteArray) : (evS n = ⟨#[]⟩ ∧ ¬ (0 ≤ n ∧ n ≤ 562949953421311)) ∨ (¬ evS n = ⟨#[]⟩ ∧ 0 ≤ n ∧ n ≤ 562949953421311 ∧ (evS n).size ≤ 7 ∧ P.DV (evS n ++ tail).data.toList (n.toNat, (evS n).size)) := by
  cases h : P.inR n 0 562949953421311 with
  | false =>
    refine .inl ⟨by unfold evS; rw [h]; rfl, ?_⟩
    have := P.inR_f h; omega
  | true =>
    have hb := P.inR_t h
    have e : evS n = strOfNums (P.uv n.toNat) := by unfold evS; rw [h]; rfl
    have hsz : (evS n).size = (P.uv n.toNat).length := by rw [e, strOfNums_size]
    have hpos := P.uv_pos n.toNat
    refine .inr ⟨fun h0 => ?_, hb.1, hb.2, ?_, ?_⟩
    · rw [h0] at hsz
      have : (⟨#[]⟩ : ByteArray).size = 0 := rfl
      omega
    · rw [hsz]
      exact P.uv_len 6 n.toNat (by simpa using (by omega : n.toNat < 562949953421312))
    · rw [ba_app2, size_len (evS n)]
      exact P.dv_uv (by omega) (by rw [e]; exact str_nums P.uv_mem)
theorem ef_law (n width : Int) (tail : ByteArray) : efS n width = ⟨#[]⟩ ∨ (¬ efS n width = ⟨#[]⟩ ∧ dfB (efS n width ++ tail) width = true ∧ dfN (efS n width ++ tail) width = n ∧ ((efS n width).size : Int) = width ∧ (efS n width).size ≤ 7) := by
  cases h : (P.inR width 1 7 && decide (0 ≤ n) && decide (n.toNat / 256 ^ width.toNat = 0)) with
  | false => exact .inl (by unfold efS; rw [h]; rfl)
  | true =>
    have e : efS n width = strOfNums (P.lo8 width.toNat n.toNat) := by unfold efS; rw [h]; rfl
    rw [Bool.and_eq_true, Bool.and_eq_true, decide_eq_true_eq, decide_eq_true_eq] at h
    obtain ⟨⟨h1, h2⟩, h3⟩ := h
    have hb := P.inR_t h1
    have hsz : (efS n width).size = width.toNat := by rw [e, strOfNums_size, P.lo8_len]
    have hB : dfB (efS n width ++ tail) width = true := by
      simp [dfB, h1, ByteArray.size_append, hsz]
      omega
    refine .inr ⟨fun h0 => ?_, hB, ?_, by omega, by omega⟩
    · rw [h0] at hsz
      have : (⟨#[]⟩ : ByteArray).size = 0 := rfl
      omega
    · unfold dfN
      rw [hB, ba_app2]
      simp only [if_true]
      rw [P.be_lo8 h3 (by rw [e]; exact str_nums P.lo8_mem) width.toNat (Nat.le_refl _)]
      simp
      omega
theorem hex_law (t : ByteArray) : dhV (strOfNums (P.enc t.data.toList)) = .tuple #[.string t, .bool true] ∧ (strOfNums (P.enc t.data.toList)).size = 2 * t.size := by
  refine ⟨?_, by rw [strOfNums_size, P.enc_len]; rfl⟩
  rw [dhV_some (P.dec_enc t.data.toList _ (str_nums P.enc_mem)), nums_str]
theorem fmtL_mem2 {n : Int} : ∀ x ∈ P.fmtL n, 0 ≤ x ∧ x < 256 := fmtL_mem n
theorem pi_law (n : Int) : ((-1000000000 < n ∧ n < 1000000000) ∧ piN (fmtS n).data.toList = n ∧ piB (fmtS n).data.toList = true) ∨ (¬ (-1000000000 < n ∧ n < 1000000000) ∧ piB (fmtS n).data.toList = false) := by
  have hl : P.fmtL n = P.nums (fmtS n).data.toList := (str_nums fmtL_mem2).symm
  by_cases h : -1000000000 < n ∧ n < 1000000000
  · exact .inl ⟨h, piN_some (P.pI_some hl h.1 h.2)⟩
  · refine .inr ⟨h, (piN_none (P.pI_none fun m h1 h2 e => h ?_)).2⟩
    rw [← hl] at e
    rw [← P.fmtL_inj e]
    exact ⟨h1, h2⟩
/-! ### the draws -/
section
variable {A : Option Addr} {n c : Nat} {bs : List UInt8}
end
end Go.Proofs.Ytphbochfpidgeaa.Wk
