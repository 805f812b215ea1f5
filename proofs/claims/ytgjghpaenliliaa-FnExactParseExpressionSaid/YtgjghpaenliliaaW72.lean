/-
  Texts of numbers: cut and read again.
  Conditions: none beyond the bounds that each states.
-/
import Derived.Test.YtgjghpaenliliaaW70
import Derived.Test.YtgjghpaenliliaaW20
namespace Go.Proofs.Ytgjghpaenliliaa.Wk
open Go.RowKit Go.Proofs.Ytgjghpaenliliaa.M
set_option linter.unusedVariables false

/-! ### texts of numbers -/
theorem fmtS_list (n : Int) : P.fmtL n = P.nums (fmtS n).data.toList := (bytesEq2 (fmtL_mem n) _).1 rfl
theorem fmtL_dig {n : Int} : ∀ x ∈ P.fmtL n, x = 45 ∨ 48 ≤ x ∧ x ≤ 57 := by
  intro x hx
  unfold P.fmtL at hx
  split at hx
  · simp at hx; omega
  · split at hx
    · rcases List.mem_cons.1 hx with rfl | hx
      · exact .inl rfl
      · have := P.digs_mem _ _ hx; omega
    · have := P.digs_mem _ _ hx; omega
theorem fmtS_dig {n : Int} : ∀ x ∈ (fmtS n).data.toList, x.toNat = 45 ∨ 48 ≤ x.toNat ∧ x.toNat ≤ 57 := by
  intro x hx
  have h1 : (x.toNat : Int) ∈ P.fmtL n := by
    rw [fmtS_list]
    exact List.mem_map.2 ⟨x, hx, rfl⟩
  have := fmtL_dig _ h1
  omega
/-- The byte occurs in no text of a number. -/
theorem fmtS_no {n : Int} {b : UInt8} (h : b.toNat ≠ 45 ∧ (b.toNat < 48 ∨ 57 < b.toNat)) : ∀ x ∈ (fmtS n).data.toList, x ≠ b := by
  rintro x hx rfl
  have := fmtS_dig x hx
  omega
theorem piN_fmt {n : Int} (h : -1000000000 < n) (h2 : n < 1000000000) : piN (fmtS n).data.toList = n ∧ piB (fmtS n).data.toList = true := piN_some (P.pI_some (fmtS_list n) h h2)
theorem l2N_fmt {n : Int} (h : -1000000000 < n) (h2 : n < 1000000000) : l2N (fmtS n) = n := by
  obtain ⟨h3, h4⟩ := piN_fmt h h2
  unfold l2N; rw [h4, h3]; rfl
theorem nums_cut {xs : List Int} (h : xs ≠ []) : P.cut (numsS ⟨#[44]⟩ xs) ⟨#[44]⟩ = xs.map fmtS := by
  unfold numsS
  refine P.cut_glue (b0 := 44) (bs := []) rfl (by simpa using h) (fun q hq => ?_)
  obtain ⟨n, _, rfl⟩ := List.mem_map.1 hq
  exact fmtS_no (by decide)
theorem map_same {α β : Type} {f : α → β} {g : β → α} {l : List α} (h : ∀ x ∈ l, g (f x) = x) : (l.map f).map g = l := by
  rw [List.map_map]
  conv => rhs; rw [← List.map_id l]
  exact List.map_congr_left fun x hx => h x hx
theorem rdN_nums {xs : List Int} (h : xs ≠ []) (hb : ∀ x ∈ xs, -1000000000 < x ∧ x < 1000000000) : rdN (numsS ⟨#[44]⟩ xs) = xs := by
  unfold rdN
  rw [nums_cut h]
  exact map_same fun x hx => (piN_fmt (hb x hx).1 (hb x hx).2).1
/-- The numbers that the reference reads. -/
noncomputable def rdL (s : ByteArray) : List Int := (P.cut s ⟨#[44]⟩).map l2N
theorem rdL_nums {xs : List Int} (h : xs ≠ []) (hb : ∀ x ∈ xs, -1000000000 < x ∧ x < 1000000000) : rdL (numsS ⟨#[44]⟩ xs) = xs := by
  unfold rdL
  rw [nums_cut h]
  exact map_same fun x hx => l2N_fmt (hb x hx).1 (hb x hx).2
theorem tails_mem {b : List UInt8} {ps : List (List UInt8)} {x : UInt8} (h : x ∈ P.tails b ps) : x ∈ b ∨ ∃ q ∈ ps, x ∈ q := by
  unfold P.tails at h
  obtain ⟨q, hq, hx⟩ := List.mem_flatMap.1 h
  rcases List.mem_append.1 hx with hx | hx
  · exact .inl hx
  · exact .inr ⟨q, hq, hx⟩
theorem glue_mem {b : ByteArray} {l : List ByteArray} {x : UInt8} (h : x ∈ (P.glue b l).data.toList) : x ∈ b.data.toList ∨ ∃ q ∈ l, x ∈ q.data.toList := by
  cases l with
  | nil => simp [P.glue, P.glueTo] at h
  | cons p ps =>
    rw [P.glue_list] at h
    rcases List.mem_append.1 h with h | h
    · exact .inr ⟨p, by simp, h⟩
    · rcases tails_mem h with h | ⟨q, hq, h⟩
      · exact .inl h
      · obtain ⟨t, ht, rfl⟩ := List.mem_map.1 hq
        exact .inr ⟨t, by simp [ht], h⟩
/-- The byte occurs in no text of numbers. -/
theorem nums_no {xs : List Int} {b : UInt8} (h : b.toNat ≠ 45 ∧ (b.toNat < 48 ∨ 57 < b.toNat)) (h2 : b.toNat ≠ 44) : ∀ x ∈ (numsS ⟨#[44]⟩ xs).data.toList, x ≠ b := by
  intro x hx
  unfold numsS at hx
  rcases glue_mem hx with hx | ⟨q, hq, hx⟩
  · simp at hx
    rintro rfl
    rw [hx] at h2
    exact h2 rfl
  · obtain ⟨n, _, rfl⟩ := List.mem_map.1 hq
    exact fmtS_no h x hx
theorem okV_bd {xs : List Int} (h : P.okV xs = true) : ∀ x ∈ xs, -1000000000 < x ∧ x < 1000000000 := by
  intro x hx
  have := P.inR_t (List.all_eq_true.1 h x hx)
  omega
theorem cut_nil {b : ByteArray} (h : 0 < b.size) : P.cut ⟨#[]⟩ b = [⟨#[]⟩] := by
  unfold P.cut
  rw [P.cutR_end (show (⟨#[]⟩ : ByteArray).size < 0 + b.size by show 0 < _; omega)]
  rfl
end Go.Proofs.Ytgjghpaenliliaa.Wk
