/-
  Plain laws of wishes: when a wish is valid. No program stands here.
  Conditions: none.
-/
import Derived.Test.YtgjghpaenliliaaP4
namespace Go.Proofs.Ytgjghpaenliliaa.P
open Go.Proofs.Ytgjghpaenliliaa.M
set_option linter.unusedVariables false

/-- The first k values lie in their bounds, and rise. -/
def upL (l : List Int) (k : Nat) : Prop := ∀ i x, i < k → l[i]? = some x → inR x 0 9 = true ∧ ∀ y, 0 < i → l[i - 1]? = some y → y < x
/-- They all do. -/
def okL (l : List Int) : Bool := okV l && risL l
theorem risL_iff : ∀ l : List Int, risL l = true ↔ ∀ i x y, l[i]? = some x → l[i + 1]? = some y → x < y
  | [] => by simp [risL]
  | [a] => by simp [risL]
  | a :: b :: t => by
    rw [risL, Bool.and_eq_true, decide_eq_true_eq, risL_iff (b :: t)]
    constructor
    · rintro ⟨h1, h2⟩ i x y hx hy
      cases i with
      | zero => simp at hx hy; subst hx hy; exact h1
      | succ i => exact h2 i x y (by simpa using hx) (by simpa using hy)
    · intro h
      exact ⟨h 0 a b rfl rfl, fun i x y hx hy => h (i + 1) x y (by simpa using hx) (by simpa using hy)⟩
theorem upL_all {l : List Int} (h : upL l l.length) : okL l = true := by
  unfold okL okV
  rw [Bool.and_eq_true, List.all_eq_true, risL_iff]
  refine ⟨fun x hx => ?_, fun i x y hx hy => ?_⟩
  · obtain ⟨i, hi⟩ := List.getElem?_of_mem hx
    exact (h i x (List.getElem?_eq_some_iff.1 hi).1 hi).1
  · exact (h (i + 1) y (List.getElem?_eq_some_iff.1 hy).1 hy).2 x (by omega) (by simpa using hx)
theorem okL_bad1 {l : List Int} {k : Nat} {x : Int} (hx : l[k]? = some x) (h : inR x 0 9 = false) : okL l = false := by
  unfold okL okV
  have : (l.all fun v => inR v 0 9) = false := by rw [List.all_eq_false]; exact ⟨x, List.mem_of_getElem? hx, by simp [h]⟩
  rw [this]; rfl
theorem okL_bad2 {l : List Int} {k : Nat} {x y : Int} (hx : l[k]? = some x) (hy : l[k + 1]? = some y) (h : y ≤ x) : okL l = false := by
  unfold okL
  have : risL l = false := by
    cases hr : risL l with
    | false => rfl
    | true => have := (risL_iff l).1 hr k x y hx hy; omega
  rw [this]; simp
theorem upL_step {l : List Int} {k : Nat} {x : Int} (h : upL l k) (hx : l[k]? = some x) (h1 : inR x 0 9 = true) (h2 : ∀ y, 0 < k → l[k - 1]? = some y → y < x) : upL l (k + 1) := by
  intro i z hi hz
  rcases Nat.lt_or_ge i k with hlt | hge
  · exact h i z hlt hz
  · obtain rfl : i = k := by omega
    rw [hx] at hz; injection hz with hz; subst hz
    exact ⟨h1, fun y h0 hy => h2 y h0 hy⟩
theorem okL_nil : okL [] = true := rfl
theorem okW_eq (w : Wi) : okW w = (inR w.field 0 2 && inR w.kind 0 4 && inR w.value 0 9 && okL w.list && (decide (w.kind = 2) || decide (w.value = 0)) && (decide (w.kind = 3) == decide (w.list ≠ [])) && (if w.kind = 4 then okP w.pairs else decide (w.pairs = []))) := by
  obtain ⟨kind, field, value, list, pairs⟩ := w
  unfold okW
  simp only
  by_cases k0 : kind = 0
  · subst k0
    by_cases hv : value = 0
    · subst hv
      by_cases hl : list = []
      · subst hl; simp [inR, okL_nil]
      · simp [hl]
    · simp [hv]
  · by_cases k1 : kind = 1
    · subst k1
      by_cases hv : value = 0
      · subst hv
        by_cases hl : list = []
        · subst hl; simp [inR, okL_nil]
        · simp [hl]
      · simp [hv]
    · by_cases k2 : kind = 2
      · subst k2
        by_cases hl : list = []
        · subst hl; simp [inR, okL_nil, Bool.and_assoc]
        · simp [hl]
      · by_cases k3 : kind = 3
        · subst k3
          by_cases hv : value = 0
          · subst hv
            by_cases hl : list = []
            · subst hl; simp
            · simp [hl, inR, okL]
              cases okV list <;> cases risL list <;> simp
          · simp [hv]
        · by_cases k4 : kind = 4
          · subst k4
            by_cases hv : value = 0
            · subst hv
              by_cases hl : list = []
              · subst hl; simp [inR, okL_nil]
              · simp [hl]
            · simp [hv]
          · have : inR kind 0 4 = false := inR_no (by omega)
            simp [k0, k1, k2, k3, k4, this]
theorem okW_f1 {w : Wi} (h : inR w.field 0 2 = false) : okW w = false := by rw [okW_eq, h]; simp
theorem okW_f2 {w : Wi} (h : inR w.kind 0 4 = false) : okW w = false := by rw [okW_eq, h]; simp
theorem okW_f3 {w : Wi} (h : inR w.value 0 9 = false) : okW w = false := by rw [okW_eq, h]; simp
theorem okW_f4 {w : Wi} (h : okL w.list = false) : okW w = false := by rw [okW_eq, h]; simp
theorem okW_f5 {w : Wi} (h : w.kind ≠ 2) (h' : w.value ≠ 0) : okW w = false := by rw [okW_eq]; simp [h, h']
theorem okW_f6 {w : Wi} (h : w.kind = 3) (h' : w.list = []) : okW w = false := by rw [okW_eq]; simp [h, h']
theorem okW_f7 {w : Wi} (h : w.kind ≠ 3) (h' : w.list ≠ []) : okW w = false := by rw [okW_eq]; simp [h, h']
theorem okW_t4 {w : Wi} (h1 : inR w.field 0 2 = true) (h3 : okL w.list = true) (h5 : w.value = 0) (h6 : w.list = []) (h7 : w.kind = 4) : okW w = okP w.pairs := by
  rw [okW_eq, h1, h3, if_pos h7]; simp [h5, h6, h7, inR]
theorem okW_t {w : Wi} (h1 : inR w.field 0 2 = true) (h2 : inR w.kind 0 4 = true) (h3 : inR w.value 0 9 = true) (h4 : okL w.list = true) (h5 : w.kind = 2 ∨ w.value = 0) (h6 : w.kind = 3 ↔ w.list ≠ []) (h7 : w.kind ≠ 4) : okW w = decide (w.pairs = []) := by
  rw [okW_eq, h1, h2, h3, h4, if_neg h7]
  have e5 : (decide (w.kind = 2) || decide (w.value = 0)) = true := by rcases h5 with h | h <;> simp [h]
  have e6 : (decide (w.kind = 3) == decide (w.list ≠ [])) = true := by
    rw [beq_iff_eq]; exact decide_eq_decide.2 h6
  rw [e5, e6]; rfl
theorem okW_field {w : Wi} (h : okW w = true) : 0 ≤ w.field ∧ w.field ≤ 2 := by
  cases e : inR w.field 0 2 with
  | true => exact inR_t e
  | false => rw [okW_f1 e] at h; cases h
theorem okW_value {w : Wi} (h : okW w = true) : 0 ≤ w.value ∧ w.value ≤ 9 := by
  cases e : inR w.value 0 9 with
  | true => exact inR_t e
  | false => rw [okW_f3 e] at h; cases h
theorem okW_kind {w : Wi} (h : okW w = true) : 0 ≤ w.kind ∧ w.kind ≤ 4 := by
  cases e : inR w.kind 0 4 with
  | true => exact inR_t e
  | false => rw [okW_f2 e] at h; cases h
theorem okW_pairs {w : Wi} (h : okW w = true) (hk : w.kind = 4) : okP w.pairs = true := by
  rw [okW_eq] at h
  simp only [Bool.and_eq_true, hk, if_true] at h
  exact h.2
theorem okW_listlen {w : Wi} (h : okW w = true) : w.list.length ≤ 10 := by
  have hl : okL w.list = true := by
    rw [okW_eq] at h
    simp only [Bool.and_eq_true] at h
    exact h.1.1.1.2
  unfold okL at hl
  rw [Bool.and_eq_true] at hl
  obtain ⟨h1, h2⟩ := hl
  rw [risL_iff] at h2
  have key : ∀ (i : Nat) (x : Int), w.list[i]? = some x → (i : Int) ≤ x := by
    intro i
    induction i with
    | zero =>
      intro x hx
      have := inR_t (List.all_eq_true.1 h1 x (List.mem_of_getElem? hx)); omega
    | succ i ih =>
      intro x hx
      have hl := (List.getElem?_eq_some_iff.1 hx).1
      have := h2 i w.list[i] x (List.getElem?_eq_getElem (by omega)) hx
      have := ih w.list[i] (List.getElem?_eq_getElem (by omega))
      omega
  rcases Nat.lt_or_ge w.list.length 11 with hlt | hge
  · omega
  · have e := List.getElem?_eq_getElem (l := w.list) (i := 10) (by omega)
    have := key 10 _ e
    have := inR_t (List.all_eq_true.1 h1 _ (List.mem_of_getElem? e))
    omega
theorem okW_pairslen {w : Wi} (h : okW w = true) : w.pairs.length ≤ 8 := by
  by_cases hk : w.kind = 4
  · exact okP_len (okW_pairs h hk)
  · rw [okW_eq] at h
    simp only [Bool.and_eq_true, if_neg hk, decide_eq_true_eq] at h
    rw [h.2]; simp
theorem rank_bd {w : Wi} {v : Int} (h1 : 0 ≤ w.value ∧ w.value ≤ 9) (h2 : 0 ≤ v ∧ v ≤ 9) : 0 ≤ rank w v ∧ rank w v ≤ 9 := by
  unfold rank
  split
  · exact h2
  · split
    · omega
    · split
      · omega
      · split <;> omega
end Go.Proofs.Ytgjghpaenliliaa.P
