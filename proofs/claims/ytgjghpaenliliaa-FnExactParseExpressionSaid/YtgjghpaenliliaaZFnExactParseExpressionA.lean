/-
  The given statement on laws.FnExactParseExpression: for every input that the row speaks of, the call returns true and the arguments read as before.
  Conditions: none beyond the row's own.
-/
import Derived.Test.YtgjghpaenliliaaW72
import Derived.Test.YtgjghpaenliliaaW34
import Derived.Test.YtgjghpaenliliaaP4
import Derived.Test.YtgjghpaenliliaaW31
import Derived.Test.YtgjghpaenliliaaW32
import Derived.Test.YtgjghpaenliliaaP10
import Derived.Test.YtgjghpaenliliaaW20
import Derived.Deep.RegionHeld3
import Derived.Deep.RegionWith
import Derived.Deep.CutRange
import Derived.Test.YtgjghpaenliliaaM9
import Derived.Test.YtgjghpaenliliaaM11
import Derived.OrdersHeld
namespace Go.Proofs.Ytgjghpaenliliaa.Wk
open Go.RowKit Go.Proofs.Ytgjghpaenliliaa.M
set_option linter.unusedVariables false

theorem pair_cut (p : Int × Int) : P.cut (pairS p) ⟨#[62]⟩ = [fmtS p.1, fmtS p.2] := by
  unfold pairS
  refine P.cut_join (b0 := 62) (bs := []) rfl ?_ (fun q hq => ?_)
  · rw [P.ba_app, P.ba_app]; simp [P.tails]
  · simp at hq
    rcases hq with rfl | rfl
    · exact fmtS_no (by decide)
    · exact fmtS_no (by decide)
theorem pairS_no (p : Int × Int) {b : UInt8} (h : b.toNat ≠ 45 ∧ (b.toNat < 48 ∨ 57 < b.toNat)) (h2 : b.toNat ≠ 62) : ∀ x ∈ (pairS p).data.toList, x ≠ b := by
  intro x hx
  unfold pairS at hx
  rw [P.ba_app, P.ba_app] at hx
  rcases List.mem_append.1 hx with hx | hx
  · rcases List.mem_append.1 hx with hx | hx
    · exact fmtS_no h x hx
    · simp at hx
      rintro rfl
      rw [hx] at h2
      exact h2 rfl
  · exact fmtS_no h x hx
theorem pairsS_some {l : List (Int × Int)} (h : P.okP l = true) (h0 : l ≠ []) : pairsS l = P.glue ⟨#[44]⟩ (l.map pairS) := by
  unfold pairsS; rw [h, if_pos rfl, if_neg h0]
theorem pairsS_none (h : P.okP [] = true) : pairsS [] = ⟨#[110, 111, 110, 101]⟩ := by
  unfold pairsS; rw [h]; rfl
theorem pairs_cut {l : List (Int × Int)} (h : P.okP l = true) (h0 : l ≠ []) : P.cut (pairsS l) ⟨#[44]⟩ = l.map pairS := by
  rw [pairsS_some h h0]
  refine P.cut_glue (b0 := 44) (bs := []) rfl (by simpa using h0) (fun q hq => ?_)
  obtain ⟨p, _, rfl⟩ := List.mem_map.1 hq
  exact pairS_no p (by decide) (by decide)
/-- A pair read from its two sides. -/
noncomputable def sideP (f : ByteArray → Int) (t : ByteArray) : Int × Int := (f ((P.cut t ⟨#[62]⟩).getD 0 ⟨#[]⟩), f ((P.cut t ⟨#[62]⟩).getD 1 ⟨#[]⟩))
/-- Every part has two sides. -/
def allTwo (s : ByteArray) : Prop := ∀ t ∈ P.cut s ⟨#[44]⟩, (P.cut t ⟨#[62]⟩).length = 2
noncomputable def rdPs (f : ByteArray → Int) (s : ByteArray) : List (Int × Int) := (P.cut s ⟨#[44]⟩).map (sideP f)
/-- Reads back what was written of a small number. -/
def Reads (f : ByteArray → Int) : Prop := ∀ n : Int, -1000000000 < n → n < 1000000000 → f (fmtS n) = n
theorem reads_piN : Reads fun t => piN t.data.toList := fun n h1 h2 => (piN_fmt h1 h2).1
theorem reads_l2N : Reads l2N := fun n h1 h2 => l2N_fmt h1 h2
theorem okP_bd {l : List (Int × Int)} (h : P.okP l = true) : ∀ p ∈ l, (0 ≤ p.1 ∧ p.1 ≤ 9) ∧ (0 ≤ p.2 ∧ p.2 ≤ 9) := fun p hp => P.inP_mem (P.okP_in h) hp
theorem sideP_pair {f : ByteArray → Int} (hf : Reads f) {p : Int × Int} (h : (0 ≤ p.1 ∧ p.1 ≤ 9) ∧ (0 ≤ p.2 ∧ p.2 ≤ 9)) : sideP f (pairS p) = p := by
  unfold sideP
  rw [pair_cut]
  simp only [List.getD_cons_zero, List.getD_cons_succ]
  rw [hf _ (by omega) (by omega), hf _ (by omega) (by omega)]
theorem rdPs_back {f : ByteArray → Int} (hf : Reads f) {l : List (Int × Int)} (h : P.okP l = true) (h0 : l ≠ []) : rdPs f (pairsS l) = l := by
  unfold rdPs
  rw [pairs_cut h h0, List.map_map]
  conv => rhs; rw [← List.map_id l]
  exact List.map_congr_left fun p hp => sideP_pair hf (okP_bd h p hp)
theorem two_back {l : List (Int × Int)} (h : P.okP l = true) (h0 : l ≠ []) : allTwo (pairsS l) := by
  intro t ht
  rw [pairs_cut h h0] at ht
  obtain ⟨p, _, rfl⟩ := List.mem_map.1 ht
  rw [pair_cut]; rfl
open Classical in
/-- The pairs that are written so. -/
noncomputable def parP (s : ByteArray) : List (Int × Int) := if h : ∃ l, P.okP l = true ∧ pairsS l = s then h.choose else []
open Classical in
noncomputable def parPB (s : ByteArray) : Bool := decide (∃ l, P.okP l = true ∧ pairsS l = s)
theorem pairsS_ok {l : List (Int × Int)} (h : pairsS l ≠ ⟨#[]⟩) : P.okP l = true := by
  cases e : P.okP l with
  | true => rfl
  | false => exact absurd (by unfold pairsS; rw [e]; rfl) h
theorem pairsS_nil_ne {l : List (Int × Int)} (h : P.okP l = true) (h0 : l ≠ []) : pairsS l ≠ ⟨#[110, 111, 110, 101]⟩ := by
  intro e
  have h1 := two_back h h0
  rw [e] at h1
  have h2 : P.cut ⟨#[110, 111, 110, 101]⟩ ⟨#[44]⟩ = [⟨#[110, 111, 110, 101]⟩] := P.cut_join (b0 := 44) (bs := []) (p := ⟨#[110, 111, 110, 101]⟩) (ps := []) rfl (by simp [P.tails]) (by decide)
  have h3 : P.cut ⟨#[110, 111, 110, 101]⟩ ⟨#[62]⟩ = [⟨#[110, 111, 110, 101]⟩] := P.cut_join (b0 := 62) (bs := []) (p := ⟨#[110, 111, 110, 101]⟩) (ps := []) rfl (by simp [P.tails]) (by decide)
  have := h1 ⟨#[110, 111, 110, 101]⟩ (by rw [h2]; simp)
  rw [h3] at this
  simp at this
theorem pairs_inj {l m : List (Int × Int)} (hl : P.okP l = true) (hm : P.okP m = true) (h : pairsS l = pairsS m) : l = m := by
  by_cases h0 : l = []
  · by_cases h1 : m = []
    · rw [h0, h1]
    · exfalso
      subst h0
      rw [pairsS_none hl] at h
      exact pairsS_nil_ne hm h1 h.symm
  · by_cases h1 : m = []
    · exfalso
      subst h1
      rw [pairsS_none hm] at h
      exact pairsS_nil_ne hl h0 h
    · rw [← rdPs_back reads_l2N hl h0, h, rdPs_back reads_l2N hm h1]
theorem parP_yes {l : List (Int × Int)} {s : ByteArray} (hx : P.okP l = true) (h : pairsS l = s) : parP s = l ∧ parPB s = true := by
  have he : ∃ x, P.okP x = true ∧ pairsS x = s := ⟨l, hx, h⟩
  unfold parP parPB
  rw [dif_pos he]
  refine ⟨pairs_inj he.choose_spec.1 hx (he.choose_spec.2.trans h.symm), ?_⟩
  simp only [decide_eq_true_eq]
  exact he
theorem parP_no {s : ByteArray} (h : ∀ l, P.okP l = true → pairsS l ≠ s) : parP s = [] ∧ parPB s = false := by
  have he : ¬ ∃ l, P.okP l = true ∧ pairsS l = s := fun ⟨x, h1, h2⟩ => h x h1 h2
  unfold parP parPB
  rw [dif_neg he]
  exact ⟨rfl, by simp only [decide_eq_false_iff_not]; exact he⟩
theorem okP_nil : P.okP [] = true := by
  refine P.okP_mk (P.inP_all fun i p hi _ => absurd hi (by simp)) (by simp) fun v hv => ?_
  cases e : P.abv [] v v with
  | false => rfl
  | true =>
    have hp := P.abv_iff.1 e
    exfalso
    have key : ∀ {a b : Int}, P.Path [] a b → False := by
      intro a b p
      induction p with
      | one hm => simp at hm
      | two _ _ h1 _ => exact h1
    exact key hp
/-- The text of no pairs. -/
theorem parP_none : parP ⟨#[110, 111, 110, 101]⟩ = [] ∧ parPB ⟨#[110, 111, 110, 101]⟩ = true := parP_yes okP_nil (pairsS_none okP_nil)
/-- A part without two sides: nothing is written so. -/
theorem parP_bad {s : ByteArray} (hs : s ≠ ⟨#[110, 111, 110, 101]⟩) {t : ByteArray} (ht : t ∈ P.cut s ⟨#[44]⟩) (h : (P.cut t ⟨#[62]⟩).length ≠ 2) : parP s = [] ∧ parPB s = false :=
  parP_no fun l hl e => by
    by_cases h0 : l = []
    · subst h0
      rw [pairsS_none hl] at e
      exact hs e.symm
    · exact h (two_back hl h0 t (by rw [e]; exact ht))
theorem parP_end {f : ByteArray → Int} (hf : Reads f) {s : ByteArray} (hs : s ≠ ⟨#[110, 111, 110, 101]⟩) : (s ≠ ⟨#[]⟩ → pairsS (rdPs f s) = s → parP s = rdPs f s ∧ parPB s = true) ∧ ((s = ⟨#[]⟩ ∨ pairsS (rdPs f s) ≠ s) → parP s = [] ∧ parPB s = false) := by
  refine ⟨fun h0 e => parP_yes (pairsS_ok (by rw [e]; exact h0)) e, fun h => parP_no fun l hl e => ?_⟩
  by_cases h0 : l = []
  · subst h0
    rw [pairsS_none hl] at e
    exact hs e.symm
  · rcases h with h | h
    · subst h
      have h1 := pairs_cut hl h0
      rw [e, cut_nil (by decide)] at h1
      have h2 := pair_cut (l.head h0)
      have h3 : l.map pairS = [⟨#[]⟩] := h1.symm
      have h4 : pairS (l.head h0) = ⟨#[]⟩ := by
        have : pairS (l.head h0) ∈ l.map pairS := List.mem_map.2 ⟨_, List.head_mem h0, rfl⟩
        rw [h3] at this
        simpa using this
      rw [h4, cut_nil (by decide)] at h2
      simp at h2
    · refine h ?_
      rw [← e, rdPs_back hf hl h0]
theorem parP_len (s : ByteArray) : (parP s).length ≤ 8 := by
  by_cases h : ∃ l, P.okP l = true ∧ pairsS l = s
  · obtain ⟨l, hl, he⟩ := h
    rw [(parP_yes hl he).1]
    exact P.okP_len hl
  · rw [(parP_no fun l hl e => h ⟨l, hl, e⟩).1]
    exact Nat.zero_le _
theorem parP_fit (s : ByteArray) : ∀ p ∈ parP s, Fit p.1 ∧ Fit p.2 := by
  by_cases h : ∃ l, P.okP l = true ∧ pairsS l = s
  · obtain ⟨l, hl, he⟩ := h
    rw [(parP_yes hl he).1]
    intro p hp
    have := okP_bd hl p hp
    unfold Fit; omega
  · rw [(parP_no fun l hl e => h ⟨l, hl, e⟩).1]
    simp
theorem rdPs_at {f : ByteArray → Int} {s : ByteArray} {k : Nat} {t : ByteArray} (h : (P.cut s ⟨#[44]⟩)[k]? = some t) : (rdPs f s)[k]? = some (sideP f t) := by
  unfold rdPs; rw [List.getElem?_map, h]; rfl
theorem rdPs_len (f : ByteArray → Int) (s : ByteArray) : (rdPs f s).length = (P.cut s ⟨#[44]⟩).length := by unfold rdPs; rw [List.length_map]
theorem rdPs_fit {f : ByteArray → Int} (hf : ∀ t, Fit (f t)) (s : ByteArray) : ∀ p ∈ rdPs f s, Fit p.1 ∧ Fit p.2 := by
  intro p hp
  unfold rdPs at hp
  obtain ⟨t, _, rfl⟩ := List.mem_map.1 hp
  exact ⟨hf _, hf _⟩
theorem prc_snoc2 {l : List (Int × Int)} {k : Nat} {p : Int × Int} (h : l[k]? = some p) : prc (l.take k) ++ [.int .i64 p.1, .int .i64 p.2] = prc (l.take (k + 1)) := by
  obtain ⟨hl, e⟩ := List.getElem?_eq_some_iff.1 h
  rw [List.take_succ_eq_append_getElem hl, e, prc_snoc]
/-- It returns pairs, their row the call's own, and a truth value. -/
def RetPB (w : World) (l : List (Int × Int)) (b : Bool) (e : Ending) (w' : World) : Prop := ∃ v, e = .returned (.tuple #[v, .bool b]) ∧ OwnPs w' w.heap.size w'.heap.size v l ∧ Below w.heap.size w w'
theorem ret_pb {b c : Bool} {v : Value} (h : b = c) : Ending.returned (.tuple #[v, .bool b]) = .returned (.tuple #[v, .bool c]) := by rw [h]
theorem ownPs_nil {w2 : World} {lo : Nat} (h : lo ≤ w2.heap.size) : OwnPs (w2.alloc (.cells #[] 92)) lo (w2.alloc (.cells #[] 92)).heap.size (.slice (some ⟨w2.heap.size, 0, none⟩) 0 0) [] :=
  ⟨own_mono (own_emptyS w2 92 2) h, own_und (own_emptyS w2 92 2)⟩
end Go.Proofs.Ytgjghpaenliliaa.Wk

namespace Go.Proofs.Ytgjghpaenliliaa.P
open Go.Proofs.Ytgjghpaenliliaa.M
set_option linter.unusedVariables false

/-- The first k values lie in their bounds, and rise. -/
def upL (l : List Int) (k : Nat) : Prop := ∀ i x, i < k → l[i]? = some x → inR x 0 9 = true ∧ ∀ y, 0 < i → l[i - 1]? = some y → y < x
/-- They all do. -/
def okL (l : List Int) : Bool := okV l && risL l
theorem risL_iff : ∀ l : List Int, risL l = true ↔ ∀ i x y, l[i]? = some x → l[i + 1]? = some y → x < y
  | [] => by simp [risL]
  | [a] => by simp [risL]
  | a :: b :: t => by
    rw [risL, Bool.and_eq_true, decide_eq_true_eq, risL_iff (b :: t)]
    constructor
    · rintro ⟨h1, h2⟩ i x y hx hy
      cases i with
      | zero => simp at hx hy; subst hx hy; exact h1
      | succ i => exact h2 i x y (by simpa using hx) (by simpa using hy)
    · intro h
      exact ⟨h 0 a b rfl rfl, fun i x y hx hy => h (i + 1) x y (by simpa using hx) (by simpa using hy)⟩
theorem upL_all {l : List Int} (h : upL l l.length) : okL l = true := by
  unfold okL okV
  rw [Bool.and_eq_true, List.all_eq_true, risL_iff]
  refine ⟨fun x hx => ?_, fun i x y hx hy => ?_⟩
  · obtain ⟨i, hi⟩ := List.getElem?_of_mem hx
    exact (h i x (List.getElem?_eq_some_iff.1 hi).1 hi).1
  · exact (h (i + 1) y (List.getElem?_eq_some_iff.1 hy).1 hy).2 x (by omega) (by simpa using hx)
theorem okL_bad1 {l : List Int} {k : Nat} {x : Int} (hx : l[k]? = some x) (h : inR x 0 9 = false) : okL l = false := by
  unfold okL okV
  have : (l.all fun v => inR v 0 9) = false := by rw [List.all_eq_false]; exact ⟨x, List.mem_of_getElem? hx, by simp [h]⟩
  rw [this]; rfl
theorem okL_bad2 {l : List Int} {k : Nat} {x y : Int} (hx : l[k]? = some x) (hy : l[k + 1]? = some y) (h : y ≤ x) : okL l = false := by
  unfold okL
  have : risL l = false := by
    cases hr : risL l with
    | false => rfl
    | true => have := (risL_iff l).1 hr k x y hx hy; omega
  rw [this]; simp
theorem upL_step {l : List Int} {k : Nat} {x : Int} (h : upL l k) (hx : l[k]? = some x) (h1 : inR x 0 9 = true) (h2 : ∀ y, 0 < k → l[k - 1]? = some y → y < x) : upL l (k + 1) := by
  intro i z hi hz
  rcases Nat.lt_or_ge i k with hlt | hge
  · exact h i z hlt hz
  · obtain rfl : i = k := by omega
    rw [hx] at hz; injection hz with hz; subst hz
    exact ⟨h1, fun y h0 hy => h2 y h0 hy⟩
theorem okL_nil : okL [] = true := rfl
theorem okW_eq (w : Wi) : okW w = (inR w.field 0 2 && inR w.kind 0 4 && inR w.value 0 9 && okL w.list && (decide (w.kind = 2) || decide (w.value = 0)) && (decide (w.kind = 3) == decide (w.list ≠ [])) && (if w.kind = 4 then okP w.pairs else decide (w.pairs = []))) := by
  obtain ⟨kind, field, value, list, pairs⟩ := w
  unfold okW
  simp only
  by_cases k0 : kind = 0
  · subst k0
    by_cases hv : value = 0
    · subst hv
      by_cases hl : list = []
      · subst hl; simp [inR, okL_nil]
      · simp [hl]
    · simp [hv]
  · by_cases k1 : kind = 1
    · subst k1
      by_cases hv : value = 0
      · subst hv
        by_cases hl : list = []
        · subst hl; simp [inR, okL_nil]
        · simp [hl]
      · simp [hv]
    · by_cases k2 : kind = 2
      · subst k2
        by_cases hl : list = []
        · subst hl; simp [inR, okL_nil, Bool.and_assoc]
        · simp [hl]
      · by_cases k3 : kind = 3
        · subst k3
          by_cases hv : value = 0
          · subst hv
            by_cases hl : list = []
            · subst hl; simp
            · simp [hl, inR, okL]
              cases okV list <;> cases risL list <;> simp
          · simp [hv]
        · by_cases k4 : kind = 4
          · subst k4
            by_cases hv : value = 0
            · subst hv
              by_cases hl : list = []
              · subst hl; simp [inR, okL_nil]
              · simp [hl]
            · simp [hv]
          · have : inR kind 0 4 = false := inR_no (by omega)
            simp [k0, k1, k2, k3, k4, this]
theorem okW_f1 {w : Wi} (h : inR w.field 0 2 = false) : okW w = false := by rw [okW_eq, h]; simp
theorem okW_f2 {w : Wi} (h : inR w.kind 0 4 = false) : okW w = false := by rw [okW_eq, h]; simp
theorem okW_f3 {w : Wi} (h : inR w.value 0 9 = false) : okW w = false := by rw [okW_eq, h]; simp
theorem okW_f4 {w : Wi} (h : okL w.list = false) : okW w = false := by rw [okW_eq, h]; simp
theorem okW_f5 {w : Wi} (h : w.kind ≠ 2) (h' : w.value ≠ 0) : okW w = false := by rw [okW_eq]; simp [h, h']
theorem okW_f6 {w : Wi} (h : w.kind = 3) (h' : w.list = []) : okW w = false := by rw [okW_eq]; simp [h, h']
theorem okW_f7 {w : Wi} (h : w.kind ≠ 3) (h' : w.list ≠ []) : okW w = false := by rw [okW_eq]; simp [h, h']
theorem okW_t4 {w : Wi} (h1 : inR w.field 0 2 = true) (h3 : okL w.list = true) (h5 : w.value = 0) (h6 : w.list = []) (h7 : w.kind = 4) : okW w = okP w.pairs := by
  rw [okW_eq, h1, h3, if_pos h7]; simp [h5, h6, h7, inR]
theorem okW_t {w : Wi} (h1 : inR w.field 0 2 = true) (h2 : inR w.kind 0 4 = true) (h3 : inR w.value 0 9 = true) (h4 : okL w.list = true) (h5 : w.kind = 2 ∨ w.value = 0) (h6 : w.kind = 3 ↔ w.list ≠ []) (h7 : w.kind ≠ 4) : okW w = decide (w.pairs = []) := by
  rw [okW_eq, h1, h2, h3, h4, if_neg h7]
  have e5 : (decide (w.kind = 2) || decide (w.value = 0)) = true := by rcases h5 with h | h <;> simp [h]
  have e6 : (decide (w.kind = 3) == decide (w.list ≠ [])) = true := by
    rw [beq_iff_eq]; exact decide_eq_decide.2 h6
  rw [e5, e6]; rfl
theorem okW_field {w : Wi} (h : okW w = true) : 0 ≤ w.field ∧ w.field ≤ 2 := by
  cases e : inR w.field 0 2 with
  | true => exact inR_t e
  | false => rw [okW_f1 e] at h; cases h
theorem okW_value {w : Wi} (h : okW w = true) : 0 ≤ w.value ∧ w.value ≤ 9 := by
  cases e : inR w.value 0 9 with
  | true => exact inR_t e
  | false => rw [okW_f3 e] at h; cases h
theorem okW_kind {w : Wi} (h : okW w = true) : 0 ≤ w.kind ∧ w.kind ≤ 4 := by
  cases e : inR w.kind 0 4 with
  | true => exact inR_t e
  | false => rw [okW_f2 e] at h; cases h
theorem okW_pairs {w : Wi} (h : okW w = true) (hk : w.kind = 4) : okP w.pairs = true := by
  rw [okW_eq] at h
  simp only [Bool.and_eq_true, hk, if_true] at h
  exact h.2
theorem okW_listlen {w : Wi} (h : okW w = true) : w.list.length ≤ 10 := by
  have hl : okL w.list = true := by
    rw [okW_eq] at h
    simp only [Bool.and_eq_true] at h
    exact h.1.1.1.2
  unfold okL at hl
  rw [Bool.and_eq_true] at hl
  obtain ⟨h1, h2⟩ := hl
  rw [risL_iff] at h2
  have key : ∀ (i : Nat) (x : Int), w.list[i]? = some x → (i : Int) ≤ x := by
    intro i
    induction i with
    | zero =>
      intro x hx
      have := inR_t (List.all_eq_true.1 h1 x (List.mem_of_getElem? hx)); omega
    | succ i ih =>
      intro x hx
      have hl := (List.getElem?_eq_some_iff.1 hx).1
      have := h2 i w.list[i] x (List.getElem?_eq_getElem (by omega)) hx
      have := ih w.list[i] (List.getElem?_eq_getElem (by omega))
      omega
  rcases Nat.lt_or_ge w.list.length 11 with hlt | hge
  · omega
  · have e := List.getElem?_eq_getElem (l := w.list) (i := 10) (by omega)
    have := key 10 _ e
    have := inR_t (List.all_eq_true.1 h1 _ (List.mem_of_getElem? e))
    omega
theorem okW_pairslen {w : Wi} (h : okW w = true) : w.pairs.length ≤ 8 := by
  by_cases hk : w.kind = 4
  · exact okP_len (okW_pairs h hk)
  · rw [okW_eq] at h
    simp only [Bool.and_eq_true, if_neg hk, decide_eq_true_eq] at h
    rw [h.2]; simp
theorem rank_bd {w : Wi} {v : Int} (h1 : 0 ≤ w.value ∧ w.value ≤ 9) (h2 : 0 ≤ v ∧ v ≤ 9) : 0 ≤ rank w v ∧ rank w v ≤ 9 := by
  unfold rank
  split
  · exact h2
  · split
    · omega
    · split
      · omega
      · split <;> omega
end Go.Proofs.Ytgjghpaenliliaa.P

namespace Go.Proofs.Ytgjghpaenliliaa.Wk
open Go.RowKit Go.Proofs.Ytgjghpaenliliaa.M
set_option linter.unusedVariables false
attribute [local go_sem] cell_grow

set_option maxHeartbeats 1600000 in
theorem l4List {A : Option Addr} {n c : Nat} {xs : List Int} (w : World) (h : Sl RI 1 w w.heap.size A n c xs) : Calls Try.prog 86 #[.slice A n c] w fun e w' => e = .returned (.bool (P.okL xs && decide (xs ≠ []))) ∧ Below w.heap.size w w' := by
  have m1 := Nat.le_trans h.le h.max
  unfold maxLen at m1
  have HL := Lib.hid h.len
  go_enter Try.func86, Try.ntmps86
  go_wp2
  go_loopw [3] (fun vk wr => ∃ k : Nat, k ≤ n ∧ vk = .int .i64 k ∧ Hid (P.upL xs k) ∧ Below w.heap.size w wr) (fun vk _ => n - (intOf vk).toNat)
  case atStart => exact ⟨0, Nat.zero_le _, rfl, fun i x hi => absurd hi (by omega), Below.refl _ _⟩
  case round =>
    obtain ⟨k, hk, rfl, hup, hbw⟩ := hrel
    have hC := cell_of hbw
    have hsz := hbw.size
    by_cases hlt : k < n
    · obtain ⟨b, o, x, rfl, hb, hx, hf, g0⟩ := h.int hlt
      have hb1 : b < wr.heap.size := by omega
      have q1 : (k : Int) < (n : Int) := by omega
      have HX := Lib.hid hx
      clear hx
      cases hr : P.inR x 0 9 with
      | false =>
        have HE : Hid ((P.okL xs && decide (xs ≠ [])) = false) := by show _ = _; rw [P.okL_bad1 HX.out hr]; rfl
        clear h
        go_wp2_with fail
        refine wp_region_qb (by kernel_rfl) (by kernel_rfl) ?_; (repeat (go_big_quiet_step ((go_at_call 39; exact quietSb hr (l1In _ _ _ _))))); refine wpQuiet_nil ?_; intro w8 hb8
        go_wp2
        go_ret
        exact ⟨ret_bool HE.out.symm, hbw.trans (hb8.mono hsz)⟩
      | true =>
        by_cases h0 : k = 0
        · have q0 : decide (0 < k) = false := by simp; omega
          have HU := Lib.hid (P.upL_step hup.out HX.out hr (fun y hy => absurd hy (by omega)))
          clear h h0
          go_wp2_with fail
          refine wp_region_qb (by kernel_rfl) (by kernel_rfl) ?_; (repeat (go_big_quiet_step ((go_at_call 39; exact quietSb hr (l1In _ _ _ _))))); refine wpQuiet_nil ?_; intro w8 hb8
          go_wp2
          go_roundw
          case rel => exact ⟨k + 1, by omega, by go_num, HU, hbw.trans (hb8.mono hsz)⟩
          case measure => simp [intOf]; omega
        · have hk1 : 1 ≤ k := by omega
          have q0 : decide (0 < k) = true := by simp; omega
          have e0 : IntKind.i64.wrap ((k : Int) - 1) = (k : Int) - 1 := IntWalk.i64_in _ (by omega)
          have e1 : ((k : Int) - 1).toNat = k - 1 := by omega
          obtain ⟨b', o', y, hA, hb', hy, hf', g0'⟩ := h.int (show k - 1 < n by omega)
          injection hA with hA
          injection hA with hA1 hA2
          subst hA1 hA2
          have HY := Lib.hid hy
          clear hy hb' h
          by_cases hid : x ≤ y
          · have q2 : decide (x ≤ y) = true := by simpa using hid
            have HE : Hid ((P.okL xs && decide (xs ≠ [])) = false) := by show _ = _; rw [P.okL_bad2 (k := k - 1) HY.out (by rw [show k - 1 + 1 = k by omega]; exact HX.out) hid]; rfl
            go_wp2_with fail
            refine wp_region_qb (by kernel_rfl) (by kernel_rfl) ?_; (repeat (go_big_quiet_step ((go_at_call 39; exact quietSb hr (l1In _ _ _ _))))); refine wpQuiet_nil ?_; intro w8 hb8
            go_wp2
            go_ret
            exact ⟨ret_bool HE.out.symm, hbw.trans (hb8.mono hsz)⟩
          · have q2 : decide (x ≤ y) = false := by simpa using hid
            have HU := Lib.hid (P.upL_step hup.out HX.out hr (fun z _ hz => by rw [HY.out] at hz; injection hz with hz; omega))
            go_wp2_with fail
            refine wp_region_qb (by kernel_rfl) (by kernel_rfl) ?_; (repeat (go_big_quiet_step ((go_at_call 39; exact quietSb hr (l1In _ _ _ _))))); refine wpQuiet_nil ?_; intro w8 hb8
            go_wp2
            go_roundw
            case rel => exact ⟨k + 1, by omega, by go_num, HU, hbw.trans (hb8.mono hsz)⟩
            case measure => simp [intOf]; omega
    · have HE : Hid ((P.okL xs && decide (xs ≠ [])) = decide (0 < n)) := by
        show _ = _
        rw [P.upL_all (by rw [HL.out, ← show k = n by omega]; exact hup.out), Bool.true_and]
        apply decide_eq_decide.2
        rw [← HL.out]
        exact List.length_pos_iff.symm
      clear h hC
      go_wp2
      go_ret
      exact ⟨ret_bool HE.out.symm, hbw⟩
theorem nil_iff {α : Type} {l : List α} {n : Nat} (h : l.length = n) : l = [] ↔ n = 0 := by
  constructor
  · rintro rfl; exact h.symm
  · intro e; exact List.eq_nil_of_length_eq_zero (by omega)
set_option maxHeartbeats 3200000 in
set_option maxRecDepth 100000 in
theorem specIsWish {A E : Option Addr} {n c m d : Nat} {x : Wi} (w : World) (h : Sl RI 1 w w.heap.size A n c x.list) (g : Sl RP 2 w w.heap.size E m d x.pairs) :
    Calls Try.prog 56 #[.agg #[.int .i64 x.kind, .int .i64 x.field, .int .i64 x.value, .slice A n c, .slice E m d]] w fun e w' => e = .returned (.bool (P.okW x)) ∧ Below w.heap.size w w' := by
  obtain ⟨kind, field, value, list, pairs⟩ := x
  simp only at h g ⊢
  have BW := (Below.refl w.heap.size w).alloc (Nat.le_refl _) (.cells #[.int .i64 kind, .int .i64 field, .int .i64 value, .slice A n c, .slice E m d] 53)
  have hsz := BW.size
  have H := Lib.hid (h.on RI.keeps BW)
  have G := Lib.hid (g.on RP.keeps BW)
  have NL := nil_iff h.len
  have NM := nil_iff g.len
  have m1 := Nat.le_trans h.le h.max
  have m2 := Nat.le_trans g.le g.max
  unfold maxLen at m1 m2

  cases hfd : P.inR field 0 2 with
  | false =>
    have HE : Hid (P.okW ⟨kind, field, value, list, pairs⟩ = false) := P.okW_f1 hfd
    clear h g NL NM
    go_enter Try.func56, Try.ntmps56
    go_wp2_with (first | (go_at_call 39; refine (l1In _ _ _ _).mono ?_; rintro e w' ⟨rfl, rfl⟩))
    go_ret
    exact ⟨ret_bool HE.out.symm, BW⟩
  | true =>
    by_cases k0 : kind = 0
    · subst k0
      by_cases hv : value = 0
      · have tv : (value == 0) = true := by simpa using hv
        by_cases hn0 : n = 0
        · have tn : ((n : Int) == 0) = true := by simp [hn0]
          have hl : list = [] := NL.2 hn0
          by_cases hm0 : m = 0
          · have tm : ((m : Int) == 0) = true := by simp [hm0]
            have hp : pairs = [] := NM.2 hm0
            have HE : Hid (P.okW ⟨0, field, value, list, pairs⟩ = true) := by
              show _ = _
              unfold P.okW
              simp [hv, hl, hp, hfd]
            clear h g NL NM hv hn0 hl hm0 hp
            go_enter Try.func56, Try.ntmps56
            go_wp2_with (first | (go_at_call 39; refine (l1In _ _ _ _).mono ?_; rintro e w' ⟨rfl, rfl⟩))
            go_ret
            exact ⟨ret_bool HE.out.symm, BW⟩
          · have tm : ((m : Int) == 0) = false := by simp; omega
            have hp : pairs ≠ [] := fun e => hm0 (NM.1 e)
            have HE : Hid (P.okW ⟨0, field, value, list, pairs⟩ = false) := by
              show _ = _
              unfold P.okW
              simp [hv, hl, hp, hfd]
            clear h g NL NM hv hn0 hl hm0 hp
            go_enter Try.func56, Try.ntmps56
            go_wp2_with (first | (go_at_call 39; refine (l1In _ _ _ _).mono ?_; rintro e w' ⟨rfl, rfl⟩))
            go_ret
            exact ⟨ret_bool HE.out.symm, BW⟩
        · have tn : ((n : Int) == 0) = false := by simp; omega
          have hl : list ≠ [] := fun e => hn0 (NL.1 e)
          have HE : Hid (P.okW ⟨0, field, value, list, pairs⟩ = false) := by
            show _ = _
            unfold P.okW
            simp [hv, hl, hfd]
          clear h g NL NM hv hn0 hl
          go_enter Try.func56, Try.ntmps56
          go_wp2_with (first | (go_at_call 39; refine (l1In _ _ _ _).mono ?_; rintro e w' ⟨rfl, rfl⟩))
          go_ret
          exact ⟨ret_bool HE.out.symm, BW⟩
      · have tv : (value == 0) = false := by simpa using hv
        have HE : Hid (P.okW ⟨0, field, value, list, pairs⟩ = false) := by
          show _ = _
          unfold P.okW
          simp [hv, hfd]
        clear h g NL NM hv
        go_enter Try.func56, Try.ntmps56
        go_wp2_with (first | (go_at_call 39; refine (l1In _ _ _ _).mono ?_; rintro e w' ⟨rfl, rfl⟩))
        go_ret
        exact ⟨ret_bool HE.out.symm, BW⟩
    by_cases k1 : kind = 1
    · subst k1
      by_cases hv : value = 0
      · have tv : (value == 0) = true := by simpa using hv
        by_cases hn0 : n = 0
        · have tn : ((n : Int) == 0) = true := by simp [hn0]
          have hl : list = [] := NL.2 hn0
          by_cases hm0 : m = 0
          · have tm : ((m : Int) == 0) = true := by simp [hm0]
            have hp : pairs = [] := NM.2 hm0
            have HE : Hid (P.okW ⟨1, field, value, list, pairs⟩ = true) := by
              show _ = _
              unfold P.okW
              simp [hv, hl, hp, hfd]
            clear h g NL NM hv hn0 hl hm0 hp
            go_enter Try.func56, Try.ntmps56
            go_wp2_with (first | (go_at_call 39; refine (l1In _ _ _ _).mono ?_; rintro e w' ⟨rfl, rfl⟩))
            go_ret
            exact ⟨ret_bool HE.out.symm, BW⟩
          · have tm : ((m : Int) == 0) = false := by simp; omega
            have hp : pairs ≠ [] := fun e => hm0 (NM.1 e)
            have HE : Hid (P.okW ⟨1, field, value, list, pairs⟩ = false) := by
              show _ = _
              unfold P.okW
              simp [hv, hl, hp, hfd]
            clear h g NL NM hv hn0 hl hm0 hp
            go_enter Try.func56, Try.ntmps56
            go_wp2_with (first | (go_at_call 39; refine (l1In _ _ _ _).mono ?_; rintro e w' ⟨rfl, rfl⟩))
            go_ret
            exact ⟨ret_bool HE.out.symm, BW⟩
        · have tn : ((n : Int) == 0) = false := by simp; omega
          have hl : list ≠ [] := fun e => hn0 (NL.1 e)
          have HE : Hid (P.okW ⟨1, field, value, list, pairs⟩ = false) := by
            show _ = _
            unfold P.okW
            simp [hv, hl, hfd]
          clear h g NL NM hv hn0 hl
          go_enter Try.func56, Try.ntmps56
          go_wp2_with (first | (go_at_call 39; refine (l1In _ _ _ _).mono ?_; rintro e w' ⟨rfl, rfl⟩))
          go_ret
          exact ⟨ret_bool HE.out.symm, BW⟩
      · have tv : (value == 0) = false := by simpa using hv
        have HE : Hid (P.okW ⟨1, field, value, list, pairs⟩ = false) := by
          show _ = _
          unfold P.okW
          simp [hv, hfd]
        clear h g NL NM hv
        go_enter Try.func56, Try.ntmps56
        go_wp2_with (first | (go_at_call 39; refine (l1In _ _ _ _).mono ?_; rintro e w' ⟨rfl, rfl⟩))
        go_ret
        exact ⟨ret_bool HE.out.symm, BW⟩
    by_cases k2 : kind = 2
    · subst k2
      cases hr : P.inR value 0 9 with
      | true =>
        by_cases hn0 : n = 0
        · have tn : ((n : Int) == 0) = true := by simp [hn0]
          have hl : list = [] := NL.2 hn0
          by_cases hm0 : m = 0
          · have tm : ((m : Int) == 0) = true := by simp [hm0]
            have hp : pairs = [] := NM.2 hm0
            have HE : Hid (P.okW ⟨2, field, value, list, pairs⟩ = true) := by
              show _ = _
              unfold P.okW
              simp [hr, hl, hp, hfd]
            clear h g NL NM hn0 hl hm0 hp
            go_enter Try.func56, Try.ntmps56
            go_wp2_with (first | (go_at_call 39; refine (l1In _ _ _ _).mono ?_; rintro e w' ⟨rfl, rfl⟩))
            go_ret
            exact ⟨ret_bool HE.out.symm, BW⟩
          · have tm : ((m : Int) == 0) = false := by simp; omega
            have hp : pairs ≠ [] := fun e => hm0 (NM.1 e)
            have HE : Hid (P.okW ⟨2, field, value, list, pairs⟩ = false) := by
              show _ = _
              unfold P.okW
              simp [hr, hl, hp, hfd]
            clear h g NL NM hn0 hl hm0 hp
            go_enter Try.func56, Try.ntmps56
            go_wp2_with (first | (go_at_call 39; refine (l1In _ _ _ _).mono ?_; rintro e w' ⟨rfl, rfl⟩))
            go_ret
            exact ⟨ret_bool HE.out.symm, BW⟩
        · have tn : ((n : Int) == 0) = false := by simp; omega
          have hl : list ≠ [] := fun e => hn0 (NL.1 e)
          have HE : Hid (P.okW ⟨2, field, value, list, pairs⟩ = false) := by
            show _ = _
            unfold P.okW
            simp [hr, hl, hfd]
          clear h g NL NM hn0 hl
          go_enter Try.func56, Try.ntmps56
          go_wp2_with (first | (go_at_call 39; refine (l1In _ _ _ _).mono ?_; rintro e w' ⟨rfl, rfl⟩))
          go_ret
          exact ⟨ret_bool HE.out.symm, BW⟩
      | false =>
        have HE : Hid (P.okW ⟨2, field, value, list, pairs⟩ = false) := by
          show _ = _
          unfold P.okW
          simp [hr, hfd]
        clear h g NL NM 
        go_enter Try.func56, Try.ntmps56
        go_wp2_with (first | (go_at_call 39; refine (l1In _ _ _ _).mono ?_; rintro e w' ⟨rfl, rfl⟩))
        go_ret
        exact ⟨ret_bool HE.out.symm, BW⟩
    by_cases k3 : kind = 3
    · subst k3
      by_cases hv : value = 0
      · have tv : (value == 0) = true := by simpa using hv
        cases hL : (P.okL list && decide (list ≠ [])) with
        | true =>
          have hL1 := hL
          unfold P.okL at hL1
          simp only [Bool.and_eq_true, decide_eq_true_eq] at hL1
          obtain ⟨⟨hL2, hL3⟩, hL4⟩ := hL1
          by_cases hm0 : m = 0
          · have tm : ((m : Int) == 0) = true := by simp [hm0]
            have hp : pairs = [] := NM.2 hm0
            have HE : Hid (P.okW ⟨3, field, value, list, pairs⟩ = true) := by
              show _ = _
              unfold P.okW
              simp [hv, hL2, hL3, hL4, hp, hfd]
            clear h g NL NM hv hL2 hL3 hL4 hm0 hp
            go_enter Try.func56, Try.ntmps56
            go_wp2_with (first | (go_at_call 39; refine (l1In _ _ _ _).mono ?_; rintro e w' ⟨rfl, rfl⟩) | (go_at_call 86; refine (l4List _ H.out).mono ?_; rintro e w2 ⟨rfl, b2⟩; rw [hL]; have hC := cell_of b2; have z1 : w.heap.size < w2.heap.size := (Nat.lt_of_lt_of_le (by simp) b2.size)))
            go_ret
            exact ⟨ret_bool HE.out.symm, BW.trans (b2.mono hsz)⟩
          · have tm : ((m : Int) == 0) = false := by simp; omega
            have hp : pairs ≠ [] := fun e => hm0 (NM.1 e)
            have HE : Hid (P.okW ⟨3, field, value, list, pairs⟩ = false) := by
              show _ = _
              unfold P.okW
              simp [hv, hL2, hL3, hL4, hp, hfd]
            clear h g NL NM hv hL2 hL3 hL4 hm0 hp
            go_enter Try.func56, Try.ntmps56
            go_wp2_with (first | (go_at_call 39; refine (l1In _ _ _ _).mono ?_; rintro e w' ⟨rfl, rfl⟩) | (go_at_call 86; refine (l4List _ H.out).mono ?_; rintro e w2 ⟨rfl, b2⟩; rw [hL]; have hC := cell_of b2; have z1 : w.heap.size < w2.heap.size := (Nat.lt_of_lt_of_le (by simp) b2.size)))
            go_ret
            exact ⟨ret_bool HE.out.symm, BW.trans (b2.mono hsz)⟩
        | false =>
          have hL1 : (decide (list ≠ []) && P.okV list && P.risL list) = false := by
            rw [← hL]; unfold P.okL; cases P.okV list <;> cases P.risL list <;> simp
          have HE : Hid (P.okW ⟨3, field, value, list, pairs⟩ = false) := by
            show _ = _
            unfold P.okW
            simp [hv, hfd]
            intro _ h1 h2; simpa [h1, h2] using hL1
          clear h g NL NM hv hL1
          go_enter Try.func56, Try.ntmps56
          go_wp2_with (first | (go_at_call 39; refine (l1In _ _ _ _).mono ?_; rintro e w' ⟨rfl, rfl⟩) | (go_at_call 86; refine (l4List _ H.out).mono ?_; rintro e w2 ⟨rfl, b2⟩; rw [hL]; have hC := cell_of b2; have z1 : w.heap.size < w2.heap.size := (Nat.lt_of_lt_of_le (by simp) b2.size)))
          go_ret
          exact ⟨ret_bool HE.out.symm, BW.trans (b2.mono hsz)⟩
      · have tv : (value == 0) = false := by simpa using hv
        have HE : Hid (P.okW ⟨3, field, value, list, pairs⟩ = false) := by
          show _ = _
          unfold P.okW
          simp [hv, hfd]
        clear h g NL NM hv
        go_enter Try.func56, Try.ntmps56
        go_wp2_with (first | (go_at_call 39; refine (l1In _ _ _ _).mono ?_; rintro e w' ⟨rfl, rfl⟩))
        go_ret
        exact ⟨ret_bool HE.out.symm, BW⟩
    by_cases k4 : kind = 4
    · subst k4
      by_cases hv : value = 0
      · have tv : (value == 0) = true := by simpa using hv
        by_cases hn0 : n = 0
        · have tn : ((n : Int) == 0) = true := by simp [hn0]
          have hl : list = [] := NL.2 hn0
          cases hP : P.okP pairs with
          | true =>
            have HE : Hid (P.okW ⟨4, field, value, list, pairs⟩ = true) := by
              show _ = _
              unfold P.okW
              simp [hv, hl, hP, hfd]
            clear h g NL NM hv hn0 hl
            go_enter Try.func56, Try.ntmps56
            go_wp2_with (first | (go_at_call 39; refine (l1In _ _ _ _).mono ?_; rintro e w' ⟨rfl, rfl⟩) | (go_at_call 87; refine (specArePairs _ G.out).mono ?_; rintro e w2 ⟨rfl, b2⟩; rw [hP]))
            go_ret
            exact ⟨ret_bool HE.out.symm, BW.trans (b2.mono hsz)⟩
          | false =>
            have HE : Hid (P.okW ⟨4, field, value, list, pairs⟩ = false) := by
              show _ = _
              unfold P.okW
              simp [hv, hl, hP, hfd]
            clear h g NL NM hv hn0 hl
            go_enter Try.func56, Try.ntmps56
            go_wp2_with (first | (go_at_call 39; refine (l1In _ _ _ _).mono ?_; rintro e w' ⟨rfl, rfl⟩) | (go_at_call 87; refine (specArePairs _ G.out).mono ?_; rintro e w2 ⟨rfl, b2⟩; rw [hP]))
            go_ret
            exact ⟨ret_bool HE.out.symm, BW.trans (b2.mono hsz)⟩
        · have tn : ((n : Int) == 0) = false := by simp; omega
          have hl : list ≠ [] := fun e => hn0 (NL.1 e)
          have HE : Hid (P.okW ⟨4, field, value, list, pairs⟩ = false) := by
            show _ = _
            unfold P.okW
            simp [hv, hl, hfd]
          clear h g NL NM hv hn0 hl
          go_enter Try.func56, Try.ntmps56
          go_wp2_with (first | (go_at_call 39; refine (l1In _ _ _ _).mono ?_; rintro e w' ⟨rfl, rfl⟩))
          go_ret
          exact ⟨ret_bool HE.out.symm, BW⟩
      · have tv : (value == 0) = false := by simpa using hv
        have HE : Hid (P.okW ⟨4, field, value, list, pairs⟩ = false) := by
          show _ = _
          unfold P.okW
          simp [hv, hfd]
        clear h g NL NM hv
        go_enter Try.func56, Try.ntmps56
        go_wp2_with (first | (go_at_call 39; refine (l1In _ _ _ _).mono ?_; rintro e w' ⟨rfl, rfl⟩))
        go_ret
        exact ⟨ret_bool HE.out.symm, BW⟩
    have t0 : (kind == 0) = false := by simpa using k0
    have t1 : (kind == 1) = false := by simpa using k1
    have t2 : (kind == 2) = false := by simpa using k2
    have t3 : (kind == 3) = false := by simpa using k3
    have t4 : (kind == 4) = false := by simpa using k4
    have HE : Hid (P.okW ⟨kind, field, value, list, pairs⟩ = false) := by
      show _ = _
      unfold P.okW
      simp [hfd, k0, k1, k2, k3, k4]
    clear h g NL NM k0 k1 k2 k3 k4
    go_enter Try.func56, Try.ntmps56
    go_wp2_with (first | (go_at_call 39; refine (l1In _ _ _ _).mono ?_; rintro e w' ⟨rfl, rfl⟩))
    go_ret
    exact ⟨ret_bool HE.out.symm, BW⟩
set_option maxHeartbeats 3200000 in
set_option maxRecDepth 100000 in
theorem implIsWish {A E : Option Addr} {n c m d : Nat} {x : Wi} (w : World) (h : Sl RI 1 w w.heap.size A n c x.list) (g : Sl RP 2 w w.heap.size E m d x.pairs) :
    Calls Try.prog 63 #[.agg #[.int .i64 x.kind, .int .i64 x.field, .int .i64 x.value, .slice A n c, .slice E m d]] w fun e w' => e = .returned (.bool (P.okW x)) ∧ Below w.heap.size w w' := by
  obtain ⟨kind, field, value, list, pairs⟩ := x
  simp only at h g ⊢
  have BW := (Below.refl w.heap.size w).alloc (Nat.le_refl _) (.cells #[.int .i64 kind, .int .i64 field, .int .i64 value, .slice A n c, .slice E m d] 53)
  have hsz := BW.size
  have H := Lib.hid (h.on RI.keeps BW)
  have G := Lib.hid (g.on RP.keeps BW)
  have NL := nil_iff h.len
  have NM := nil_iff g.len
  have m1 := Nat.le_trans h.le h.max
  have m2 := Nat.le_trans g.le g.max
  unfold maxLen at m1 m2

  have HL := Lib.hid h.len
  cases f1 : P.inR field 0 2 with
  | false =>
    have HE : Hid (P.okW ⟨kind, field, value, list, pairs⟩ = false) := P.okW_f1 f1
    clear h g NL NM
    go_enter Try.func63, Try.ntmps63
    go_wp2_with (go_at_call 42; refine (within _ _ _ _).mono ?_; rintro e w' ⟨rfl, rfl⟩)
    go_ret
    exact ⟨ret_bool HE.out.symm, BW⟩
  | true =>
  cases f2 : P.inR kind 0 4 with
  | false =>
    have HE : Hid (P.okW ⟨kind, field, value, list, pairs⟩ = false) := P.okW_f2 f2
    clear h g NL NM
    go_enter Try.func63, Try.ntmps63
    go_wp2_with (go_at_call 42; refine (within _ _ _ _).mono ?_; rintro e w' ⟨rfl, rfl⟩)
    go_ret
    exact ⟨ret_bool HE.out.symm, BW⟩
  | true =>
  cases f3 : P.inR value 0 9 with
  | false =>
    have HE : Hid (P.okW ⟨kind, field, value, list, pairs⟩ = false) := P.okW_f3 f3
    clear h g NL NM
    go_enter Try.func63, Try.ntmps63
    go_wp2_with (go_at_call 42; refine (within _ _ _ _).mono ?_; rintro e w' ⟨rfl, rfl⟩)
    go_ret
    exact ⟨ret_bool HE.out.symm, BW⟩
  | true =>
  have F1 := Lib.hid f1
  have F2 := Lib.hid f2
  have F3 := Lib.hid f3
  have HNL := Lib.hid NL
  have HNM := Lib.hid NM
  clear g NL NM
  go_enter Try.func63, Try.ntmps63
  go_wp2_with (go_at_call 42; refine (within _ _ _ _).mono ?_; rintro e w' ⟨rfl, rfl⟩)
  clear f1 f2 f3
  go_loop [3, 4, 24] (fun va vb vk => ∃ k : Nat, k ≤ n ∧ vk = .int .i64 k ∧ Hid (P.upL list k)) (fun _ _ vk => n - (intOf vk).toNat)
  case atStart => exact ⟨0, Nat.zero_le _, rfl, fun i x hi => absurd hi (by omega)⟩
  case round =>
    obtain ⟨k, hk, rfl, hup⟩ := hrel
    by_cases hlt : k < n
    · obtain ⟨b, o, x, rfl, hb, hx, hf, g0⟩ := h.int hlt
      have q1 : (k : Int) < (n : Int) := by omega
      have HX := Lib.hid hx
      clear hx
      cases hr : P.inR x 0 9 with
      | false =>
        have HE : Hid (P.okW ⟨kind, field, value, list, pairs⟩ = false) := P.okW_f4 (P.okL_bad1 HX.out hr)
        clear h
        go_wp2_with (go_at_call 42; refine (within _ _ _ _).mono ?_; rintro e w' ⟨rfl, rfl⟩)
        go_ret
        exact ⟨ret_bool HE.out.symm, BW⟩
      | true =>
        by_cases h0 : k = 0
        · have q0 : decide (0 < k) = false := by simp; omega
          have HU := Lib.hid (P.upL_step hup.out HX.out hr (fun y hy => absurd hy (by omega)))
          clear h h0
          go_wp2_with (go_at_call 42; refine (within _ _ _ _).mono ?_; rintro e w' ⟨rfl, rfl⟩)
          go_round
          case rel => exact ⟨k + 1, by omega, by go_num, HU⟩
          case measure => simp [intOf]; omega
        · have hk1 : 1 ≤ k := by omega
          have q0 : decide (0 < k) = true := by simp; omega
          have e0 : IntKind.i64.wrap ((k : Int) - 1) = (k : Int) - 1 := IntWalk.i64_in _ (by omega)
          have e1 : ((k : Int) - 1).toNat = k - 1 := by omega
          obtain ⟨b', o', y, hA, hb', hy, hf', g0'⟩ := h.int (show k - 1 < n by omega)
          injection hA with hA
          injection hA with hA1 hA2
          subst hA1 hA2
          have HY := Lib.hid hy
          clear hy hb' h
          by_cases hid : x ≤ y
          · have q2 : decide (x ≤ y) = true := by simpa using hid
            have HE : Hid (P.okW ⟨kind, field, value, list, pairs⟩ = false) := P.okW_f4 (P.okL_bad2 (k := k - 1) HY.out (by rw [show k - 1 + 1 = k by omega]; exact HX.out) hid)
            go_wp2_with (go_at_call 42; refine (within _ _ _ _).mono ?_; rintro e w' ⟨rfl, rfl⟩)
            go_ret
            exact ⟨ret_bool HE.out.symm, BW⟩
          · have q2 : decide (x ≤ y) = false := by simpa using hid
            have HU := Lib.hid (P.upL_step hup.out HX.out hr (fun z _ hz => by rw [HY.out] at hz; injection hz with hz; omega))
            go_wp2_with (go_at_call 42; refine (within _ _ _ _).mono ?_; rintro e w' ⟨rfl, rfl⟩)
            go_round
            case rel => exact ⟨k + 1, by omega, by go_num, HU⟩
            case measure => simp [intOf]; omega
    · have HK : Hid (P.okL list = true) := P.upL_all (by rw [HL.out, ← show k = n by omega]; exact hup.out)
      clear h hup
      by_cases k2 : kind = 2
      · have t2 : (kind != 2) = false := by simp [k2]
        have t3 : (kind == 3) = false := by simp [k2]
        have t4 : (kind == 4) = false := by simp [k2]
        by_cases hn0 : n = 0
        · have tn : decide (0 < n) = false := by simp; omega
          by_cases hm0 : m = 0
          · have tm : ((m : Int) == 0) = true := by simp [hm0]
            have HE : Hid (P.okW ⟨kind, field, value, list, pairs⟩ = true) := by show _ = _; rw [P.okW_t F1.out F2.out F3.out HK.out (.inl k2) (by simp only; constructor <;> intro e; omega; exact absurd (HNL.out.2 hn0) e) (by simp only; omega)]; exact decide_eq_true (HNM.out.2 hm0)
            clear hm0 k2 hn0
            go_wp2
            go_ret
            exact ⟨ret_bool HE.out.symm, BW⟩
          · have tm : ((m : Int) == 0) = false := by simp; omega
            have HE : Hid (P.okW ⟨kind, field, value, list, pairs⟩ = false) := by show _ = _; rw [P.okW_t F1.out F2.out F3.out HK.out (.inl k2) (by simp only; constructor <;> intro e; omega; exact absurd (HNL.out.2 hn0) e) (by simp only; omega)]; exact decide_eq_false (fun e => hm0 (HNM.out.1 e))
            clear hm0 k2 hn0
            go_wp2
            go_ret
            exact ⟨ret_bool HE.out.symm, BW⟩
        · have tn : decide (0 < n) = true := by simp; omega
          have HE : Hid (P.okW ⟨kind, field, value, list, pairs⟩ = false) := P.okW_f7 (by simp only; omega) (fun e => hn0 (HNL.out.1 e))
          clear hn0 k2
          go_wp2
          go_ret
          exact ⟨ret_bool HE.out.symm, BW⟩
      · have t2 : (kind != 2) = true := by simpa using k2
        by_cases hv : value = 0
        · have tv : (value != 0) = false := by simp [hv]
          by_cases k3 : kind = 3
          · have t3 : (kind == 3) = true := by simp [k3]
            have t4 : (kind == 4) = false := by simp [k3]
            by_cases hn0 : n = 0
            · have tn : decide (0 < n) = false := by simp; omega
              have HE : Hid (P.okW ⟨kind, field, value, list, pairs⟩ = false) := P.okW_f6 k3 (HNL.out.2 hn0)
              clear hn0 k2 k3 hv
              go_wp2
              go_ret
              exact ⟨ret_bool HE.out.symm, BW⟩
            · have tn : decide (0 < n) = true := by simp; omega
              by_cases hm0 : m = 0
              · have tm : ((m : Int) == 0) = true := by simp [hm0]
                have HE : Hid (P.okW ⟨kind, field, value, list, pairs⟩ = true) := by show _ = _; rw [P.okW_t F1.out F2.out F3.out HK.out (.inr hv) (by simp only; constructor <;> intro e; exact fun e => hn0 (HNL.out.1 e); exact k3) (by simp only; omega)]; exact decide_eq_true (HNM.out.2 hm0)
                clear hm0 k2 k3 hv hn0
                go_wp2
                go_ret
                exact ⟨ret_bool HE.out.symm, BW⟩
              · have tm : ((m : Int) == 0) = false := by simp; omega
                have HE : Hid (P.okW ⟨kind, field, value, list, pairs⟩ = false) := by show _ = _; rw [P.okW_t F1.out F2.out F3.out HK.out (.inr hv) (by simp only; constructor <;> intro e; exact fun e => hn0 (HNL.out.1 e); exact k3) (by simp only; omega)]; exact decide_eq_false (fun e => hm0 (HNM.out.1 e))
                clear hm0 k2 k3 hv hn0
                go_wp2
                go_ret
                exact ⟨ret_bool HE.out.symm, BW⟩
          · have t3 : (kind == 3) = false := by simpa using k3
            by_cases hn0 : n = 0
            · have tn : decide (0 < n) = false := by simp; omega
              by_cases k4 : kind = 4
              · have t4 : (kind == 4) = true := by simp [k4]
                have HE : Hid (P.okW ⟨kind, field, value, list, pairs⟩ = P.okP pairs) := P.okW_t4 F1.out HK.out hv (HNL.out.2 hn0) k4
                clear hn0 k2 k3 k4 hv
                go_wp2_with (go_at_call 89; refine (implArePairs _ G.out).mono ?_; rintro e w2 ⟨rfl, b2⟩)
                go_ret
                exact ⟨ret_bool HE.out.symm, BW.trans (b2.mono hsz)⟩
              · have t4 : (kind == 4) = false := by simpa using k4
                by_cases hm0 : m = 0
                · have tm : ((m : Int) == 0) = true := by simp [hm0]
                  have HE : Hid (P.okW ⟨kind, field, value, list, pairs⟩ = true) := by show _ = _; rw [P.okW_t F1.out F2.out F3.out HK.out (.inr hv) (by simp only; constructor <;> intro e; exact absurd e k3; exact absurd (HNL.out.2 hn0) e) k4]; exact decide_eq_true (HNM.out.2 hm0)
                  clear hm0 k2 k3 k4 hv hn0
                  go_wp2
                  go_ret
                  exact ⟨ret_bool HE.out.symm, BW⟩
                · have tm : ((m : Int) == 0) = false := by simp; omega
                  have HE : Hid (P.okW ⟨kind, field, value, list, pairs⟩ = false) := by show _ = _; rw [P.okW_t F1.out F2.out F3.out HK.out (.inr hv) (by simp only; constructor <;> intro e; exact absurd e k3; exact absurd (HNL.out.2 hn0) e) k4]; exact decide_eq_false (fun e => hm0 (HNM.out.1 e))
                  clear hm0 k2 k3 k4 hv hn0
                  go_wp2
                  go_ret
                  exact ⟨ret_bool HE.out.symm, BW⟩
            · have tn : decide (0 < n) = true := by simp; omega
              have HE : Hid (P.okW ⟨kind, field, value, list, pairs⟩ = false) := P.okW_f7 k3 (fun e => hn0 (HNL.out.1 e))
              clear hn0 k2 k3 hv
              go_wp2
              go_ret
              exact ⟨ret_bool HE.out.symm, BW⟩
        · have tv : (value != 0) = true := by simpa using hv
          have HE : Hid (P.okW ⟨kind, field, value, list, pairs⟩ = false) := P.okW_f5 k2 hv
          clear hv k2
          go_wp2
          go_ret
          exact ⟨ret_bool HE.out.symm, BW⟩
end Go.Proofs.Ytgjghpaenliliaa.Wk

namespace Go.Proofs.Ytgjghpaenliliaa.P
set_option linter.unusedVariables false

/-- The greatest number of pairs that lead down to a value, at most f of them. -/
def hgt (l : List (Int × Int)) : Nat → Int → Int
  | 0, _ => 0
  | f + 1, v => l.foldl (fun a p => if p.2 = v then max a (hgt l f p.1 + 1) else a) 0
/-- .. of the first k pairs. -/
def hgtK (l : List (Int × Int)) (f : Nat) (v : Int) (k : Nat) : Int := (l.take k).foldl (fun a p => if p.2 = v then max a (hgt l f p.1 + 1) else a) 0
theorem hgtK_all {l : List (Int × Int)} {f : Nat} {v : Int} {k : Nat} (h : l.length ≤ k) : hgtK l f v k = hgt l (f + 1) v := by
  unfold hgtK; rw [List.take_of_length_le h]; rfl
theorem hgtK_zero (l : List (Int × Int)) (f : Nat) (v : Int) : hgtK l f v 0 = 0 := by simp [hgtK]
theorem hgtK_yes {l : List (Int × Int)} {f : Nat} {v : Int} {k : Nat} {p : Int × Int} (hp : l[k]? = some p) (h : p.2 = v) : hgtK l f v (k + 1) = max (hgtK l f v k) (hgt l f p.1 + 1) := by
  obtain ⟨hl, e⟩ := List.getElem?_eq_some_iff.1 hp
  unfold hgtK
  rw [List.take_succ_eq_append_getElem hl, e, List.foldl_append]
  simp [h]
theorem hgtK_no {l : List (Int × Int)} {f : Nat} {v : Int} {k : Nat} {p : Int × Int} (hp : l[k]? = some p) (h : p.2 ≠ v) : hgtK l f v (k + 1) = hgtK l f v k := by
  obtain ⟨hl, e⟩ := List.getElem?_eq_some_iff.1 hp
  unfold hgtK
  rw [List.take_succ_eq_append_getElem hl, e, List.foldl_append]
  simp [h]
theorem fold_bd {l : List (Int × Int)} {g : Int → Int} {v c : Int} (hg : ∀ x, 0 ≤ g x ∧ g x ≤ c) : ∀ (m : List (Int × Int)) (a : Int), 0 ≤ a → a ≤ c + 1 →
    0 ≤ m.foldl (fun a p => if p.2 = v then max a (g p.1 + 1) else a) a ∧ m.foldl (fun a p => if p.2 = v then max a (g p.1 + 1) else a) a ≤ c + 1 := by
  intro m
  induction m with
  | nil => intro a h1 h2; exact ⟨h1, h2⟩
  | cons p t ih =>
    intro a h1 h2
    rw [List.foldl_cons]
    have := hg p.1
    split
    · exact ih _ (by omega) (by omega)
    · exact ih _ h1 h2
theorem hgt_bd (l : List (Int × Int)) : ∀ (f : Nat) (v : Int), 0 ≤ hgt l f v ∧ hgt l f v ≤ f
  | 0, v => by simp [hgt]
  | f + 1, v => by
    have := fold_bd (l := l) (g := hgt l f) (v := v) (c := f) (hgt_bd l f) l 0 (by omega) (by omega)
    rw [hgt]; omega
theorem hgtK_bd (l : List (Int × Int)) (f : Nat) (v : Int) (k : Nat) : 0 ≤ hgtK l f v k ∧ hgtK l f v k ≤ f + 1 :=
  fold_bd (l := l) (g := hgt l f) (v := v) (c := f) (hgt_bd l f) (l.take k) 0 (by omega) (by omega)
theorem count_lt {α : Type} {p q : α → Bool} (h : ∀ x, p x = true → q x = true) : ∀ (l : List α) (x : α), x ∈ l → q x = true → p x = false → (l.filter p).length < (l.filter q).length := by
  have le : ∀ l : List α, (l.filter p).length ≤ (l.filter q).length := by
    intro l
    induction l with
    | nil => simp
    | cons a t ih =>
      rw [List.filter_cons, List.filter_cons]
      cases hp : p a with
      | true => simp only [h a hp, if_true, List.length_cons]; omega
      | false =>
        simp only [Bool.false_eq_true, if_false]
        split
        · simp only [List.length_cons]; omega
        · exact ih
  intro l
  induction l with
  | nil => intro x hx; simp at hx
  | cons a t ih =>
    intro x hx hq hp
    rw [List.filter_cons, List.filter_cons]
    rcases List.mem_cons.1 hx with rfl | hx
    · simp only [hp, hq, if_true, Bool.false_eq_true, if_false, List.length_cons]
      have := le t; omega
    · have := ih x hx hq hp
      cases hpa : p a with
      | true => simp only [h a hpa, if_true, List.length_cons]; omega
      | false =>
        simp only [Bool.false_eq_true, if_false]
        split
        · simp only [List.length_cons]; omega
        · exact this
/-- How many values are above v. -/
noncomputable def rnk (l : List (Int × Int)) (v : Int) : Nat := ((List.range 10).filter fun u => abv l (u : Nat) v).length
theorem rnk_le (l : List (Int × Int)) (v : Int) : rnk l v ≤ 10 := by
  unfold rnk
  have := List.length_filter_le (fun u : Nat => abv l u v) (List.range 10)
  simpa using this
theorem rnk_lt {l : List (Int × Int)} (h : okP l = true) {p : Int × Int} (hp : p ∈ l) : rnk l p.1 < rnk l p.2 := by
  have hb := (inP_mem (okP_in h) hp).1
  have hp' : Path l p.1 p.2 := .one hp
  unfold rnk
  refine count_lt (fun u hu => abv_iff.2 (.two (abv_iff.1 hu) hp')) _ p.1.toNat (by simp; omega) ?_ ?_
  · show abv l (p.1.toNat : Nat) p.2 = true
    rw [show ((p.1.toNat : Nat) : Int) = p.1 by omega]; exact abv_iff.2 hp'
  · show abv l (p.1.toNat : Nat) p.1 = false
    rw [show ((p.1.toNat : Nat) : Int) = p.1 by omega]; exact okP_irr h p.1
end Go.Proofs.Ytgjghpaenliliaa.P

namespace Go.Proofs.Ytgjghpaenliliaa.Wk
open Go.RowKit Go.Proofs.Ytgjghpaenliliaa.M
set_option linter.unusedVariables false
attribute [local go_sem] cell_grow

/-- A row of a table. -/
def rowL (r : Nat → Bool) : List Value := (List.range 10).map fun j => .bool (r j)
theorem ix_tab (M : Nat → Nat → Bool) (w : World) : ∀ i : Nat, i < 10 → (Instr.index 111 (.agg (matC M).toArray) (.int .i64 (i : Int))).run Try.prog w = .ok (.agg (rowL (M i)).toArray) w
  | 0, _ => by kernel_rfl
  | 1, _ => by kernel_rfl
  | 2, _ => by kernel_rfl
  | 3, _ => by kernel_rfl
  | 4, _ => by kernel_rfl
  | 5, _ => by kernel_rfl
  | 6, _ => by kernel_rfl
  | 7, _ => by kernel_rfl
  | 8, _ => by kernel_rfl
  | 9, _ => by kernel_rfl
theorem ix_row (r : Nat → Bool) (w : World) : ∀ i : Nat, i < 10 → (Instr.index 110 (.agg (rowL r).toArray) (.int .i64 (i : Int))).run Try.prog w = .ok (.bool (r i)) w
  | 0, _ => by kernel_rfl
  | 1, _ => by kernel_rfl
  | 2, _ => by kernel_rfl
  | 3, _ => by kernel_rfl
  | 4, _ => by kernel_rfl
  | 5, _ => by kernel_rfl
  | 6, _ => by kernel_rfl
  | 7, _ => by kernel_rfl
  | 8, _ => by kernel_rfl
  | 9, _ => by kernel_rfl
/-- What IsAbove answers. -/
noncomputable def isAbv (l : List (Int × Int)) (a b : Int) : Bool := P.okP l && P.abv l a b
/-- What HeightOf answers. -/
noncomputable def heightOf (l : List (Int × Int)) (v : Int) : Int := if P.okP l && P.inR v 0 9 then P.hgt l 11 v else -1
end Go.Proofs.Ytgjghpaenliliaa.Wk

namespace Go.Proofs.Ytgjghpaenliliaa.Wk
open Go.RowKit Go.Proofs.Ytgjghpaenliliaa.M
set_option linter.unusedVariables false
attribute [local go_sem] cell_grow

theorem ret_two {a b : Int} {p q : Bool} (h : a = b ∧ p = q) : Ending.returned (.tuple #[.int .i64 a, .bool p]) = .returned (.tuple #[.int .i64 b, .bool q]) := by rw [h.1, h.2]
theorem indexInts {A : Option Addr} {n c : Nat} {xs : List Int} {x : Int} (w : World) (h : Sl RI 1 w w.heap.size A n c xs) : Calls Try.prog 114 #[.slice A n c, .int .i64 x] w fun e w' => e = .returned (.bool (decide (x ∈ xs))) ∧ w = w' := by
  have hIx : Calls Try.prog 115 #[.slice A n c, .int .i64 x] w fun e w' => (∃ k : Int, (0 ≤ k ↔ x ∈ xs) ∧ e = .returned (.int .i64 k)) ∧ w = w' := by
    have m1 := Nat.le_trans h.le h.max
    unfold maxLen at m1
    have HL := Lib.hid h.len
    go_enter Try.func115, Try.ntmps115
    go_wp2
    go_loop [5, 8] (fun va vk => ∃ k : Nat, k ≤ n ∧ vk = .int .i64 k ∧ Hid (∀ i y, i < k → xs[i]? = some y → x ≠ y)) (fun _ vk => n - (intOf vk).toNat)
    case atStart => exact ⟨0, Nat.zero_le _, rfl, fun i y hi => absurd hi (by omega)⟩
    case round =>
      obtain ⟨k, hk, rfl, hup⟩ := hrel
      by_cases hlt : k < n
      · obtain ⟨b, o, y, rfl, hb, hy, hf, hc⟩ := h.int hlt
        have HY := Lib.hid hy
        clear hy h
        by_cases hxy : x = y
        · have q : (x == y) = true := by simpa using hxy
          have HE : Hid (x ∈ xs) := by rw [hxy]; exact List.mem_of_getElem? HY.out
          clear hxy
          go_wp2
          go_ret
          exact ⟨⟨_, by simp [HE.out], rfl⟩, rfl⟩
        · have q : (x == y) = false := by simpa using hxy
          have HU := Lib.hid (P.before_step (Q := fun y => x ≠ y) hup.out HY.out hxy)
          clear hxy
          go_wp2
          go_round
          case rel => exact ⟨k + 1, by omega, by go_num, HU⟩
          case measure => simp [intOf]; omega
      · have HE : Hid (¬ x ∈ xs) := by
          intro hm
          obtain ⟨i, hi⟩ := List.getElem?_of_mem hm
          exact hup.out i x (by have := (List.getElem?_eq_some_iff.1 hi).1; have := HL.out; omega) hi rfl
        clear h
        go_wp2
        go_ret
        exact ⟨⟨_, by simp [HE.out], rfl⟩, rfl⟩
  go_enter Try.func114, Try.ntmps114
  go_wp2_with fail
  refine hIx.mono ?_
  rintro e w2 ⟨⟨k, hk, rfl⟩, rfl⟩
  by_cases h0 : 0 ≤ k
  · have q : decide (0 ≤ k) = true := by simpa using h0
    have HE : Hid (decide (x ∈ xs) = true) := decide_eq_true (hk.1 h0)
    clear hk h0 h hIx
    go_wp2
    go_ret
    exact ⟨ret_bool HE.out.symm, rfl⟩
  · have q : decide (0 ≤ k) = false := by simpa using h0
    have HE : Hid (decide (x ∈ xs) = false) := decide_eq_false (fun hm => h0 (hk.2 hm))
    clear hk h0 h hIx
    go_wp2
    go_ret
    exact ⟨ret_bool HE.out.symm, rfl⟩
set_option maxHeartbeats 1600000 in
theorem l4Rank {A E : Option Addr} {n c m d : Nat} {x : Wi} {v : Int} (w : World) (h : Sl RI 1 w w.heap.size A n c x.list) (hx : 0 ≤ x.value ∧ x.value ≤ 9) (hv : 0 ≤ v ∧ v ≤ 9) :
    Calls Try.prog 94 #[.agg #[.int .i64 x.kind, .int .i64 x.field, .int .i64 x.value, .slice A n c, .slice E m d], .int .i64 v] w fun e w' => e = .returned (.int .i64 (P.rank x v)) ∧ Below w.heap.size w w' := by
  have BW := (Below.refl w.heap.size w).alloc (Nat.le_refl _) (.cells #[.int .i64 x.kind, .int .i64 x.field, .int .i64 x.value, .slice A n c, .slice E m d] 53)
  have H := Lib.hid (h.on RI.keeps BW)
  obtain ⟨x0, x1⟩ := hx
  obtain ⟨v0, v1⟩ := hv
  clear h
  by_cases k0 : x.kind = 0
  · have t0 : (x.kind == 0) = true := by simpa using k0
    have HE : Hid (P.rank x v = v) := by show _ = _; unfold P.rank; rw [if_pos k0]
    clear k0
    go_enter Try.func94, Try.ntmps94
    go_wp2
    go_ret
    exact ⟨ret_int HE.out.symm, BW⟩
  · have t0 : (x.kind == 0) = false := by simpa using k0
    by_cases k1 : x.kind = 1
    · have t1 : (x.kind == 1) = true := by simpa using k1
      have HE : Hid (P.rank x v = 9 - v) := by show _ = _; unfold P.rank; rw [if_neg k0, if_pos k1]
      clear k0 k1
      go_enter Try.func94, Try.ntmps94
      go_wp2
      go_ret
      exact ⟨ret_int HE.out.symm, BW⟩
    · have t1 : (x.kind == 1) = false := by simpa using k1
      by_cases k2 : x.kind = 2
      · have t2 : (x.kind == 2) = true := by simpa using k2
        have HE : Hid (P.rank x v = max (v - x.value) (x.value - v)) := by show _ = _; unfold P.rank; rw [if_neg k0, if_neg k1, if_pos k2]
        clear k0 k1 k2
        go_enter Try.func94, Try.ntmps94
        go_wp2
        all_goals
          go_ret
          exact ⟨ret_int (by rw [HE.out]; omega), BW⟩
      · have t2 : (x.kind == 2) = false := by simpa using k2
        by_cases hm : v ∈ x.list
        · have q : decide (v ∈ x.list) = true := by simpa using hm
          have HE : Hid (P.rank x v = 0) := by show _ = _; unfold P.rank; rw [if_neg k0, if_neg k1, if_neg k2, if_pos hm]
          clear k0 k1 k2 hm
          go_enter Try.func94, Try.ntmps94
          go_wp2_with (go_at_call 109; refine (l2Has _ H.out).mono ?_; rintro e w' ⟨rfl, rfl⟩; rw [q])
          go_ret
          exact ⟨ret_int HE.out.symm, BW⟩
        · have q : decide (v ∈ x.list) = false := by simpa using hm
          have HE : Hid (P.rank x v = 1) := by show _ = _; unfold P.rank; rw [if_neg k0, if_neg k1, if_neg k2, if_neg hm]
          clear k0 k1 k2 hm
          go_enter Try.func94, Try.ntmps94
          go_wp2_with (go_at_call 109; refine (l2Has _ H.out).mono ?_; rintro e w' ⟨rfl, rfl⟩; rw [q])
          go_ret
          exact ⟨ret_int HE.out.symm, BW⟩
/-- What RankOfValue answers. -/
noncomputable def rovB (x : Wi) (v : Int) : Bool := P.okW x && !decide (x.kind = 4) && P.inR v 0 9
noncomputable def rovN (x : Wi) (v : Int) : Int := if rovB x v then P.rank x v else 0
theorem rov_no {x : Wi} {v : Int} (h : rovB x v = false) : (0 : Int) = rovN x v ∧ false = rovB x v := by unfold rovN; rw [h]; exact ⟨rfl, rfl⟩
theorem rov_yes {x : Wi} {v r : Int} (h : rovB x v = true) (hr : P.rank x v = r) : r = rovN x v ∧ true = rovB x v := by unfold rovN; rw [h, ← hr]; exact ⟨rfl, rfl⟩
theorem rovB_mk {x : Wi} {v : Int} (h1 : P.okW x = true) (h2 : x.kind ≠ 4) (h3 : P.inR v 0 9 = true) : rovB x v = true := by unfold rovB; rw [h1, h3]; simp [h2]
set_option maxHeartbeats 3200000 in
theorem implRankOfValue {A E : Option Addr} {n c m d : Nat} {x : Wi} {v : Int} (w : World) (h : Sl RI 1 w w.heap.size A n c x.list) (g : Sl RP 2 w w.heap.size E m d x.pairs) (f1 : Fit x.kind) (f2 : Fit x.field) (f3 : Fit x.value) (fv : Fit v) :
    Calls Try.prog 110 #[.agg #[.int .i64 x.kind, .int .i64 x.field, .int .i64 x.value, .slice A n c, .slice E m d], .int .i64 v] w fun e w' => e = .returned (.tuple #[.int .i64 (rovN x v), .bool (rovB x v)]) ∧ Below w.heap.size w w' := by
  have BW := (Below.refl w.heap.size w).alloc (Nat.le_refl _) (.cells #[.int .i64 x.kind, .int .i64 x.field, .int .i64 x.value, .slice A n c, .slice E m d] 53)
  have H := Lib.hid (h.on RI.keeps BW)
  have G := Lib.hid (g.on RP.keeps BW)
  have hsz := BW.size
  clear h g
  cases hok : P.okW x with
  | false =>
    have HE := Lib.hid (rov_no (x := x) (v := v) (by unfold rovB; rw [hok]; rfl))
    go_enter Try.func110, Try.ntmps110
    go_wp2_with (go_at_call 63; refine (implIsWish _ H.out G.out).mono ?_; rintro e w2 ⟨rfl, b2⟩; rw [hok])
    go_ret2
    exact ⟨ret_two HE.out, BW.trans (b2.mono hsz)⟩
  | true =>
    obtain ⟨x0, x1⟩ := P.okW_value hok
    cases hr : P.inR v 0 9 with
    | false =>
      have HE := Lib.hid (rov_no (x := x) (v := v) (by unfold rovB; rw [hr]; simp))
      clear x0
      go_enter Try.func110, Try.ntmps110
      go_wp2_with fail
      refine (implIsWish _ H.out G.out).mono ?_
      rintro e w2 ⟨rfl, b2⟩
      rw [hok]
      have hC := cell_of b2
      have z1 : w.heap.size < w2.heap.size := by have := b2.size; simp at this; omega
      have H2 := Lib.hid (H.out.on RI.keeps b2)
      go_wp2_with (first | (go_at_call 42; refine (within _ _ _ _).mono ?_; rintro e w' ⟨rfl, rfl⟩))
      go_ret2
      exact ⟨ret_two HE.out, BW.trans (b2.mono hsz)⟩
    | true =>
      obtain ⟨v0, v1⟩ := P.inR_t hr
      obtain ⟨kk0, kk4⟩ := P.okW_kind hok
      by_cases k0 : x.kind = 0
      · have t0 : (x.kind == 0) = true := by simpa using k0
        have HE := Lib.hid (rov_yes (r := v) (rovB_mk hok (by omega) hr) (by unfold P.rank; rw [if_pos k0]))
        clear k0
        go_enter Try.func110, Try.ntmps110
        go_wp2_with fail
        refine (implIsWish _ H.out G.out).mono ?_
        rintro e w2 ⟨rfl, b2⟩
        rw [hok]
        have hC := cell_of b2
        have z1 : w.heap.size < w2.heap.size := by have := b2.size; simp at this; omega
        have H2 := Lib.hid (H.out.on RI.keeps b2)
        go_wp2_with (first | (go_at_call 42; refine (within _ _ _ _).mono ?_; rintro e w' ⟨rfl, rfl⟩))
        go_ret2
        exact ⟨ret_two HE.out, BW.trans (b2.mono hsz)⟩
      · have t0 : (x.kind == 0) = false := by simpa using k0
        by_cases k1 : x.kind = 1
        · have t1 : (x.kind == 1) = true := by simpa using k1
          have HE := Lib.hid (rov_yes (r := 9 - v) (rovB_mk hok (by omega) hr) (by unfold P.rank; rw [if_neg k0, if_pos k1]))
          clear k0 k1
          go_enter Try.func110, Try.ntmps110
          go_wp2_with fail
          refine (implIsWish _ H.out G.out).mono ?_
          rintro e w2 ⟨rfl, b2⟩
          rw [hok]
          have hC := cell_of b2
          have z1 : w.heap.size < w2.heap.size := by have := b2.size; simp at this; omega
          have H2 := Lib.hid (H.out.on RI.keeps b2)
          go_wp2_with (first | (go_at_call 42; refine (within _ _ _ _).mono ?_; rintro e w' ⟨rfl, rfl⟩))
          go_ret2
          exact ⟨ret_two HE.out, BW.trans (b2.mono hsz)⟩
        · have t1 : (x.kind == 1) = false := by simpa using k1
          by_cases k2 : x.kind = 2
          · have t2 : (x.kind == 2) = true := by simpa using k2
            have HE := Lib.hid (rov_yes (r := max (v - x.value) (x.value - v)) (rovB_mk hok (by omega) hr) (by unfold P.rank; rw [if_neg k0, if_neg k1, if_pos k2]))
            clear k0 k1 k2
            go_enter Try.func110, Try.ntmps110
            go_wp2_with fail
            refine (implIsWish _ H.out G.out).mono ?_
            rintro e w2 ⟨rfl, b2⟩
            rw [hok]
            have hC := cell_of b2
            have z1 : w.heap.size < w2.heap.size := by have := b2.size; simp at this; omega
            have H2 := Lib.hid (H.out.on RI.keeps b2)
            go_wp2_with (first | (go_at_call 42; refine (within _ _ _ _).mono ?_; rintro e w' ⟨rfl, rfl⟩))
            all_goals
              go_ret2
              exact ⟨ret_two ⟨by rw [← HE.out.1]; omega, HE.out.2⟩, BW.trans (b2.mono hsz)⟩
          · have t2 : (x.kind == 2) = false := by simpa using k2
            by_cases k3 : x.kind = 3
            · have t3 : (x.kind == 3) = true := by simpa using k3
              by_cases hm : v ∈ x.list
              · have q : decide (v ∈ x.list) = true := by simpa using hm
                have HE := Lib.hid (rov_yes (r := 0) (rovB_mk hok (by omega) hr) (by unfold P.rank; rw [if_neg k0, if_neg k1, if_neg k2, if_pos hm]))
                clear k0 k1 k2 k3 hm
                go_enter Try.func110, Try.ntmps110
                go_wp2_with fail
                refine (implIsWish _ H.out G.out).mono ?_
                rintro e w2 ⟨rfl, b2⟩
                rw [hok]
                have hC := cell_of b2
                have z1 : w.heap.size < w2.heap.size := by have := b2.size; simp at this; omega
                have H2 := Lib.hid (H.out.on RI.keeps b2)
                go_wp2_with (first | (go_at_call 42; refine (within _ _ _ _).mono ?_; rintro e w' ⟨rfl, rfl⟩) | (go_at_call 114; refine (indexInts _ H2.out).mono ?_; rintro e w' ⟨rfl, rfl⟩; rw [q]))
                go_ret2
                exact ⟨ret_two HE.out, BW.trans (b2.mono hsz)⟩
              · have q : decide (v ∈ x.list) = false := by simpa using hm
                have HE := Lib.hid (rov_yes (r := 1) (rovB_mk hok (by omega) hr) (by unfold P.rank; rw [if_neg k0, if_neg k1, if_neg k2, if_neg hm]))
                clear k0 k1 k2 k3 hm
                go_enter Try.func110, Try.ntmps110
                go_wp2_with fail
                refine (implIsWish _ H.out G.out).mono ?_
                rintro e w2 ⟨rfl, b2⟩
                rw [hok]
                have hC := cell_of b2
                have z1 : w.heap.size < w2.heap.size := by have := b2.size; simp at this; omega
                have H2 := Lib.hid (H.out.on RI.keeps b2)
                go_wp2_with (first | (go_at_call 42; refine (within _ _ _ _).mono ?_; rintro e w' ⟨rfl, rfl⟩) | (go_at_call 114; refine (indexInts _ H2.out).mono ?_; rintro e w' ⟨rfl, rfl⟩; rw [q]))
                go_ret2
                exact ⟨ret_two HE.out, BW.trans (b2.mono hsz)⟩
            · have t3 : (x.kind == 3) = false := by simpa using k3
              have HE := Lib.hid (rov_no (x := x) (v := v) (by unfold rovB; simp [show x.kind = 4 by omega]))
              clear k0 k1 k2 k3
              go_enter Try.func110, Try.ntmps110
              go_wp2_with fail
              refine (implIsWish _ H.out G.out).mono ?_
              rintro e w2 ⟨rfl, b2⟩
              rw [hok]
              have hC := cell_of b2
              have z1 : w.heap.size < w2.heap.size := by have := b2.size; simp at this; omega
              have H2 := Lib.hid (H.out.on RI.keeps b2)
              go_wp2_with (first | (go_at_call 42; refine (within _ _ _ _).mono ?_; rintro e w' ⟨rfl, rfl⟩))
              go_ret2
              exact ⟨ret_two HE.out, BW.trans (b2.mono hsz)⟩
end Go.Proofs.Ytgjghpaenliliaa.Wk

namespace Go.Proofs.Ytgjghpaenliliaa.Wk
open Go.RowKit Go.Proofs.Ytgjghpaenliliaa.M
set_option linter.unusedVariables false
attribute [local go_sem] cell_grow

set_option maxHeartbeats 3200000 in
theorem l4Compare {A E : Option Addr} {n c m d : Nat} {x : Wi} {a b : Int} (w : World) (h : Sl RI 1 w w.heap.size A n c x.list) (g : Sl RP 2 w w.heap.size E m d x.pairs) (hok : P.okW x = true) (ha : 0 ≤ a ∧ a ≤ 9) (hb : 0 ≤ b ∧ b ≤ 9) :
    Calls Try.prog 69 #[.agg #[.int .i64 x.kind, .int .i64 x.field, .int .i64 x.value, .slice A n c, .slice E m d], .int .i64 a, .int .i64 b] w fun e w' => e = .returned (.int .i64 (P.cmpV x a b)) ∧ Below w.heap.size w w' := by
  have BW := (Below.refl w.heap.size w).alloc (Nat.le_refl _) (.cells #[.int .i64 x.kind, .int .i64 x.field, .int .i64 x.value, .slice A n c, .slice E m d] 53)
  have H := Lib.hid (h.on RI.keeps BW)
  have G := Lib.hid (g.on RP.keeps BW)
  have hsz := BW.size
  have hval := P.okW_value hok
  have HOK := Lib.hid hok
  have HM := Lib.hid g.len
  clear h g hok
  by_cases k4 : x.kind = 4
  · have t4 : (x.kind == 4) = true := by simpa using k4
    have hm8 : m ≤ 8 := by have := P.okW_pairslen HOK.out; have := HM.out; omega
    have fa : Fit a := by unfold Fit; omega
    have fb : Fit b := by unfold Fit; omega
    by_cases hab : a = b
    · have q : (a == b) = true := by simpa using hab
      have HE : Hid (P.cmpV x a b = 0) := by show _ = _; unfold P.cmpV; rw [if_pos k4, if_pos hab]
      clear k4 hab
      go_enter Try.func69, Try.ntmps69
      go_wp2_with fail
      go_ret
      exact ⟨ret_int HE.out.symm, BW⟩
    · have q : (a == b) = false := by simpa using hab
      cases h1 : P.abv x.pairs a b with
      | true =>
        have HE : Hid (P.cmpV x a b = 1) := by show _ = _; unfold P.cmpV; rw [if_pos k4, if_neg hab, h1]; rfl
        clear k4 hab
        go_enter Try.func69, Try.ntmps69
        go_wp2_with (go_at_call 93; refine (l3Reach _ G.out hm8 fa).mono ?_; rintro e w2 ⟨rfl, b2⟩; rw [h1])
        go_ret
        exact ⟨ret_int HE.out.symm, BW.trans (b2.mono hsz)⟩
      | false =>
        cases h2 : P.abv x.pairs b a with
        | true =>
          have HE : Hid (P.cmpV x a b = -1) := by show _ = _; unfold P.cmpV; rw [if_pos k4, if_neg hab, h1, h2]; rfl
          clear k4 hab
          go_enter Try.func69, Try.ntmps69
          go_wp2_with fail
          refine (l3Reach _ G.out hm8 fa).mono ?_
          rintro e w2 ⟨rfl, b2⟩
          rw [h1]
          have hC := cell_of b2
          have z1 : w.heap.size < w2.heap.size := Nat.lt_of_lt_of_le (by simp) b2.size
          have G2 := Lib.hid (G.out.on RP.keeps b2)
          go_wp2_with fail
          refine (l3Reach _ G2.out hm8 fb).mono ?_
          rintro e w3 ⟨rfl, b3⟩
          rw [h2]
          go_wp2_with fail
          go_ret
          exact ⟨ret_int HE.out.symm, (BW.trans (b2.mono hsz)).trans (b3.mono (BW.trans (b2.mono hsz)).size)⟩
        | false =>
          have HE : Hid (P.cmpV x a b = 2) := by show _ = _; unfold P.cmpV; rw [if_pos k4, if_neg hab, h1, h2]; rfl
          clear k4 hab
          go_enter Try.func69, Try.ntmps69
          go_wp2_with fail
          refine (l3Reach _ G.out hm8 fa).mono ?_
          rintro e w2 ⟨rfl, b2⟩
          rw [h1]
          have hC := cell_of b2
          have z1 : w.heap.size < w2.heap.size := Nat.lt_of_lt_of_le (by simp) b2.size
          have G2 := Lib.hid (G.out.on RP.keeps b2)
          go_wp2_with fail
          refine (l3Reach _ G2.out hm8 fb).mono ?_
          rintro e w3 ⟨rfl, b3⟩
          rw [h2]
          go_wp2_with fail
          go_ret
          exact ⟨ret_int HE.out.symm, (BW.trans (b2.mono hsz)).trans (b3.mono (BW.trans (b2.mono hsz)).size)⟩
  · have t4 : (x.kind == 4) = false := by simpa using k4
    have r1 := P.rank_bd hval ha
    have r2 := P.rank_bd hval hb
    have HE0 : Hid (P.cmpV x a b = if P.rank x a < P.rank x b then 1 else if P.rank x b < P.rank x a then -1 else 0) := by show _ = _; unfold P.cmpV; rw [if_neg k4]
    clear k4
    by_cases lt : P.rank x a < P.rank x b
    ·
      have HE : Hid (P.cmpV x a b = 1) := by show _ = _; rw [HE0.out, if_pos lt]
      go_enter Try.func69, Try.ntmps69
      go_wp2_with fail
      refine (l4Rank _ H.out hval ha).mono ?_
      rintro e w2 ⟨rfl, b2⟩
      have hC := cell_of b2
      have z1 : w.heap.size < w2.heap.size := Nat.lt_of_lt_of_le (by simp) b2.size
      have H2 := Lib.hid (H.out.on RI.keeps b2)
      go_wp2_with fail
      refine (l4Rank _ H2.out hval hb).mono ?_
      rintro e w3 ⟨rfl, b3⟩
      go_wp2_with fail
      go_ret
      exact ⟨ret_int HE.out.symm, (BW.trans (b2.mono hsz)).trans (b3.mono (BW.trans (b2.mono hsz)).size)⟩
    · by_cases gt : P.rank x b < P.rank x a
      ·
        have HE : Hid (P.cmpV x a b = -1) := by show _ = _; rw [HE0.out, if_neg lt, if_pos gt]
        go_enter Try.func69, Try.ntmps69
        go_wp2_with fail
        refine (l4Rank _ H.out hval ha).mono ?_
        rintro e w2 ⟨rfl, b2⟩
        have hC := cell_of b2
        have z1 : w.heap.size < w2.heap.size := Nat.lt_of_lt_of_le (by simp) b2.size
        have H2 := Lib.hid (H.out.on RI.keeps b2)
        go_wp2_with fail
        refine (l4Rank _ H2.out hval hb).mono ?_
        rintro e w3 ⟨rfl, b3⟩
        go_wp2_with fail
        go_ret
        exact ⟨ret_int HE.out.symm, (BW.trans (b2.mono hsz)).trans (b3.mono (BW.trans (b2.mono hsz)).size)⟩
      ·
        have HE : Hid (P.cmpV x a b = 0) := by show _ = _; rw [HE0.out, if_neg lt, if_neg gt]
        go_enter Try.func69, Try.ntmps69
        go_wp2_with fail
        refine (l4Rank _ H.out hval ha).mono ?_
        rintro e w2 ⟨rfl, b2⟩
        have hC := cell_of b2
        have z1 : w.heap.size < w2.heap.size := Nat.lt_of_lt_of_le (by simp) b2.size
        have H2 := Lib.hid (H.out.on RI.keeps b2)
        go_wp2_with fail
        refine (l4Rank _ H2.out hval hb).mono ?_
        rintro e w3 ⟨rfl, b3⟩
        go_wp2_with fail
        go_ret
        exact ⟨ret_int HE.out.symm, (BW.trans (b2.mono hsz)).trans (b3.mono (BW.trans (b2.mono hsz)).size)⟩
set_option maxHeartbeats 3200000 in
theorem implCompareValues {A E : Option Addr} {n c m d : Nat} {x : Wi} {a b : Int} (w : World) (h : Sl RI 1 w w.heap.size A n c x.list) (g : Sl RP 2 w w.heap.size E m d x.pairs) (f1 : Fit x.kind) (f2 : Fit x.field) (f3 : Fit x.value) (fa : Fit a) (fb : Fit b) :
    Calls Try.prog 97 #[.agg #[.int .i64 x.kind, .int .i64 x.field, .int .i64 x.value, .slice A n c, .slice E m d], .int .i64 a, .int .i64 b] w fun e w' => e = .returned (.int .i64 (P.cmpVals x a b)) ∧ Below w.heap.size w w' := by
  have BW := (Below.refl w.heap.size w).alloc (Nat.le_refl _) (.cells #[.int .i64 x.kind, .int .i64 x.field, .int .i64 x.value, .slice A n c, .slice E m d] 53)
  have H := Lib.hid (h.on RI.keeps BW)
  have G := Lib.hid (g.on RP.keeps BW)
  have hsz := BW.size
  clear h g
  cases hok : P.okW x with
  | false =>
    have HE : Hid (P.cmpVals x a b = 2) := by show _ = _; unfold P.cmpVals; rw [hok]; rfl
    go_enter Try.func97, Try.ntmps97
    go_wp2_with (go_at_call 63; refine (implIsWish _ H.out G.out).mono ?_; rintro e w2 ⟨rfl, b2⟩; rw [hok])
    go_ret
    exact ⟨ret_int HE.out.symm, BW.trans (b2.mono hsz)⟩
  | true =>
    cases ra : P.inR a 0 9 with
    | false =>
      have HE : Hid (P.cmpVals x a b = 2) := by show _ = _; unfold P.cmpVals; rw [hok, ra]; rfl
      go_enter Try.func97, Try.ntmps97
      go_wp2_with (first | (go_at_call 63; refine (implIsWish _ H.out G.out).mono ?_; rintro e w2 ⟨rfl, b2⟩; rw [hok]) | (go_at_call 42; refine (within _ _ _ _).mono ?_; rintro e w' ⟨rfl, rfl⟩))
      go_ret
      exact ⟨ret_int HE.out.symm, BW.trans (b2.mono hsz)⟩
    | true =>
      cases rb : P.inR b 0 9 with
      | false =>
        have HE : Hid (P.cmpVals x a b = 2) := by show _ = _; unfold P.cmpVals; rw [hok, ra, rb]; rfl
        go_enter Try.func97, Try.ntmps97
        go_wp2_with (first | (go_at_call 63; refine (implIsWish _ H.out G.out).mono ?_; rintro e w2 ⟨rfl, b2⟩; rw [hok]) | (go_at_call 42; refine (within _ _ _ _).mono ?_; rintro e w' ⟨rfl, rfl⟩))
        go_ret
        exact ⟨ret_int HE.out.symm, BW.trans (b2.mono hsz)⟩
      | true =>
        have ha := P.inR_t ra
        have hb := P.inR_t rb
        by_cases k4 : x.kind = 4
        · have t4 : (x.kind == 4) = true := by simpa using k4
          have hin := P.okP_in (P.okW_pairs hok k4)
          obtain ⟨a0, a1⟩ := ha
          obtain ⟨b0, b1⟩ := hb
          obtain ⟨i, rfl⟩ := Int.eq_ofNat_of_zero_le a0
          obtain ⟨j, rfl⟩ := Int.eq_ofNat_of_zero_le b0
          have i10 : i < 10 := by omega
          have j10 : j < 10 := by omega
          have HV : Hid (P.cmpVals x i j = if (i : Int) = j then 0 else if P.abv x.pairs i j then 1 else if P.abv x.pairs j i then -1 else 2) := by show _ = _; unfold P.cmpVals; rw [hok, ra, rb]; unfold P.cmpV; rw [if_pos k4]; rfl
          have HIN := Lib.hid hin
          clear k4 hin
          by_cases hij : (i : Int) = j
          · have t : ((i : Int) == (j : Int)) = true := by simpa using hij
            have t' : (i == j) = true := by simp; omega
            have h1 : True := trivial
            have h2 : True := trivial
            have HE : Hid (P.cmpVals x i j = 0) := by show _ = _; rw [HV.out, if_pos hij]
            have hzero := zero_tab
            have HOK := Lib.hid hok
            go_enter Try.func97, Try.ntmps97
            go_wp2_with fail
            refine (implIsWish _ H.out G.out).mono ?_
            rintro e w2 ⟨rfl, b2⟩
            rw [hok]
            clear hok
            have hC := cell_of b2
            have z1 : w.heap.size < w2.heap.size := Nat.lt_of_lt_of_le (by simp) b2.size
            have H2 := Lib.hid (H.out.on RI.keeps b2)
            have G2 := Lib.hid (G.out.on RP.keeps b2)
            have B2 := BW.trans (b2.mono hsz)
            go_wp2_with (go_at_call 42; refine (within _ _ _ _).mono ?_; rintro e w' ⟨rfl, rfl⟩)
            refine (above _ G2.out HIN.out).mono ?_
            rintro e w3 ⟨rfl, b3⟩
            have B3 := B2.trans (b3.mono B2.size)
            have r0 := Row.new w3 111 (matC fun _ _ => false)
            have hgz : w.heap.size ≤ w3.heap.size := B3.size
            have HB0 := B3.alloc hgz (.cells (matC fun _ _ => false).toArray 111)
            clear b3 B3 B2 hC
            have q1 : (i : Int) < 10 := by omega
            have q2 : (0 : Int) ≤ (i : Int) := by omega
            have q3 : (j : Int) < 10 := by omega
            have q4 : (0 : Int) ≤ (j : Int) := by omega
            clear hij
            go_wp2_with (refine store_row (by rfl) 111 _ _ (by rfl) w3.heap.size (matC fun x' y => P.abv x.pairs x' y) _ 111 (by rfl) (by rfl) r0 (sz_tab _) (by rw [matC_len, matC_len]) (matC_one _) ?_; intro w9 r9 hg9; have c1 := (r9.cell (i * 10 + j)).trans (matC_at _ i10 j10); have c2 := (r9.cell (j * 10 + i)).trans (matC_at _ j10 i10); (try rw [h1] at c1); (try rw [h2] at c2))
            go_ret
            exact ⟨ret_int HE.out.symm, HB0.grown hg9 HB0.size (fun k hk => by injection hk with hk; omega)⟩
          · have t : ((i : Int) == (j : Int)) = false := by simp; omega
            have t' : (i == j) = false := by simp; omega
            cases h1 : P.abv x.pairs i j with
            | true =>
              have h2 : True := trivial
              have HE : Hid (P.cmpVals x i j = 1) := by show _ = _; rw [HV.out, if_neg hij, h1]; rfl
              have hzero := zero_tab
              have HOK := Lib.hid hok
              go_enter Try.func97, Try.ntmps97
              go_wp2_with fail
              refine (implIsWish _ H.out G.out).mono ?_
              rintro e w2 ⟨rfl, b2⟩
              rw [hok]
              clear hok
              have hC := cell_of b2
              have z1 : w.heap.size < w2.heap.size := Nat.lt_of_lt_of_le (by simp) b2.size
              have H2 := Lib.hid (H.out.on RI.keeps b2)
              have G2 := Lib.hid (G.out.on RP.keeps b2)
              have B2 := BW.trans (b2.mono hsz)
              go_wp2_with (go_at_call 42; refine (within _ _ _ _).mono ?_; rintro e w' ⟨rfl, rfl⟩)
              refine (above _ G2.out HIN.out).mono ?_
              rintro e w3 ⟨rfl, b3⟩
              have B3 := B2.trans (b3.mono B2.size)
              have r0 := Row.new w3 111 (matC fun _ _ => false)
              have hgz : w.heap.size ≤ w3.heap.size := B3.size
              have HB0 := B3.alloc hgz (.cells (matC fun _ _ => false).toArray 111)
              clear b3 B3 B2 hC
              have q1 : (i : Int) < 10 := by omega
              have q2 : (0 : Int) ≤ (i : Int) := by omega
              have q3 : (j : Int) < 10 := by omega
              have q4 : (0 : Int) ≤ (j : Int) := by omega
              clear hij
              go_wp2_with (refine store_row (by rfl) 111 _ _ (by rfl) w3.heap.size (matC fun x' y => P.abv x.pairs x' y) _ 111 (by rfl) (by rfl) r0 (sz_tab _) (by rw [matC_len, matC_len]) (matC_one _) ?_; intro w9 r9 hg9; have c1 := (r9.cell (i * 10 + j)).trans (matC_at _ i10 j10); have c2 := (r9.cell (j * 10 + i)).trans (matC_at _ j10 i10); (try rw [h1] at c1); (try rw [h2] at c2))
              go_ret
              exact ⟨ret_int HE.out.symm, HB0.grown hg9 HB0.size (fun k hk => by injection hk with hk; omega)⟩
            | false =>
              cases h2 : P.abv x.pairs j i with
              | true =>
                have HE : Hid (P.cmpVals x i j = -1) := by show _ = _; rw [HV.out, if_neg hij, h1, h2]; rfl
                have hzero := zero_tab
                have HOK := Lib.hid hok
                go_enter Try.func97, Try.ntmps97
                go_wp2_with fail
                refine (implIsWish _ H.out G.out).mono ?_
                rintro e w2 ⟨rfl, b2⟩
                rw [hok]
                clear hok
                have hC := cell_of b2
                have z1 : w.heap.size < w2.heap.size := Nat.lt_of_lt_of_le (by simp) b2.size
                have H2 := Lib.hid (H.out.on RI.keeps b2)
                have G2 := Lib.hid (G.out.on RP.keeps b2)
                have B2 := BW.trans (b2.mono hsz)
                go_wp2_with (go_at_call 42; refine (within _ _ _ _).mono ?_; rintro e w' ⟨rfl, rfl⟩)
                refine (above _ G2.out HIN.out).mono ?_
                rintro e w3 ⟨rfl, b3⟩
                have B3 := B2.trans (b3.mono B2.size)
                have r0 := Row.new w3 111 (matC fun _ _ => false)
                have hgz : w.heap.size ≤ w3.heap.size := B3.size
                have HB0 := B3.alloc hgz (.cells (matC fun _ _ => false).toArray 111)
                clear b3 B3 B2 hC
                have q1 : (i : Int) < 10 := by omega
                have q2 : (0 : Int) ≤ (i : Int) := by omega
                have q3 : (j : Int) < 10 := by omega
                have q4 : (0 : Int) ≤ (j : Int) := by omega
                clear hij
                go_wp2_with (refine store_row (by rfl) 111 _ _ (by rfl) w3.heap.size (matC fun x' y => P.abv x.pairs x' y) _ 111 (by rfl) (by rfl) r0 (sz_tab _) (by rw [matC_len, matC_len]) (matC_one _) ?_; intro w9 r9 hg9; have c1 := (r9.cell (i * 10 + j)).trans (matC_at _ i10 j10); have c2 := (r9.cell (j * 10 + i)).trans (matC_at _ j10 i10); (try rw [h1] at c1); (try rw [h2] at c2))
                go_ret
                exact ⟨ret_int HE.out.symm, HB0.grown hg9 HB0.size (fun k hk => by injection hk with hk; omega)⟩
              | false =>
                have HE : Hid (P.cmpVals x i j = 2) := by show _ = _; rw [HV.out, if_neg hij, h1, h2]; rfl
                have hzero := zero_tab
                have HOK := Lib.hid hok
                go_enter Try.func97, Try.ntmps97
                go_wp2_with fail
                refine (implIsWish _ H.out G.out).mono ?_
                rintro e w2 ⟨rfl, b2⟩
                rw [hok]
                clear hok
                have hC := cell_of b2
                have z1 : w.heap.size < w2.heap.size := Nat.lt_of_lt_of_le (by simp) b2.size
                have H2 := Lib.hid (H.out.on RI.keeps b2)
                have G2 := Lib.hid (G.out.on RP.keeps b2)
                have B2 := BW.trans (b2.mono hsz)
                go_wp2_with (go_at_call 42; refine (within _ _ _ _).mono ?_; rintro e w' ⟨rfl, rfl⟩)
                refine (above _ G2.out HIN.out).mono ?_
                rintro e w3 ⟨rfl, b3⟩
                have B3 := B2.trans (b3.mono B2.size)
                have r0 := Row.new w3 111 (matC fun _ _ => false)
                have hgz : w.heap.size ≤ w3.heap.size := B3.size
                have HB0 := B3.alloc hgz (.cells (matC fun _ _ => false).toArray 111)
                clear b3 B3 B2 hC
                have q1 : (i : Int) < 10 := by omega
                have q2 : (0 : Int) ≤ (i : Int) := by omega
                have q3 : (j : Int) < 10 := by omega
                have q4 : (0 : Int) ≤ (j : Int) := by omega
                clear hij
                go_wp2_with (refine store_row (by rfl) 111 _ _ (by rfl) w3.heap.size (matC fun x' y => P.abv x.pairs x' y) _ 111 (by rfl) (by rfl) r0 (sz_tab _) (by rw [matC_len, matC_len]) (matC_one _) ?_; intro w9 r9 hg9; have c1 := (r9.cell (i * 10 + j)).trans (matC_at _ i10 j10); have c2 := (r9.cell (j * 10 + i)).trans (matC_at _ j10 i10); (try rw [h1] at c1); (try rw [h2] at c2))
                go_ret
                exact ⟨ret_int HE.out.symm, HB0.grown hg9 HB0.size (fun k hk => by injection hk with hk; omega)⟩
        · have t4 : (x.kind == 4) = false := by simpa using k4
          have HE0 : Hid (P.cmpVals x a b = if P.rank x a < P.rank x b then 1 else if P.rank x b < P.rank x a then -1 else 0) := by show _ = _; unfold P.cmpVals; rw [hok, ra, rb]; unfold P.cmpV; rw [if_neg k4]; rfl
          have e1 : rovN x a = P.rank x a := by unfold rovN; rw [rovB_mk hok k4 ra]; rfl
          have e2 : rovN x b = P.rank x b := by unfold rovN; rw [rovB_mk hok k4 rb]; rfl
          have HF := Lib.hid (And.intro f1 (And.intro f2 f3))
          have r1 := P.rank_bd (P.okW_value hok) ha
          have r2 := P.rank_bd (P.okW_value hok) hb
          clear k4
          by_cases lt : P.rank x a < P.rank x b
          ·
            have HE : Hid (P.cmpVals x a b = 1) := by show _ = _; rw [HE0.out, if_pos lt]
            have HOK := Lib.hid hok
            go_enter Try.func97, Try.ntmps97
            go_wp2_with fail
            refine (implIsWish _ H.out G.out).mono ?_
            rintro e w2 ⟨rfl, b2⟩
            rw [hok]
            clear hok
            have hC := cell_of b2
            have z1 : w.heap.size < w2.heap.size := Nat.lt_of_lt_of_le (by simp) b2.size
            have H2 := Lib.hid (H.out.on RI.keeps b2)
            have G2 := Lib.hid (G.out.on RP.keeps b2)
            have B2 := BW.trans (b2.mono hsz)
            go_wp2_with (go_at_call 42; refine (within _ _ _ _).mono ?_; rintro e w' ⟨rfl, rfl⟩)
            refine (implRankOfValue _ H2.out G2.out f1 f2 f3 fa).mono ?_
            rintro e w3 ⟨rfl, b3⟩
            rw [e1]
            have B3 := B2.trans (b3.mono B2.size)
            have hC3 := cell_of b3
            have z2 : w.heap.size < w3.heap.size := Nat.lt_of_lt_of_le z1 b3.size
            have H3 := Lib.hid (H2.out.on RI.keeps b3)
            have G3 := Lib.hid (G2.out.on RP.keeps b3)
            go_wp2_with fail
            refine (implRankOfValue _ H3.out G3.out f1 f2 f3 fb).mono ?_
            rintro e w4 ⟨rfl, b4⟩
            rw [e2]
            go_wp2_with fail
            go_ret
            exact ⟨ret_int HE.out.symm, B3.trans (b4.mono B3.size)⟩
          · by_cases gt : P.rank x b < P.rank x a
            ·
              have HE : Hid (P.cmpVals x a b = -1) := by show _ = _; rw [HE0.out, if_neg lt, if_pos gt]
              have HOK := Lib.hid hok
              go_enter Try.func97, Try.ntmps97
              go_wp2_with fail
              refine (implIsWish _ H.out G.out).mono ?_
              rintro e w2 ⟨rfl, b2⟩
              rw [hok]
              clear hok
              have hC := cell_of b2
              have z1 : w.heap.size < w2.heap.size := Nat.lt_of_lt_of_le (by simp) b2.size
              have H2 := Lib.hid (H.out.on RI.keeps b2)
              have G2 := Lib.hid (G.out.on RP.keeps b2)
              have B2 := BW.trans (b2.mono hsz)
              go_wp2_with (go_at_call 42; refine (within _ _ _ _).mono ?_; rintro e w' ⟨rfl, rfl⟩)
              refine (implRankOfValue _ H2.out G2.out f1 f2 f3 fa).mono ?_
              rintro e w3 ⟨rfl, b3⟩
              rw [e1]
              have B3 := B2.trans (b3.mono B2.size)
              have hC3 := cell_of b3
              have z2 : w.heap.size < w3.heap.size := Nat.lt_of_lt_of_le z1 b3.size
              have H3 := Lib.hid (H2.out.on RI.keeps b3)
              have G3 := Lib.hid (G2.out.on RP.keeps b3)
              go_wp2_with fail
              refine (implRankOfValue _ H3.out G3.out f1 f2 f3 fb).mono ?_
              rintro e w4 ⟨rfl, b4⟩
              rw [e2]
              go_wp2_with fail
              go_ret
              exact ⟨ret_int HE.out.symm, B3.trans (b4.mono B3.size)⟩
            ·
              have HE : Hid (P.cmpVals x a b = 0) := by show _ = _; rw [HE0.out, if_neg lt, if_neg gt]
              have HOK := Lib.hid hok
              go_enter Try.func97, Try.ntmps97
              go_wp2_with fail
              refine (implIsWish _ H.out G.out).mono ?_
              rintro e w2 ⟨rfl, b2⟩
              rw [hok]
              clear hok
              have hC := cell_of b2
              have z1 : w.heap.size < w2.heap.size := Nat.lt_of_lt_of_le (by simp) b2.size
              have H2 := Lib.hid (H.out.on RI.keeps b2)
              have G2 := Lib.hid (G.out.on RP.keeps b2)
              have B2 := BW.trans (b2.mono hsz)
              go_wp2_with (go_at_call 42; refine (within _ _ _ _).mono ?_; rintro e w' ⟨rfl, rfl⟩)
              refine (implRankOfValue _ H2.out G2.out f1 f2 f3 fa).mono ?_
              rintro e w3 ⟨rfl, b3⟩
              rw [e1]
              have B3 := B2.trans (b3.mono B2.size)
              have hC3 := cell_of b3
              have z2 : w.heap.size < w3.heap.size := Nat.lt_of_lt_of_le z1 b3.size
              have H3 := Lib.hid (H2.out.on RI.keeps b3)
              have G3 := Lib.hid (G2.out.on RP.keeps b3)
              go_wp2_with fail
              refine (implRankOfValue _ H3.out G3.out f1 f2 f3 fb).mono ?_
              rintro e w4 ⟨rfl, b4⟩
              rw [e2]
              go_wp2_with fail
              go_ret
              exact ⟨ret_int HE.out.symm, B3.trans (b4.mono B3.size)⟩
end Go.Proofs.Ytgjghpaenliliaa.Wk

namespace Go.Proofs.Ytgjghpaenliliaa.Wk
open Go.RowKit Go.Proofs.Ytgjghpaenliliaa.M
set_option linter.unusedVariables false
attribute [local go_sem] cell_grow

/-- What FormatWish writes. -/
noncomputable def wishS (x : Wi) : ByteArray :=
  if P.okW x then
    (if x.kind = 0 then ⟨#[108, 111, 119]⟩ ++ ⟨#[32, 102]⟩ ++ fmtS x.field
    else if x.kind = 1 then ⟨#[104, 105, 103, 104]⟩ ++ ⟨#[32, 102]⟩ ++ fmtS x.field
    else if x.kind = 2 then ⟨#[110, 101, 97, 114]⟩ ++ ⟨#[32, 102]⟩ ++ fmtS x.field ++ ⟨#[32]⟩ ++ fmtS x.value
    else if x.kind = 3 then ⟨#[97, 109, 111, 110, 103]⟩ ++ ⟨#[32, 102]⟩ ++ fmtS x.field ++ ⟨#[32]⟩ ++ numsS ⟨#[44]⟩ x.list
    else ⟨#[111, 114, 100, 101, 114]⟩ ++ ⟨#[32, 102]⟩ ++ fmtS x.field ++ ⟨#[32]⟩ ++ pairsS x.pairs)
  else ⟨#[]⟩
theorem pairsS_size {l : List (Int × Int)} (h : ∀ p ∈ l, Fit p.1 ∧ Fit p.2) : (pairsS l).size ≤ 40000 := by
  unfold pairsS
  split
  · rename_i hok
    split
    · decide
    · have := P.glueTo_size (b := ⟨#[44]⟩) (by decide) (pairS_all h) (l.map pairS).length
      unfold P.glue
      rw [List.length_map] at this ⊢
      have := P.okP_len hok
      omega
  · decide
theorem asc3 (a b c : ByteArray) : a ++ (b ++ c) = a ++ b ++ c := (ByteArray.append_assoc).symm
set_option maxHeartbeats 3200000 in
set_option maxRecDepth 100000 in
theorem specFormatWish {A E : Option Addr} {n c m d : Nat} {x : Wi} (w : World) (h : Sl RI 1 w w.heap.size A n c x.list) (g : Sl RP 2 w w.heap.size E m d x.pairs) (f1 : Fit x.kind) (f2 : Fit x.field) (f3 : Fit x.value) :
    Calls Try.prog 25 #[.agg #[.int .i64 x.kind, .int .i64 x.field, .int .i64 x.value, .slice A n c, .slice E m d]] w fun e w' => e = .returned (.string (wishS x)) ∧ Below w.heap.size w w' := by
  obtain ⟨kind, field, value, list, pairs⟩ := x
  simp only at h g f1 f2 f3 ⊢
  have BW := (Below.refl w.heap.size w).alloc (Nat.le_refl _) (.cells #[.int .i64 kind, .int .i64 field, .int .i64 value, .slice A n c, .slice E m d] 53)
  have H := Lib.hid (h.on RI.keeps BW)
  have G := Lib.hid (g.on RP.keeps BW)
  have HF := Lib.hid (V.fit ⟨A, n, c, rfl, h⟩)
  have HG := Lib.hid (fitPairs g)
  have HL := Lib.hid h.len
  have hsz := BW.size
  have ww0 : w.heap.size < (w.alloc (.cells #[.int .i64 kind, .int .i64 field, .int .i64 value, .slice A n c, .slice E m d] 53)).heap.size := by simp
  clear h g
  cases hok : P.okW ⟨kind, field, value, list, pairs⟩ with
  | false =>
    have HE : Hid (wishS ⟨kind, field, value, list, pairs⟩ = ⟨#[]⟩) := by show _ = _; unfold wishS; rw [hok]; rfl
    go_enter Try.func25, Try.ntmps25
    go_wp2_with (go_at_call 56; refine (specIsWish (x := ⟨kind, field, value, list, pairs⟩) _ H.out G.out).mono ?_; rintro e w2 ⟨rfl, b2⟩; rw [hok])
    go_ret
    exact ⟨ret_str HE.out.symm, BW.trans (b2.mono hsz)⟩
  | true =>
    obtain ⟨kk0, kk4⟩ := P.okW_kind hok
    have hn10 : n ≤ 1048576 := by have h1 : list.length ≤ 10 := P.okW_listlen hok; have h2 : list.length = n := HL.out; omega
    have s1 := fmtS_size f2
    have s2 := fmtS_size f3
    have s3 := numsS_size (t := ⟨#[44]⟩) (by decide) HF.out
    have hl10 := P.okW_listlen hok
    simp only at kk0 kk4 hl10
    have s4 := pairsS_size HG.out
    have s5 : (numsS ⟨#[44]⟩ list).size ≤ 50000 := by omega
    have s6 : (⟨#[32, 102]⟩ : ByteArray).size = 2 := rfl
    have s7 : (⟨#[32]⟩ : ByteArray).size = 1 := rfl
    clear s3 hl10
    by_cases k0 : kind = 0
    · subst k0
      have HE : Hid (wishS ⟨0, field, value, list, pairs⟩ = ⟨#[108, 111, 119]⟩ ++ ⟨#[32, 102]⟩ ++ fmtS field) := by
        show _ = _
        unfold wishS
        rw [hok, if_pos rfl, if_pos (show (0 : Int) = 0 from rfl)]
      have s8 : (⟨#[108, 111, 119]⟩ : ByteArray).size = 3 := rfl
      go_enter Try.func25, Try.ntmps25
      go_wp2_with fail
      refine (specIsWish (x := ⟨0, field, value, list, pairs⟩) _ H.out G.out).mono ?_
      rintro e w2 ⟨rfl, b2⟩
      rw [hok]
      clear hok
      have hC2 := cell_of b2
      have z0 : w.heap.size < w2.heap.size := Nat.lt_of_lt_of_le ww0 b2.size
      have B2 := BW.trans (b2.mono hsz)
      have H2 := Lib.hid (H.out.on RI.keeps b2)
      have G2 := Lib.hid (G.out.on RP.keeps b2)
      go_wp2_with fail
      refine (specFormatInt field f2 _).mono ?_
      rintro e w3 ⟨rfl, b3⟩
      have hC3 := cell_of b3
      have z1 : w.heap.size < w3.heap.size := Nat.lt_of_lt_of_le z0 b3.size
      have B3 := B2.trans (b3.mono B2.size)
      have H3 := Lib.hid (H2.out.on RI.keeps b3)
      have G3 := Lib.hid (G2.out.on RP.keeps b3)
      go_wp2_with fail
      go_ret
      exact ⟨ret_str (by rw [HE.out]; simp only [asc3]), B3⟩
    · by_cases k1 : kind = 1
      · subst k1
        have HE : Hid (wishS ⟨1, field, value, list, pairs⟩ = ⟨#[104, 105, 103, 104]⟩ ++ ⟨#[32, 102]⟩ ++ fmtS field) := by
          show _ = _
          unfold wishS
          rw [hok, if_pos rfl, if_neg (show ¬ (1 : Int) = 0 by decide), if_pos (show (1 : Int) = 1 from rfl)]
        have s8 : (⟨#[104, 105, 103, 104]⟩ : ByteArray).size = 4 := rfl
        go_enter Try.func25, Try.ntmps25
        go_wp2_with fail
        refine (specIsWish (x := ⟨1, field, value, list, pairs⟩) _ H.out G.out).mono ?_
        rintro e w2 ⟨rfl, b2⟩
        rw [hok]
        clear hok
        have hC2 := cell_of b2
        have z0 : w.heap.size < w2.heap.size := Nat.lt_of_lt_of_le ww0 b2.size
        have B2 := BW.trans (b2.mono hsz)
        have H2 := Lib.hid (H.out.on RI.keeps b2)
        have G2 := Lib.hid (G.out.on RP.keeps b2)
        go_wp2_with fail
        refine (specFormatInt field f2 _).mono ?_
        rintro e w3 ⟨rfl, b3⟩
        have hC3 := cell_of b3
        have z1 : w.heap.size < w3.heap.size := Nat.lt_of_lt_of_le z0 b3.size
        have B3 := B2.trans (b3.mono B2.size)
        have H3 := Lib.hid (H2.out.on RI.keeps b3)
        have G3 := Lib.hid (G2.out.on RP.keeps b3)
        go_wp2_with fail
        go_ret
        exact ⟨ret_str (by rw [HE.out]; simp only [asc3]), B3⟩
      · by_cases k2 : kind = 2
        · subst k2
          have HE : Hid (wishS ⟨2, field, value, list, pairs⟩ = ⟨#[110, 101, 97, 114]⟩ ++ ⟨#[32, 102]⟩ ++ fmtS field ++ ⟨#[32]⟩ ++ fmtS value) := by
            show _ = _
            unfold wishS
            rw [hok, if_pos rfl, if_neg (show ¬ (2 : Int) = 0 by decide), if_neg (show ¬ (2 : Int) = 1 by decide), if_pos (show (2 : Int) = 2 from rfl)]
          have s8 : (⟨#[110, 101, 97, 114]⟩ : ByteArray).size = 4 := rfl
          go_enter Try.func25, Try.ntmps25
          go_wp2_with fail
          refine (specIsWish (x := ⟨2, field, value, list, pairs⟩) _ H.out G.out).mono ?_
          rintro e w2 ⟨rfl, b2⟩
          rw [hok]
          clear hok
          have hC2 := cell_of b2
          have z0 : w.heap.size < w2.heap.size := Nat.lt_of_lt_of_le ww0 b2.size
          have B2 := BW.trans (b2.mono hsz)
          have H2 := Lib.hid (H.out.on RI.keeps b2)
          have G2 := Lib.hid (G.out.on RP.keeps b2)
          go_wp2_with fail
          refine (specFormatInt field f2 _).mono ?_
          rintro e w3 ⟨rfl, b3⟩
          have hC3 := cell_of b3
          have z1 : w.heap.size < w3.heap.size := Nat.lt_of_lt_of_le z0 b3.size
          have B3 := B2.trans (b3.mono B2.size)
          have H3 := Lib.hid (H2.out.on RI.keeps b3)
          have G3 := Lib.hid (G2.out.on RP.keeps b3)
          go_wp2_with (go_at_call 58; refine (specFormatInt value f3 _).mono ?_; rintro e w4 ⟨rfl, b4⟩)
          go_ret
          exact ⟨ret_str (by rw [HE.out]; simp only [asc3]), B3.trans (b4.mono B3.size)⟩
        · by_cases k3 : kind = 3
          · subst k3
            have HE : Hid (wishS ⟨3, field, value, list, pairs⟩ = ⟨#[97, 109, 111, 110, 103]⟩ ++ ⟨#[32, 102]⟩ ++ fmtS field ++ ⟨#[32]⟩ ++ numsS ⟨#[44]⟩ list) := by
              show _ = _
              unfold wishS
              rw [hok, if_pos rfl, if_neg (show ¬ (3 : Int) = 0 by decide), if_neg (show ¬ (3 : Int) = 1 by decide), if_neg (show ¬ (3 : Int) = 2 by decide), if_pos (show (3 : Int) = 3 from rfl)]
            have s8 : (⟨#[97, 109, 111, 110, 103]⟩ : ByteArray).size = 5 := rfl
            go_enter Try.func25, Try.ntmps25
            go_wp2_with fail
            refine (specIsWish (x := ⟨3, field, value, list, pairs⟩) _ H.out G.out).mono ?_
            rintro e w2 ⟨rfl, b2⟩
            rw [hok]
            clear hok
            have hC2 := cell_of b2
            have z0 : w.heap.size < w2.heap.size := Nat.lt_of_lt_of_le ww0 b2.size
            have B2 := BW.trans (b2.mono hsz)
            have H2 := Lib.hid (H.out.on RI.keeps b2)
            have G2 := Lib.hid (G.out.on RP.keeps b2)
            go_wp2_with fail
            refine (specFormatInt field f2 _).mono ?_
            rintro e w3 ⟨rfl, b3⟩
            have hC3 := cell_of b3
            have z1 : w.heap.size < w3.heap.size := Nat.lt_of_lt_of_le z0 b3.size
            have B3 := B2.trans (b3.mono B2.size)
            have H3 := Lib.hid (H2.out.on RI.keeps b3)
            have G3 := Lib.hid (G2.out.on RP.keeps b3)
            go_wp2_with (go_at_call 59; refine (l2List _ H3.out hn10).mono ?_; rintro e w4 ⟨rfl, b4⟩)
            go_ret
            exact ⟨ret_str (by rw [HE.out]; simp only [asc3]), B3.trans (b4.mono B3.size)⟩
          · obtain rfl : kind = 4 := by omega
            have HE : Hid (wishS ⟨4, field, value, list, pairs⟩ = ⟨#[111, 114, 100, 101, 114]⟩ ++ ⟨#[32, 102]⟩ ++ fmtS field ++ ⟨#[32]⟩ ++ pairsS pairs) := by
              show _ = _
              unfold wishS
              rw [hok, if_pos rfl, if_neg (show ¬ (4 : Int) = 0 by decide), if_neg (show ¬ (4 : Int) = 1 by decide), if_neg (show ¬ (4 : Int) = 2 by decide), if_neg (show ¬ (4 : Int) = 3 by decide)]
            have s8 : (⟨#[111, 114, 100, 101, 114]⟩ : ByteArray).size = 5 := rfl
            go_enter Try.func25, Try.ntmps25
            go_wp2_with fail
            refine (specIsWish (x := ⟨4, field, value, list, pairs⟩) _ H.out G.out).mono ?_
            rintro e w2 ⟨rfl, b2⟩
            rw [hok]
            clear hok
            have hC2 := cell_of b2
            have z0 : w.heap.size < w2.heap.size := Nat.lt_of_lt_of_le ww0 b2.size
            have B2 := BW.trans (b2.mono hsz)
            have H2 := Lib.hid (H.out.on RI.keeps b2)
            have G2 := Lib.hid (G.out.on RP.keeps b2)
            go_wp2_with fail
            refine (specFormatInt field f2 _).mono ?_
            rintro e w3 ⟨rfl, b3⟩
            have hC3 := cell_of b3
            have z1 : w.heap.size < w3.heap.size := Nat.lt_of_lt_of_le z0 b3.size
            have B3 := B2.trans (b3.mono B2.size)
            have H3 := Lib.hid (H2.out.on RI.keeps b3)
            have G3 := Lib.hid (G2.out.on RP.keeps b3)
            go_wp2_with (go_at_call 60; refine (specFormatPairs _ G3.out).mono ?_; rintro e w4 ⟨rfl, b4⟩)
            go_ret
            exact ⟨ret_str (by rw [HE.out]; simp only [asc3]), B3.trans (b4.mono B3.size)⟩
end Go.Proofs.Ytgjghpaenliliaa.Wk

namespace Go.Proofs.Ytgjghpaenliliaa.Wk
open Go.RowKit Go.Proofs.Ytgjghpaenliliaa.M
set_option linter.unusedVariables false
attribute [local go_sem] cell_grow

/-- A kind's word. -/
def kindW (k : Int) : ByteArray := if k = 0 then ⟨#[108, 111, 119]⟩ else if k = 1 then ⟨#[104, 105, 103, 104]⟩ else if k = 2 then ⟨#[110, 101, 97, 114]⟩ else if k = 3 then ⟨#[97, 109, 111, 110, 103]⟩ else ⟨#[111, 114, 100, 101, 114]⟩
theorem kindW_size (k : Int) : (kindW k).size ≤ 5 := by
  unfold kindW
  repeat' split
  all_goals decide
theorem kindW_at {k : Int} (h0 : 0 ≤ k) (h4 : k ≤ 4) : (#[Value.string ⟨#[108, 111, 119]⟩, .string ⟨#[104, 105, 103, 104]⟩, .string ⟨#[110, 101, 97, 114]⟩, .string ⟨#[97, 109, 111, 110, 103]⟩, .string ⟨#[111, 114, 100, 101, 114]⟩] : Array Value)[k.toNat]? = some (.string (kindW k)) := by
  rcases (by omega : k = 0 ∨ k = 1 ∨ k = 2 ∨ k = 3 ∨ k = 4) with rfl | rfl | rfl | rfl | rfl <;> rfl
theorem wishS_eq {x : Wi} (h : P.okW x = true) : wishS x = kindW x.kind ++ ⟨#[32, 102]⟩ ++ fmtS x.field ++ (if x.kind = 0 then ⟨#[]⟩ else if x.kind = 1 then ⟨#[]⟩ else if x.kind = 2 then ⟨#[32]⟩ ++ fmtS x.value else if x.kind = 3 then ⟨#[32]⟩ ++ numsS ⟨#[44]⟩ x.list else ⟨#[32]⟩ ++ pairsS x.pairs) := by
  unfold wishS kindW
  rw [h, if_pos rfl]
  repeat' split
  all_goals first | rfl | (simp only [asc3]; done) | (exact (ByteArray.append_empty).symm) | omega
set_option maxHeartbeats 6400000 in
set_option maxRecDepth 100000 in
theorem implFormatWish {A E : Option Addr} {n c m d : Nat} {x : Wi} (w : World) (h : Sl RI 1 w w.heap.size A n c x.list) (g : Sl RP 2 w w.heap.size E m d x.pairs) (f1 : Fit x.kind) (f2 : Fit x.field) (f3 : Fit x.value) :
    Calls Try.prog 29 #[.agg #[.int .i64 x.kind, .int .i64 x.field, .int .i64 x.value, .slice A n c, .slice E m d]] w fun e w' => e = .returned (.string (wishS x)) ∧ Below w.heap.size w w' := by
  obtain ⟨kind, field, value, list, pairs⟩ := x
  simp only at h g f1 f2 f3 ⊢
  have BW := (Below.refl w.heap.size w).alloc (Nat.le_refl _) (.cells #[.int .i64 kind, .int .i64 field, .int .i64 value, .slice A n c, .slice E m d] 53)
  have H := Lib.hid (h.on RI.keeps BW)
  have G := Lib.hid (g.on RP.keeps BW)
  have HF := Lib.hid (V.fit ⟨A, n, c, rfl, h⟩)
  have HG := Lib.hid (fitPairs g)
  have HL := Lib.hid h.len
  have hsz := BW.size
  have ww0 : w.heap.size < (w.alloc (.cells #[.int .i64 kind, .int .i64 field, .int .i64 value, .slice A n c, .slice E m d] 53)).heap.size := by simp
  clear h g
  cases hok : P.okW ⟨kind, field, value, list, pairs⟩ with
  | false =>
    have HE : Hid (wishS ⟨kind, field, value, list, pairs⟩ = ⟨#[]⟩) := by show _ = _; unfold wishS; rw [hok]; rfl
    go_enter Try.func29, Try.ntmps29
    go_wp2_with (go_at_call 63; refine (implIsWish (x := ⟨kind, field, value, list, pairs⟩) _ H.out G.out).mono ?_; rintro e w2 ⟨rfl, b2⟩; rw [hok])
    go_ret
    exact ⟨ret_str HE.out.symm, BW.trans (b2.mono hsz)⟩
  | true =>
    obtain ⟨kk0, kk4⟩ := P.okW_kind hok
    have hn10 : n ≤ 1048576 := by have h1 : list.length ≤ 10 := P.okW_listlen hok; have h2 : list.length = n := HL.out; omega
    have s1 := fmtS_size f2
    have s2 := fmtS_size f3
    have s3 := numsS_size (t := ⟨#[44]⟩) (by decide) HF.out
    have hl10 := P.okW_listlen hok
    simp only at kk0 kk4 hl10
    have s4 := pairsS_size HG.out
    have s5 : (numsS ⟨#[44]⟩ list).size ≤ 50000 := by omega
    have s6 : (⟨#[32, 102]⟩ : ByteArray).size = 2 := rfl
    have s7 : (⟨#[32]⟩ : ByteArray).size = 1 := rfl
    have s8 := kindW_size kind
    have kk5 : kind < 5 := by omega
    have hlit := kindW_at kk0 kk4
    have hlit2 := hlit
    rw [List.getElem?_toArray] at hlit2
    have hlit3 : ∀ hh, ([Value.string ⟨#[108, 111, 119]⟩, .string ⟨#[104, 105, 103, 104]⟩, .string ⟨#[110, 101, 97, 114]⟩, .string ⟨#[97, 109, 111, 110, 103]⟩, .string ⟨#[111, 114, 100, 101, 114]⟩] : List Value)[kind.toNat]'hh = .string (kindW kind) := fun hh => by
      rw [List.getElem?_eq_getElem hh] at hlit2
      exact Option.some.inj hlit2
    have HE := Lib.hid (wishS_eq hok)
    clear s3 hl10
    go_enter Try.func29, Try.ntmps29
    go_wp2_with fail
    refine (implIsWish (x := ⟨kind, field, value, list, pairs⟩) _ H.out G.out).mono ?_
    rintro e w2 ⟨rfl, b2⟩
    rw [hok]
    clear hok
    have hC2 := cell_of b2
    have z0 : w.heap.size < w2.heap.size := Nat.lt_of_lt_of_le ww0 b2.size
    have z0p : w.heap.size < w2.heap.size + 1 := by omega
    have B2 := BW.trans (b2.mono hsz)
    have H2 := Lib.hid (H.out.on RI.keeps b2)
    have G2 := Lib.hid (G.out.on RP.keeps b2)
    go_wp2_with fail
    go_cut [3] from 7 to 16 (fun v3 wx => v3 = .string (kindW kind ++ ⟨#[32, 102]⟩ ++ fmtS field) ∧ Below w2.heap.size w2 wx)
    case first =>
      clear HE
      go_region_with (go_at_call 65; with_reducible (refine (implFormatInt _ f2 _).mono ?_); rintro e w8 ⟨rfl, hb8⟩; have hC8 := cell_of hb8; have hc80 := hC8 w.heap.size 0 (by first | exact z0 | exact z0p | (simp; omega)); have hc81 := hC8 w.heap.size 1 (by first | exact z0 | exact z0p | (simp; omega)); have hz8 : w.heap.size < w8.heap.size := Nat.lt_of_lt_of_le (by first | exact z0 | exact z0p | (simp; omega)) hb8.size)
      all_goals
        go_wp2_with fail
        go_meet
      all_goals
        refine ⟨rfl, ?_⟩
        first
          | exact ((Below.refl w2.heap.size w2).alloc (Nat.le_refl _) _).drew.trans (hb8.mono (by simp))
          | exact ((Below.refl w2.heap.size w2).drew.trans (hb8.mono (Nat.le_refl _))).alloc hb8.size _
          | exact (((Below.refl w2.heap.size w2).drew.trans (hb8.mono (Nat.le_refl _))).alloc hb8.size _).drew
    case rest =>
      obtain ⟨rfl, b3⟩ := hcut
      have hC3 := cell_of b3
      have z1 : w.heap.size < wc.heap.size := Nat.lt_of_lt_of_le z0 b3.size
      have B3 := B2.trans (b3.mono B2.size)
      have H3 := Lib.hid (H2.out.on RI.keeps b3)
      have G3 := Lib.hid (G2.out.on RP.keeps b3)
      clear hlit hlit2 hlit3
      by_cases k0 : kind = 0
      · subst k0
        go_wp2_with fail
        go_ret
        exact ⟨ret_str (by rw [HE.out]; simp; exact ByteArray.append_empty.symm), B3⟩
      · by_cases k1 : kind = 1
        · subst k1
          go_wp2_with fail
          go_ret
          exact ⟨ret_str (by rw [HE.out]; simp; exact ByteArray.append_empty.symm), B3⟩
        · by_cases k2 : kind = 2
          · subst k2
            go_wp2_with (go_at_call 65; refine (implFormatInt value f3 _).mono ?_; rintro e w4 ⟨rfl, b4⟩)
            go_ret
            exact ⟨ret_str (by rw [HE.out]; simp [asc3]), B3.trans (b4.mono B3.size)⟩
          · by_cases k3 : kind = 3
            · subst k3
              go_wp2_with (go_at_call 66; refine (numbers _ H3.out hn10 (by decide)).mono ?_; rintro e w4 ⟨rfl, b4⟩)
              go_ret
              exact ⟨ret_str (by rw [HE.out]; simp [asc3]), B3.trans (b4.mono B3.size)⟩
            · obtain rfl : kind = 4 := by omega
              go_wp2_with (go_at_call 67; refine (implFormatPairs _ G3.out).mono ?_; rintro e w4 ⟨rfl, b4⟩)
              go_ret
              exact ⟨ret_str (by rw [HE.out]; simp [asc3]), B3.trans (b4.mono B3.size)⟩
end Go.Proofs.Ytgjghpaenliliaa.Wk

namespace Go.Proofs.Ytgjghpaenliliaa.M
open Go Go.RowKit

/-- Node k of a list in memory. -/
theorem nodeAt {w : World} {B n c k : Nat} {A : Option Addr} {l : List Nd} (h : Sl RN 6 w B A n c l) (hk : k < n) :
    ∃ b o x A1 n1 c1 E1 m1 d1, A = some ⟨b, o, none⟩ ∧ b < B ∧ l[k]? = some x ∧ (Fit x.op ∧ Fit x.wish.kind ∧ Fit x.wish.field ∧ Fit x.wish.value) ∧ Sl RI 1 w B A1 n1 c1 x.wish.list ∧ Sl RP 2 w B E1 m1 d1 x.wish.pairs ∧
      w.cell? ⟨b, o + k * 6, none⟩ = some (.int .i64 x.op) ∧ w.cell? ⟨b, o + k * 6 + 1, none⟩ = some (.int .i64 x.wish.kind) ∧ w.cell? ⟨b, o + k * 6 + 2, none⟩ = some (.int .i64 x.wish.field) ∧ w.cell? ⟨b, o + k * 6 + 3, none⟩ = some (.int .i64 x.wish.value) ∧
      w.cell? ⟨b, o + k * 6 + 4, none⟩ = some (.slice A1 n1 c1) ∧ w.cell? ⟨b, o + k * 6 + 5, none⟩ = some (.slice E1 m1 d1) := by
  obtain ⟨b, o, x, cs, e, hlt, hx, _, ⟨cw, rfl, f0, v, u, rfl, f1, f2, f3, ⟨A1, n1, c1, rfl, hs⟩, ⟨E1, m1, d1, rfl, ht⟩⟩, hc⟩ := h.get hk
  refine ⟨b, o, x, A1, n1, c1, E1, m1, d1, e, hlt, hx, ⟨f0, f1, f2, f3⟩, hs, ht, ?_, ?_, ?_, ?_, ?_, ?_⟩
  · simpa using hc 0 _ rfl
  · have := hc 1 _ rfl; rwa [← Nat.add_assoc] at this
  · have := hc 2 _ rfl; rwa [← Nat.add_assoc] at this
  · have := hc 3 _ rfl; rwa [← Nat.add_assoc] at this
  · have := hc 4 _ rfl; rwa [← Nat.add_assoc] at this
  · have := hc 5 _ rfl; rwa [← Nat.add_assoc] at this
/-! ### cells in sixes -/
/-- A node, and the slice values that its wish holds. -/
abbrev NdC := Nd × Value × Value
def nd6 (p : NdC) : List Value := [.int .i64 p.1.op, .int .i64 p.1.wish.kind, .int .i64 p.1.wish.field, .int .i64 p.1.wish.value, p.2.1, p.2.2]
def ndc (ps : List NdC) : List Value := ps.flatMap nd6
theorem ndc_len (ps : List NdC) : (ndc ps).length = ps.length * 6 := by
  induction ps with
  | nil => rfl
  | cons a t ih => simp only [ndc, nd6, List.flatMap_cons, List.length_append, List.length_cons, List.length_nil] at ih ⊢; omega
theorem ndc_set (ps : List NdC) : ∀ (k : Nat) (p : NdC), ((((((ndc ps).set (k * 6) (.int .i64 p.1.op)).set (k * 6 + 1) (.int .i64 p.1.wish.kind)).set (k * 6 + 2) (.int .i64 p.1.wish.field)).set (k * 6 + 3) (.int .i64 p.1.wish.value)).set (k * 6 + 4) p.2.1).set (k * 6 + 5) p.2.2 = ndc (ps.set k p) := by
  induction ps with
  | nil => intro k p; simp [ndc]
  | cons a t ih =>
    intro k p
    cases k with
    | zero => simp [ndc, nd6]
    | succ k =>
      have := ih k p
      simp only [ndc, nd6, List.flatMap_cons, List.set_cons_succ] at this ⊢
      rw [show (k + 1) * 6 = k * 6 + 1 + 1 + 1 + 1 + 1 + 1 by omega, List.cons_append, List.cons_append, List.cons_append, List.cons_append, List.cons_append, List.cons_append, List.nil_append]
      rw [show k * 6 + 1 + 1 + 1 + 1 + 1 + 1 + 1 = (k * 6 + 1) + 1 + 1 + 1 + 1 + 1 + 1 by omega, show k * 6 + 1 + 1 + 1 + 1 + 1 + 1 + 2 = (k * 6 + 2) + 1 + 1 + 1 + 1 + 1 + 1 by omega, show k * 6 + 1 + 1 + 1 + 1 + 1 + 1 + 3 = (k * 6 + 3) + 1 + 1 + 1 + 1 + 1 + 1 by omega, show k * 6 + 1 + 1 + 1 + 1 + 1 + 1 + 4 = (k * 6 + 4) + 1 + 1 + 1 + 1 + 1 + 1 by omega, show k * 6 + 1 + 1 + 1 + 1 + 1 + 1 + 5 = (k * 6 + 5) + 1 + 1 + 1 + 1 + 1 + 1 by omega]
      simp only [List.set_cons_succ]
      rw [this]
      rfl
theorem ndc_at (ps : List NdC) : ∀ (k : Nat) (p : NdC), ps[k]? = some p → (ndc ps)[k * 6]? = some (.int .i64 p.1.op) ∧ (ndc ps)[k * 6 + 1]? = some (.int .i64 p.1.wish.kind) ∧ (ndc ps)[k * 6 + 2]? = some (.int .i64 p.1.wish.field) ∧ (ndc ps)[k * 6 + 3]? = some (.int .i64 p.1.wish.value) ∧ (ndc ps)[k * 6 + 4]? = some p.2.1 ∧ (ndc ps)[k * 6 + 5]? = some p.2.2 := by
  induction ps with
  | nil => intro k p h; simp at h
  | cons a t ih =>
    intro k p h
    cases k with
    | zero => simp at h; subst h; simp [ndc, nd6]
    | succ k =>
      have := ih k p (by simpa using h)
      simp only [ndc, nd6, List.flatMap_cons] at this ⊢
      rw [show (k + 1) * 6 = k * 6 + 1 + 1 + 1 + 1 + 1 + 1 by omega, List.cons_append, List.cons_append, List.cons_append, List.cons_append, List.cons_append, List.cons_append, List.nil_append]
      rw [show k * 6 + 1 + 1 + 1 + 1 + 1 + 1 + 1 = (k * 6 + 1) + 1 + 1 + 1 + 1 + 1 + 1 by omega, show k * 6 + 1 + 1 + 1 + 1 + 1 + 1 + 2 = (k * 6 + 2) + 1 + 1 + 1 + 1 + 1 + 1 by omega, show k * 6 + 1 + 1 + 1 + 1 + 1 + 1 + 3 = (k * 6 + 3) + 1 + 1 + 1 + 1 + 1 + 1 by omega, show k * 6 + 1 + 1 + 1 + 1 + 1 + 1 + 4 = (k * 6 + 4) + 1 + 1 + 1 + 1 + 1 + 1 by omega, show k * 6 + 1 + 1 + 1 + 1 + 1 + 1 + 5 = (k * 6 + 5) + 1 + 1 + 1 + 1 + 1 + 1 by omega]
      simp only [List.getElem?_cons_succ]
      exact this
theorem ndc_flat (ps : List NdC) : (ps.map nd6).flatten = ndc ps := by unfold ndc; rw [List.flatMap_def]
theorem ndc_snoc (ps : List NdC) (p : NdC) : ndc (ps ++ [p]) = ndc ps ++ nd6 p := by unfold ndc; rw [List.flatMap_append]; simp
/-- The slice values of the nodes. -/
def ndv (ps : List NdC) : List Value := ps.flatMap fun p => [p.2.1, p.2.2]
theorem ndv_snoc (ps : List NdC) (p : NdC) : ndv (ps ++ [p]) = ndv ps ++ [p.2.1, p.2.2] := by unfold ndv; rw [List.flatMap_append]; simp
/-- Two values that share no block. -/
def Far (u v : Value) : Prop := u.ownBlock = none ∨ u.ownBlock ≠ v.ownBlock
/-- The rows of a wish, each in a block of the call's own, from lo on. -/
def OwnW (w : World) (lo E EP : Nat) (x : Wi) (u v : Value) : Prop :=
  w.ownsRow lo E 1 u x.list.length (x.list.map (Value.int .i64)) ∧ w.ownsRow lo EP 2 v x.pairs.length (prc x.pairs) ∧ Far u v
/-- The wishes' rows of nodes, all apart. -/
structure OwnNs (w : World) (lo E EP : Nat) (ps : List NdC) : Prop where
  each : ∀ p ∈ ps, OwnW w lo E EP p.1.wish p.2.1 p.2.2
  apart : (ndv ps).Pairwise Far
section
variable {w w' : World} {lo lo' E EP : Nat} {x : Wi} {u v : Value} {ps : List NdC}
theorem OwnW.below (h : OwnW w lo E EP x u v) (hb : Below w.heap.size w w') : OwnW w' lo E EP x u v := ⟨own_below h.1 hb, own_below h.2.1 hb, h.2.2⟩
theorem OwnW.mono (h : OwnW w lo E EP x u v) (hl : lo' ≤ lo) : OwnW w lo' E EP x u v := ⟨own_mono h.1 hl, own_mono h.2.1 hl, h.2.2⟩
theorem OwnW.far (h : OwnW w lo E EP x u v) {a : Addr} (ha : a.block < lo) (z : Value) : OwnW (w.setCell a z) lo E EP x u v := ⟨ownsRow_setCell_below h.1 ha z, ownsRow_setCell_below h.2.1 ha z, h.2.2⟩
theorem OwnNs.below (h : OwnNs w lo E EP ps) (hb : Below w.heap.size w w') : OwnNs w' lo E EP ps := ⟨fun p hp => (h.each p hp).below hb, h.apart⟩
theorem OwnNs.mono (h : OwnNs w lo E EP ps) (hl : lo' ≤ lo) : OwnNs w lo' E EP ps := ⟨fun p hp => (h.each p hp).mono hl, h.apart⟩
theorem OwnNs.far (h : OwnNs w lo E EP ps) {a : Addr} (ha : a.block < lo) (z : Value) : OwnNs (w.setCell a z) lo E EP ps := ⟨fun p hp => (h.each p hp).far ha z, h.apart⟩
theorem OwnNs.nil (w : World) (lo E EP : Nat) : OwnNs w lo E EP [] := ⟨fun p hp => absurd hp (by simp), by simp [ndv]⟩
theorem OwnNs.lt (h : OwnNs w lo E EP ps) {u : Value} (hu : u ∈ ndv ps) {g : Nat} (hg : u.ownBlock = some g) : lo ≤ g ∧ g < w.heap.size := by
  unfold ndv at hu
  obtain ⟨p, hp, hup⟩ := List.mem_flatMap.1 hu
  obtain ⟨h1, h2, _⟩ := h.each p hp
  simp at hup
  rcases hup with rfl | rfl
  · exact h1.lt g hg
  · exact h2.lt g hg
theorem OwnNs.snoc {p : NdC} {lo2 : Nat} (h : OwnNs w lo E EP ps) (hb : Below w.heap.size w w') (hn : OwnW w' lo2 E EP p.1.wish p.2.1 p.2.2) (hlo : w.heap.size ≤ lo2) (hl : lo ≤ lo2) : OwnNs w' lo E EP (ps ++ [p]) := by
  refine ⟨fun q hq => ?_, ?_⟩
  · rcases List.mem_append.1 hq with hq | hq
    · exact (h.each q hq).below hb
    · simp at hq; subst hq; exact hn.mono hl
  · rw [ndv_snoc, List.pairwise_append]
    refine ⟨h.apart, by simp; exact hn.2.2, fun a ha c hc => ?_⟩
    cases hva : a.ownBlock with
    | none => exact .inl hva
    | some g =>
      refine .inr fun hh => ?_
      rw [hva] at hh
      have g1 := (h.lt ha hva).2
      simp at hc
      rcases hc with rfl | rfl
      · have := (hn.1.lt g hh.symm).1; omega
      · have := (hn.2.1.lt g hh.symm).1; omega
end
/-- A list of nodes that the call laid: the outer row, and the rows of its wishes, all apart. -/
def OwnN (w : World) (lo EN E EP : Nat) (v : Value) (l : List Nd) : Prop :=
  ∃ ps : List NdC, ps.map (·.1) = l ∧ OwnNs w lo E EP ps ∧ w.ownsRow lo EN 6 v l.length (ndc ps) ∧ ∀ u ∈ ndv ps, Far u v
theorem OwnW.read {w : World} {lo E EP : Nat} {x : Wi} {u v : Value} (h : OwnW w lo E EP x u v) (hf : (∀ y ∈ x.list, Fit y) ∧ ∀ p ∈ x.pairs, Fit p.1 ∧ Fit p.2) : V RI 1 w w.heap.size u x.list ∧ V RP 2 w w.heap.size v x.pairs :=
  ⟨own_ints h.1 hf.1, own_pairs h.2.1 hf.2⟩
/-- What a list of nodes holds are ints of the machine. -/
def FitW (x : Wi) : Prop := Fit x.kind ∧ Fit x.field ∧ Fit x.value ∧ (∀ y ∈ x.list, Fit y) ∧ ∀ p ∈ x.pairs, Fit p.1 ∧ Fit p.2
def FitN (x : Nd) : Prop := Fit x.op ∧ FitW x.wish
theorem OwnN.read {w : World} {lo EN E EP : Nat} {v : Value} {l : List Nd} (h : OwnN w lo EN E EP v l) (hf : ∀ x ∈ l, FitN x) : V RN 6 w w.heap.size v l := by
  obtain ⟨ps, rfl, h2, ho, _⟩ := h
  refine own_V (css := ps.map nd6) (by rw [ndc_flat]; exact ho) (by simp) (fun i x cs hx hc => ?_)
  rw [List.getElem?_map] at hx hc
  cases hp : ps[i]? with
  | none => rw [hp] at hx; cases hx
  | some p =>
    rw [hp] at hx hc
    simp at hx hc
    subst hx hc
    obtain ⟨f0, f1, f2, f3, f4, f5⟩ := hf p.1 (List.mem_map.2 ⟨p, List.mem_of_getElem? hp, rfl⟩)
    obtain ⟨r1, r2⟩ := (h2.each p (List.mem_of_getElem? hp)).read ⟨f4, f5⟩
    exact ⟨rfl, _, rfl, f0, _, _, rfl, f1, f2, f3, r1, r2⟩
theorem fitNs {w : World} {B n c : Nat} {A : Option Addr} {l : List Nd} (h : Sl RN 6 w B A n c l) : ∀ x ∈ l, FitN x := by
  intro x hx
  obtain ⟨i, hi⟩ := List.getElem?_of_mem hx
  have hin : i < n := by have := (List.getElem?_eq_some_iff.1 hi).1; have := h.len; omega
  obtain ⟨b, o, y, A1, n1, c1, E1, m1, d1, _, _, hy, ⟨f0, f1, f2, f3⟩, hs, ht, _⟩ := nodeAt h hin
  rw [hi] at hy
  injection hy with hy
  subst hy
  exact ⟨f0, f1, f2, f3, V.fit ⟨A1, n1, c1, rfl, hs⟩, fitPairs ht⟩
end Go.Proofs.Ytgjghpaenliliaa.M

namespace Go.Proofs.Ytgjghpaenliliaa.Wk
open Go.RowKit Go.Proofs.Ytgjghpaenliliaa.M
set_option linter.unusedVariables false
set_option linter.unusedSimpArgs false

theorem kindW_no (k : Int) : ∀ x ∈ (kindW k).data.toList, x ≠ 32 := by
  unfold kindW
  repeat' split
  all_goals (intro x hx; simp at hx; rcases hx with rfl | rfl | rfl | rfl | rfl <;> decide)
theorem kindW_ne (k : Int) : ∃ c t, (kindW k).data.toList = c :: t ∧ c ≠ 32 := by
  unfold kindW
  repeat' split
  all_goals exact ⟨_, _, rfl, by decide⟩
theorem pairsS_no (l : List (Int × Int)) : ∀ x ∈ (pairsS l).data.toList, x ≠ 32 := by
  intro x hx
  unfold pairsS at hx
  split at hx
  · split at hx
    · simp at hx
      rcases hx with rfl | rfl | rfl | rfl <;> decide
    · rcases glue_mem hx with hx | ⟨q, hq, hx⟩
      · simp at hx
        rw [hx]; decide
      · obtain ⟨p, _, rfl⟩ := List.mem_map.1 hq
        exact pairS_no p (by decide) (by decide) x hx
  · simp at hx
/-- The field's word. -/
def fldW (n : Int) : ByteArray := ⟨#[102]⟩ ++ fmtS n
theorem fldW_list (n : Int) : (fldW n).data.toList = 102 :: (fmtS n).data.toList := by unfold fldW; rw [P.ba_app]; rfl
theorem fldW_no (n : Int) : ∀ x ∈ (fldW n).data.toList, x ≠ 32 := by
  intro x hx
  rw [fldW_list] at hx
  rcases List.mem_cons.1 hx with rfl | hx
  · decide
  · exact fmtS_no (by decide) x hx
/-- The words behind the field. -/
noncomputable def argW (x : Wi) : List ByteArray := if x.kind = 0 then [] else if x.kind = 1 then [] else if x.kind = 2 then [fmtS x.value] else if x.kind = 3 then [numsS ⟨#[44]⟩ x.list] else [pairsS x.pairs]
theorem argW_no (x : Wi) : ∀ q ∈ argW x, ∀ c ∈ q.data.toList, c ≠ 32 := by
  intro q hq
  unfold argW at hq
  split at hq
  · simp at hq
  · split at hq
    · simp at hq
    · split at hq
      · simp at hq; subst hq; exact fmtS_no (by decide)
      · split at hq
        · simp at hq; subst hq; exact nums_no (by decide) (by decide)
        · simp at hq; subst hq; exact pairsS_no _
theorem wish_cut {x : Wi} (h : P.okW x = true) : P.cut (wishS x) ⟨#[32]⟩ = kindW x.kind :: fldW x.field :: argW x := by
  rw [wishS_eq h]
  refine P.cut_join (b0 := 32) (bs := []) rfl ?_ (fun q hq => ?_)
  · unfold argW fldW
    repeat' split
    all_goals (simp [P.ba_app, P.tails])
  · rcases List.mem_cons.1 hq with rfl | hq
    · exact kindW_no _
    · rcases List.mem_cons.1 hq with rfl | hq
      · exact fldW_no _
      · exact argW_no x q hq
theorem okW_rest {x : Wi} (h : P.okW x = true) : (x.kind ≠ 2 → x.value = 0) ∧ (x.kind ≠ 3 → x.list = []) ∧ (x.kind ≠ 4 → x.pairs = []) ∧ (x.kind = 3 → x.list ≠ [] ∧ ∀ y ∈ x.list, -1000000000 < y ∧ y < 1000000000) := by
  rw [P.okW_eq] at h
  simp only [Bool.and_eq_true] at h
  obtain ⟨⟨⟨⟨⟨⟨h1, h2⟩, h3⟩, h4⟩, h5⟩, h6⟩, h7⟩ := h
  have e6 := beq_iff_eq.1 h6
  rw [decide_eq_decide] at e6
  refine ⟨fun hk => ?_, fun hk => ?_, fun hk => ?_, fun hk => ⟨e6.1 hk, ?_⟩⟩
  · simpa [hk] using h5
  · by_cases hl : x.list = []
    · exact hl
    · exact absurd (e6.2 hl) hk
  · simpa [hk] using h7
  · unfold P.okL at h4
    rw [Bool.and_eq_true] at h4
    exact okV_bd h4.1
/-- No wish. -/
def zeroW : Wi := ⟨0, 0, 0, [], []⟩
open Classical in
/-- The wish that is written so. -/
noncomputable def parW (s : ByteArray) : Wi := if h : ∃ x, P.okW x = true ∧ wishS x = s then h.choose else zeroW
open Classical in
noncomputable def parWB (s : ByteArray) : Bool := decide (∃ x, P.okW x = true ∧ wishS x = s)
theorem wishS_ok {x : Wi} (h : wishS x ≠ ⟨#[]⟩) : P.okW x = true := by
  cases e : P.okW x with
  | true => rfl
  | false => exact absurd (by unfold wishS; rw [e]; rfl) h
/-! ### the two readers' candidates -/
noncomputable def fldS (b : ByteArray) : Int := if b.size < 2 ∨ b.data.toList.getD 0 0 ≠ 102 then -1 else l2N (b.extract 1 b.size)
noncomputable def fldI (b : ByteArray) : Int := piN (b.extract 1 b.size).data.toList
theorem fld_ext (n : Int) : (fldW n).extract 1 (fldW n).size = fmtS n := by
  apply P.ba_ext
  exact P.ex_mid (a := [102]) (b := (fmtS n).data.toList) (c := []) (by rw [fldW_list]; simp) rfl (by rw [P.size_list, fldW_list]; simp; omega)
theorem fmtS_pos (n : Int) : 0 < (fmtS n).size := by
  rw [P.size_list]
  rcases Nat.eq_zero_or_pos (fmtS n).data.toList.length with h | h
  · exfalso
    have e : P.fmtL n = [] := by rw [fmtS_list, List.eq_nil_of_length_eq_zero h]; rfl
    unfold P.fmtL at e
    split at e
    · simp at e
    · split at e
      · simp at e
      · obtain ⟨d, t, h1, _⟩ := P.digs_ne (n := n.natAbs) (by omega)
        rw [h1] at e; simp at e
  · exact h
theorem fldW_size (n : Int) : 2 ≤ (fldW n).size := by
  have := fmtS_pos n
  rw [P.size_list] at this ⊢
  rw [fldW_list, List.length_cons]; omega
theorem fldS_back {n : Int} (h1 : -1000000000 < n) (h2 : n < 1000000000) : fldS (fldW n) = n := by
  unfold fldS
  rw [if_neg, fld_ext, l2N_fmt h1 h2]
  have := fldW_size n
  rw [fldW_list]
  simp; omega
theorem fldI_back {n : Int} (h1 : -1000000000 < n) (h2 : n < 1000000000) : fldI (fldW n) = n := by
  unfold fldI
  rw [fld_ext, (piN_fmt h1 h2).1]
/-- What the reference makes of the words. -/
noncomputable def candS (a b c : ByteArray) : Wi :=
  if a = kindW 1 then ⟨1, fldS b, 0, [], []⟩ else if a = kindW 2 then ⟨2, fldS b, l2N c, [], []⟩ else if a = kindW 3 then ⟨3, fldS b, 0, rdL c, []⟩ else if a = kindW 4 then ⟨4, fldS b, 0, [], parP c⟩ else ⟨0, fldS b, 0, [], []⟩
/-- The kind's number. -/
noncomputable def kindI (a : ByteArray) : Int := if a = kindW 0 then 0 else if a = kindW 1 then 1 else if a = kindW 2 then 2 else if a = kindW 3 then 3 else if a = kindW 4 then 4 else -1
/-- What the program makes of the words. -/
noncomputable def candI (a b : ByteArray) (c : Option ByteArray) : Wi :=
  ⟨kindI a, fldI b, if kindI a = 2 then (match c with | some c => piN c.data.toList | none => 0) else 0, if kindI a = 3 then (match c with | some c => rdN c | none => []) else [], if kindI a = 4 then (match c with | some c => parP c | none => []) else []⟩
theorem kindW_inj {i j : Int} (hi : 0 ≤ i ∧ i ≤ 4) (hj : 0 ≤ j ∧ j ≤ 4) (h : kindW i = kindW j) : i = j := by
  have h2 := congrArg (fun b => b.data.toList) h
  obtain ⟨i1, i2⟩ := hi
  obtain ⟨j1, j2⟩ := hj
  rcases (by omega : i = 0 ∨ i = 1 ∨ i = 2 ∨ i = 3 ∨ i = 4) with rfl | rfl | rfl | rfl | rfl <;> rcases (by omega : j = 0 ∨ j = 1 ∨ j = 2 ∨ j = 3 ∨ j = 4) with rfl | rfl | rfl | rfl | rfl <;> first | rfl | (exfalso; revert h2; decide)
theorem kindI_back {k : Int} (h : 0 ≤ k ∧ k ≤ 4) : kindI (kindW k) = k := by
  unfold kindI
  repeat' split
  all_goals first
    | (rename_i e; exact (kindW_inj h (by omega) e).symm)
    | (exfalso; rcases (by omega : k = 0 ∨ k = 1 ∨ k = 2 ∨ k = 3 ∨ k = 4) with rfl | rfl | rfl | rfl | rfl <;> simp_all)
theorem wi_ext {x y : Wi} (h1 : x.kind = y.kind) (h2 : x.field = y.field) (h3 : x.value = y.value) (h4 : x.list = y.list) (h5 : x.pairs = y.pairs) : x = y := by
  cases x; cases y; simp_all
theorem okW_bd {x : Wi} (h : P.okW x = true) : (-1000000000 < x.field ∧ x.field < 1000000000) ∧ (-1000000000 < x.value ∧ x.value < 1000000000) := by
  have := P.okW_field h
  have := P.okW_value h
  omega
theorem parP_back {l : List (Int × Int)} (h : P.okP l = true) : parP (pairsS l) = l := (parP_yes h rfl).1
/-- Two words. -/
theorem candS_two {x : Wi} {a b : ByteArray} (hx : P.okW x = true) (h : kindW x.kind :: fldW x.field :: argW x = [a, b]) (c : ByteArray) : candS a b c = x := by
  have hk := P.okW_kind hx
  obtain ⟨r1, r2, r3, r4⟩ := okW_rest hx
  obtain ⟨⟨b1, b2⟩, _⟩ := okW_bd hx
  simp only [List.cons.injEq] at h
  obtain ⟨rfl, rfl, h⟩ := h
  have hk2 : x.kind = 0 ∨ x.kind = 1 := by
    unfold argW at h
    split at h
    · exact .inl (by assumption)
    · split at h
      · exact .inr (by assumption)
      · split at h
        · simp at h
        · split at h <;> simp at h
  unfold candS
  rcases hk2 with e | e
  · rw [e, if_neg (by decide), if_neg (by decide), if_neg (by decide), if_neg (by decide), fldS_back b1 b2]
    exact wi_ext e.symm rfl (r1 (by omega)).symm (r2 (by omega)).symm (r3 (by omega)).symm
  · rw [e, if_pos rfl, fldS_back b1 b2]
    exact wi_ext e.symm rfl (r1 (by omega)).symm (r2 (by omega)).symm (r3 (by omega)).symm
theorem candI_two {x : Wi} {a b : ByteArray} (hx : P.okW x = true) (h : kindW x.kind :: fldW x.field :: argW x = [a, b]) : candI a b none = x := by
  have hk := P.okW_kind hx
  obtain ⟨r1, r2, r3, r4⟩ := okW_rest hx
  obtain ⟨⟨b1, b2⟩, _⟩ := okW_bd hx
  simp only [List.cons.injEq] at h
  obtain ⟨rfl, rfl, h⟩ := h
  have hk2 : x.kind = 0 ∨ x.kind = 1 := by
    unfold argW at h
    split at h
    · exact .inl (by assumption)
    · split at h
      · exact .inr (by assumption)
      · split at h
        · simp at h
        · split at h <;> simp at h
  unfold candI
  rw [kindI_back hk, fldI_back b1 b2]
  refine wi_ext rfl rfl ?_ ?_ ?_
  · show (if x.kind = 2 then _ else _) = _
    rw [if_neg (by omega), r1 (by omega)]
  · show (if x.kind = 3 then _ else _) = _
    rw [if_neg (by omega), r2 (by omega)]
  · show (if x.kind = 4 then _ else _) = _
    rw [if_neg (by omega), r3 (by omega)]
theorem arg_three {x : Wi} {c : ByteArray} (hk : 0 ≤ x.kind ∧ x.kind ≤ 4) (h : argW x = [c]) : (x.kind = 2 ∧ c = fmtS x.value) ∨ (x.kind = 3 ∧ c = numsS ⟨#[44]⟩ x.list) ∨ (x.kind = 4 ∧ c = pairsS x.pairs) := by
  unfold argW at h
  split at h
  · simp at h
  · split at h
    · simp at h
    · split at h
      · exact .inl ⟨by assumption, by simpa using h.symm⟩
      · split at h
        · exact .inr (.inl ⟨by assumption, by simpa using h.symm⟩)
        · exact .inr (.inr ⟨by omega, by simpa using h.symm⟩)
/-- Three words. -/
theorem candS_three {x : Wi} {a b c : ByteArray} (hx : P.okW x = true) (h : kindW x.kind :: fldW x.field :: argW x = [a, b, c]) : candS a b c = x := by
  have hk := P.okW_kind hx
  obtain ⟨r1, r2, r3, r4⟩ := okW_rest hx
  obtain ⟨⟨b1, b2⟩, b3, b4⟩ := okW_bd hx
  simp only [List.cons.injEq] at h
  obtain ⟨rfl, rfl, h⟩ := h
  unfold candS
  rcases arg_three hk h with ⟨e, rfl⟩ | ⟨e, rfl⟩ | ⟨e, rfl⟩
  · rw [e, if_neg (by decide), if_pos rfl, fldS_back b1 b2, l2N_fmt b3 b4]
    exact wi_ext e.symm rfl rfl (r2 (by omega)).symm (r3 (by omega)).symm
  · rw [e, if_neg (by decide), if_neg (by decide), if_pos rfl, fldS_back b1 b2, rdL_nums (r4 e).1 (r4 e).2]
    exact wi_ext e.symm rfl (r1 (by omega)).symm rfl (r3 (by omega)).symm
  · rw [e, if_neg (by decide), if_neg (by decide), if_neg (by decide), if_pos rfl, fldS_back b1 b2, parP_back (P.okW_pairs hx e)]
    exact wi_ext e.symm rfl (r1 (by omega)).symm (r2 (by omega)).symm rfl
theorem candI_three {x : Wi} {a b c : ByteArray} (hx : P.okW x = true) (h : kindW x.kind :: fldW x.field :: argW x = [a, b, c]) : candI a b (some c) = x := by
  have hk := P.okW_kind hx
  obtain ⟨r1, r2, r3, r4⟩ := okW_rest hx
  obtain ⟨⟨b1, b2⟩, b3, b4⟩ := okW_bd hx
  simp only [List.cons.injEq] at h
  obtain ⟨rfl, rfl, h⟩ := h
  unfold candI
  rw [kindI_back hk, fldI_back b1 b2]
  rcases arg_three hk h with ⟨e, rfl⟩ | ⟨e, rfl⟩ | ⟨e, rfl⟩
  · rw [e]
    refine wi_ext e.symm rfl ?_ ?_ ?_
    · show piN _ = _
      exact (piN_fmt b3 b4).1
    · exact (r2 (by omega)).symm
    · exact (r3 (by omega)).symm
  · rw [e]
    refine wi_ext e.symm rfl ?_ ?_ ?_
    · exact (r1 (by omega)).symm
    · show rdN _ = _
      exact rdN_nums (r4 e).1 (r4 e).2
    · exact (r3 (by omega)).symm
  · rw [e]
    refine wi_ext e.symm rfl ?_ ?_ ?_
    · exact (r1 (by omega)).symm
    · exact (r2 (by omega)).symm
    · show parP _ = _
      exact parP_back (P.okW_pairs hx e)
theorem wish_inj {x y : Wi} (hx : P.okW x = true) (hy : P.okW y = true) (h : wishS x = wishS y) : x = y := by
  have e : kindW x.kind :: fldW x.field :: argW x = kindW y.kind :: fldW y.field :: argW y := by rw [← wish_cut hx, h, wish_cut hy]
  have hl : ∀ z : Wi, argW z = [] ∨ ∃ c, argW z = [c] := by
    intro z
    unfold argW
    repeat' split
    all_goals first | exact .inl rfl | exact .inr ⟨_, rfl⟩
  rcases hl y with h1 | ⟨c, h1⟩
  · rw [h1] at e
    rw [← candS_two hx e ⟨#[]⟩, candS_two hy (by rw [h1]) ⟨#[]⟩]
  · rw [h1] at e
    rw [← candS_three hx e, candS_three hy (by rw [h1])]
theorem parW_yes {x : Wi} {s : ByteArray} (hx : P.okW x = true) (h : wishS x = s) : parW s = x ∧ parWB s = true := by
  have he : ∃ x, P.okW x = true ∧ wishS x = s := ⟨x, hx, h⟩
  unfold parW parWB
  rw [dif_pos he]
  refine ⟨wish_inj he.choose_spec.1 hx (he.choose_spec.2.trans h.symm), ?_⟩
  simp only [decide_eq_true_eq]
  exact he
theorem parW_no {s : ByteArray} (h : ∀ x, P.okW x = true → wishS x ≠ s) : parW s = zeroW ∧ parWB s = false := by
  have he : ¬ ∃ x, P.okW x = true ∧ wishS x = s := fun ⟨x, h1, h2⟩ => h x h1 h2
  unfold parW parWB
  rw [dif_neg he]
  exact ⟨rfl, by simp only [decide_eq_false_iff_not]; exact he⟩
/-- Words that are none of a wish. -/
theorem parW_bad {s : ByteArray} (h : (P.cut s ⟨#[32]⟩).length < 2 ∨ 3 < (P.cut s ⟨#[32]⟩).length ∨ ((P.cut s ⟨#[32]⟩).getD 1 ⟨#[]⟩).size < 2) : parW s = zeroW ∧ parWB s = false :=
  parW_no fun x hx e => by
    have hc := wish_cut hx
    rw [e] at hc
    rw [hc] at h
    have hl : (argW x).length ≤ 1 := by
      unfold argW
      repeat' split
      all_goals simp
    have := fldW_size x.field
    simp at h
    omega
/-- What a candidate's text decides. -/
theorem parW_end {s : ByteArray} {y : Wi} (h2 : 2 ≤ (P.cut s ⟨#[32]⟩).length) (hb : ∀ x, P.okW x = true → kindW x.kind :: fldW x.field :: argW x = P.cut s ⟨#[32]⟩ → y = x) : (wishS y = s → parW s = y ∧ parWB s = true) ∧ (wishS y ≠ s → parW s = zeroW ∧ parWB s = false) := by
  have h0 : s ≠ ⟨#[]⟩ := by
    rintro rfl
    rw [cut_nil (by decide)] at h2
    simp at h2
  refine ⟨fun e => parW_yes (wishS_ok (by rw [e]; exact h0)) e, fun h => parW_no fun x hx e => h ?_⟩
  rw [hb x hx (by rw [← e]; exact (wish_cut hx).symm)]
  exact e
theorem parW_fit (s : ByteArray) : FitW (parW s) := by
  by_cases h : ∃ x, P.okW x = true ∧ wishS x = s
  · obtain ⟨x, hx, he⟩ := h
    rw [(parW_yes hx he).1]
    have h1 := P.okW_kind hx
    have h2 := P.okW_field hx
    have h3 := P.okW_value hx
    refine ⟨by unfold Fit; omega, by unfold Fit; omega, by unfold Fit; omega, fun y hy => ?_, fun p hp => ?_⟩
    · by_cases hk : x.kind = 3
      · have := ((okW_rest hx).2.2.2 hk).2 y hy
        unfold Fit; omega
      · rw [(okW_rest hx).2.1 hk] at hy; simp at hy
    · by_cases hk : x.kind = 4
      · have := okP_bd (P.okW_pairs hx hk) p hp
        unfold Fit; omega
      · rw [(okW_rest hx).2.2.1 hk] at hp; simp at hp
  · rw [(parW_no fun x hx e => h ⟨x, hx, e⟩).1]
    exact ⟨by unfold Fit zeroW; simp, by unfold Fit zeroW; simp, by unfold Fit zeroW; simp, by simp [zeroW], by simp [zeroW]⟩
theorem parW_cnt (s : ByteArray) : (parW s).list.length ≤ 10 ∧ (parW s).pairs.length ≤ 8 := by
  by_cases h : ∃ x, P.okW x = true ∧ wishS x = s
  · obtain ⟨x, hx, he⟩ := h
    rw [(parW_yes hx he).1]
    exact ⟨P.okW_listlen hx, P.okW_pairslen hx⟩
  · rw [(parW_no fun x hx e => h ⟨x, hx, e⟩).1]
    exact ⟨Nat.zero_le _, Nat.zero_le _⟩
end Go.Proofs.Ytgjghpaenliliaa.Wk

namespace Go.Proofs.Ytgjghpaenliliaa.Wk
open Go.RowKit Go.Proofs.Ytgjghpaenliliaa.M
set_option linter.unusedVariables false
set_option linter.unusedSimpArgs false
attribute [local go_sem] cell_grow

theorem info_p74 : (Try.prog.info? 92).map (fun i => (i.zero, i.size, i.bytes)) = some (some (.agg #[.int .i64 0, .int .i64 0]), 2, 16) := by kernel_rfl
theorem below_dr74 {W w8 : World} (h : Below W.drew.heap.size W.drew w8) : Below W.heap.size W w8 := (Below.refl W.heap.size W).drew.trans h
set_option maxHeartbeats 3200000 in
set_option maxRecDepth 100000 in
theorem specParsePairs (w : World) {s : ByteArray} (hs : s.size ≤ 1048576) : Calls Try.prog 104 #[.string s] w (RetPB w (parP s) (parPB s)) := by
  obtain ⟨i0, hi, hz0, hz1, hz2⟩ := info_parts info_p74
  have HX := Lib.hid (P.cut_size s ⟨#[44]⟩)
  have HCL := Lib.hid (P.cut_len s ⟨#[44]⟩)
  have B1 := (Below.refl w.heap.size w).alloc (Nat.le_refl _) (.cells #[] 92)
  have O1 := own_emptyS w 92 2
  by_cases hnone : s = ⟨#[110, 111, 110, 101]⟩
  · have HP : Hid (parP s = [] ∧ parPB s = true) := by show _ ∧ _; rw [hnone]; exact parP_none
    have q0 : (s.toList == [110, 111, 110, 101]) = true := by rw [show ([110, 111, 110, 101] : List UInt8) = (⟨#[110, 111, 110, 101]⟩ : ByteArray).toList by rw [ByteArray.toList_eq]]; exact ba_yes hnone
    clear hnone
    go_enter Try.func104, Try.ntmps104
    go_wp2
    go_ret2
    refine ⟨.slice (some ⟨w.heap.size, 0, none⟩) 0 0, ret_pb HP.out.2.symm, ?_, B1⟩
    rw [HP.out.1]
    exact ⟨O1, own_und O1⟩
  · have HNO := Lib.hid hnone
    have q0 : (s.toList == [110, 111, 110, 101]) = false := by rw [show ([110, 111, 110, 101] : List UInt8) = (⟨#[110, 111, 110, 101]⟩ : ByteArray).toList by rw [ByteArray.toList_eq]]; exact ba_no hnone
    clear hnone
    have HEND := Lib.hid (parP_end (f := l2N) reads_l2N (s := s) HNO.out)
    go_enter Try.func104, Try.ntmps104
    go_wp2_with fail
    refine (l2Cut _ (b := 44) hs).mono ?_
    rintro e w2 ⟨vp, rfl, hP, b2⟩
    have hsz2 := b2.size
    simp at hsz2
    have B2 := B1.trans (b2.mono B1.size)
    have O2 := own_below O1 b2
    have hP1 := Lib.hid hP.1
    have hP2 := Lib.hid hP.2
    simp only [World.size_alloc] at hP1
    obtain ⟨A, c, rfl, _, _⟩ := own_form hP.1
    obtain ⟨n, hn⟩ : ∃ n, (P.cut s ⟨#[44]⟩).length = n := ⟨_, rfl⟩
    have HL := Lib.hid hn
    have hn1 : n ≤ 1048577 := by have := HL.out; have := HCL.out; omega
    have HRL : Hid ((rdPs l2N s).length = n) := by show _ = _; rw [rdPs_len]; exact HL.out
    have HRF := Lib.hid (rdPs_fit (f := l2N) l2N_fit s)
    obtain ⟨rs, hrs⟩ : ∃ rs, Hid (rdPs l2N s = rs) := ⟨_, rfl⟩
    rw [hrs.out] at HEND HRL HRF
    clear hP b2 O1 B1
    rw [hn]
    rw [hn] at hP1 hP2
    have hst : ∀ q, (Value.slice (some ⟨w.heap.size, 0, none⟩) 0 0).ownBlock = some q → q = w.heap.size ∨ w2.heap.size ≤ q := fun q hq => .inl (by simp [Value.ownBlock] at hq; omega)
    have HST := Lib.hid hst
    clear hst
    go_wp2
    go_loopw [4, 6, 7] (fun vo vi v7 wr => ∃ k : Nat, k ≤ n ∧ vi = .int .i64 k ∧ wr.ownsRow w.heap.size 92 2 vo k (prc (rs.take k)) ∧ Hid (∀ t ∈ (P.cut s ⟨#[44]⟩).take k, (P.cut t ⟨#[62]⟩).length = 2) ∧ Hid (wr.ownsRow (w.heap.size + 1) 9 1 (.slice A n c) n ((P.cut s ⟨#[44]⟩).map Value.string)) ∧ Hid (∀ q, vo.ownBlock = some q → q = w.heap.size ∨ w2.heap.size ≤ q) ∧ w2.heap.size ≤ wr.heap.size ∧ Below w.heap.size w wr) (fun _ vi _ _ => n - (intOf vi).toNat)
    case atStart => exact ⟨0, Nat.zero_le _, rfl, O2, fun t ht => absurd ht (by simp), hP1, HST, Nat.le_refl _, B2⟩
    case round =>
      clear hP1 HST O2 B2
      obtain ⟨k, hk, rfl, hown, htw, hpr, hq, hw2, hbw⟩ := hrel
      by_cases hlt : k < n
      · obtain ⟨A', n', c', e', hS⟩ := own_strs (xs := P.cut s ⟨#[44]⟩) (by rw [HL.out]; exact hpr.out) (fun x hx => by have := HX.out x hx; unfold maxLen; omega)
        injection e' with e1 e2 e3
        subst e1 e2 e3
        obtain ⟨b, o, x, rfl, hb, hx, hf, hc⟩ := hS.str hlt
        have hnc := hS.le
        have p1 : (k : Int) < (n : Int) := by omega
        have p2 : (n : Int) ≤ (c : Int) := by omega
        have HXM := Lib.hid (List.mem_of_getElem? hx)
        obtain ⟨Ao, co, hvo, _, _⟩ := own_form hown
        subst hvo
        have HXK := Lib.hid hx
        have hxs : x.size ≤ 1048576 := Nat.le_trans (HX.out x HXM.out) hs
        have hsz := hbw.size
        clear hx hS hf
        go_wp2_with fail
        refine (l2Cut _ (b := 62) hxs).mono ?_
        rintro e w3 ⟨vs, rfl, hV, b3⟩
        have hown3 := own_below hown b3
        have hpr3 := own_below hpr.out b3
        have hbw3 := hbw.trans (b3.mono hsz)
        have hsz3 := hbw3.size
        have hw3 := Nat.le_trans hw2 b3.size
        have HV := Lib.hid hV
        obtain ⟨As, cs, hvs, _, _⟩ := own_form hV.1
        subst hvs
        by_cases h2 : (P.cut x ⟨#[62]⟩).length = 2
        · obtain ⟨y, z, hyz⟩ : ∃ y z, P.cut x ⟨#[62]⟩ = [y, z] := by
            match hc : P.cut x ⟨#[62]⟩, h2 with
            | [y, z], _ => exact ⟨y, z, rfl⟩
          have HY := Lib.hid (P.cut_size x ⟨#[62]⟩)
          have hys : y.size ≤ maxLen := by have := HY.out y (by rw [hyz]; simp); unfold maxLen; omega
          have hzs : z.size ≤ maxLen := by have := HY.out z (by rw [hyz]; simp); unfold maxLen; omega
          have HSP : Hid (sideP l2N x = (l2N y, l2N z)) := by show _ = _; unfold sideP; rw [hyz]; rfl
          have HRK : Hid (rs[k]? = some (sideP l2N x)) := by show _ = _; rw [← hrs.out]; exact rdPs_at HXK.out
          obtain ⟨A', n', c', e', hT⟩ := own_strs HV.out.1 (fun u hu => by have := HY.out u hu; unfold maxLen; omega)
          injection e' with e1 e2 e3
          subst e1 e3
          rw [h2] at e2
          subst e2
          obtain ⟨sb, so, y', rfl, hsb, hy, _, hcy⟩ := hT.str (k := 0) (by omega)
          obtain ⟨sb1, so1, z', hbe, _, hz, _, hcz⟩ := hT.str (k := 1) (by omega)
          injection hbe with hbe
          injection hbe with hbe1 hbe2 _
          subst hbe1 hbe2
          rw [hyz] at hy hz
          simp at hy hz
          subst hy hz
          rw [Nat.add_zero] at hcy
          have hsc := hT.le
          have p3 : (2 : Int) ≤ (cs : Int) := by omega
          rw [h2]
          have q3 : ((2 : Nat) : Int) = 2 := rfl
          have htw2 : Hid (∀ t ∈ (P.cut s ⟨#[44]⟩).take (k + 1), (P.cut t ⟨#[62]⟩).length = 2) := by
            intro t ht
            obtain ⟨hl9, e9⟩ := List.getElem?_eq_some_iff.1 HXK.out
            rw [List.take_succ_eq_append_getElem hl9, e9] at ht
            rcases List.mem_append.1 ht with ht | ht
            · exact htw.out t ht
            · simp at ht; rw [ht]; exact h2
          clear h2 hyz hT hV b3 hown hbw hc
          have HY1 := Lib.hid hys
          have HZ1 := Lib.hid hzs
          go_wp2_with fail
          refine wp_region_mt 8 _ (by kernel_rfl) rfl rfl (fun _ _ _ _ h => h) (by kernel_rfl) ?_; simp only [List.take_succ_cons, List.take_zero, List.drop_succ_cons, List.drop_zero, Act.put, Act.eval, List.setIfInBounds_toArray, List.set_cons_zero, List.set_cons_succ, Array.getD_eq_getD_getElem?, List.getElem?_toArray, List.getElem?_cons_succ, List.getElem?_cons_zero, Option.getD_some]; (repeat (go_big_quiet_step ((go_at_call 103; first | exact quietB (l2Num _ HY1.out) | exact quietB (l2Num _ HZ1.out))))); refine wpQuiet_nil ?_; intro w8 hb8
          have hown5 := own_below hown3 hb8
          have hpr5 := own_below hpr3 hb8
          have hbw5 := hbw3.trans (hb8.mono hsz3)
          have hz8 := hb8.size
          clear hb8 hown3 hpr3 hbw3 hcy hcz
          go_wp2_with (at_builtin; refine wpList_append_own_at _ rfl _ _ 51 rfl w.heap.size 92 i0 (.agg #[.int .i64 0, .int .i64 0]) 2 16 Try.underlying51 hi hz0 hz1 hz2 rfl (by decide) _ _ _ rfl (hown5.alloc _) ⟨w8.heap.size, 0, none⟩ 1 1 [_, _] rfl rfl (cell_two_new _ _ _ _) (by simp [Value.oneCell']) (by unfold maxLen; omega) (by omega) (by simp; omega) ?_)
          intro v' w6 hown6 hgrow _ hat
          have hbw6 := Lib.hid (app_below hbw5 hown5 hgrow)
          have hpr6 := Lib.hid (own_grown (hpr5.alloc _) hgrow (fun g hg hh => by
            have h1 := hP2.out g hg
            have h2 := (hpr5.lt g hg).1
            have h3 := hq.out g hh.symm
            omega))
          have hw6 : w2.heap.size ≤ w6.heap.size := by have := hgrow.size; simp at this; omega
          have hq6 : Hid (∀ q, v'.ownBlock = some q → q = w.heap.size ∨ w2.heap.size ≤ q) := by
            intro q hv
            rcases hat with hat | hat
            · exact hq.out q (hat.symm.trans hv)
            · rw [hat] at hv
              injection hv with hv
              refine .inr ?_
              first | omega | (simp at hv; omega)
          have hown7 : Hid (w6.ownsRow w.heap.size 92 2 v' (k + 1) (prc (rs.take (k + 1)))) := by
            show World.ownsRow _ _ _ _ _ _ _
            rw [← prc_snoc2 HRK.out, HSP.out]
            exact hown6
          clear hown6 hgrow hown5 hbw5 hat hpr5
          go_wp2
          go_roundw
          case rel => exact ⟨k + 1, by omega, by go_num, hown7.out, htw2, hpr6, hq6, hw6, hbw6.out⟩
          case measure => simp [intOf]; omega
        · have HP := Lib.hid (parP_bad HNO.out HXM.out h2)
          obtain ⟨m, hm⟩ : ∃ m, (P.cut x ⟨#[62]⟩).length = m := ⟨_, rfl⟩
          rw [hm] at h2 ⊢
          have q3 : ((m : Int) != 2) = true := by simp; omega
          have BZ := hbw3.alloc hsz3 (.cells #[] 92)
          have OZ := Lib.hid (ownPs_nil (w2 := w3) (lo := w.heap.size) hsz3)
          clear hm h2 hV HV hc b3 hown hbw hown3 hpr3
          go_wp2
          go_ret2
          refine ⟨_, ret_pb HP.out.2.symm, ?_, BZ⟩
          rw [HP.out.1]
          exact OZ.out
      · have hkn : k = n := by omega
        subst hkn
        rw [List.take_of_length_le (by have := HRL.out; omega)] at hown
        obtain ⟨A', c', hv, _, _⟩ := own_form hown
        subst hv
        have hsz := hbw.size
        have hS : Sl RP 2 wr wr.heap.size A' k c' rs := by
          obtain ⟨A'', n'', c'', e'', hS⟩ := own_pairs (by rw [HRL.out]; exact hown) HRF.out
          injection e'' with e1 e2 e3
          subst e1 e2 e3
          exact hS
        have hl : rs.length = k := HRL.out
        have HO := Lib.hid hown
        have HB := Lib.hid hbw
        have HL2 := Lib.hid hl
        clear hown hbw hl
        have HTW : Hid (allTwo s) := fun t ht => htw.out t (by rw [List.take_of_length_le (by have := HL.out; omega)]; exact ht)
        have HN2 : Hid (pairsS rs ≠ s → parP s = [] ∧ parPB s = false) := fun h => HEND.out.2 (.inr h)
        have HY2 : Hid (pairsS rs = s → parP s = rs ∧ parPB s = true) := by
          intro e
          by_cases h0 : s = ⟨#[]⟩
          · exfalso
            have h1 := HTW.out
            subst h0
            have := h1 ⟨#[]⟩ (by rw [cut_nil (by decide)]; simp)
            rw [cut_nil (by decide)] at this
            simp at this
          · exact HEND.out.1 h0 e
        clear HEND
        go_wp2_with fail
        refine (specFormatPairs _ hS).mono ?_
        rintro e w7 ⟨rfl, b7⟩
        have O7 := own_below HO.out b7
        have B7 := HB.out.trans (b7.mono hsz)
        have z7 := B7.size
        by_cases e : pairsS rs = s
        · have HP := Lib.hid (HY2.out e)
          have q5 := ba_yes e
          clear e
          go_wp2
          go_ret2
          refine ⟨.slice A' k c', ret_pb HP.out.2.symm, ?_, B7⟩
          rw [HP.out.1]
          refine ⟨?_, own_und O7⟩
          rw [HL2.out]; exact O7
        · have HP := Lib.hid (HN2.out e)
          have q5 := ba_no e
          have BZ := B7.alloc z7 (.cells #[] 92)
          have OZ := Lib.hid (ownPs_nil (w2 := w7) (lo := w.heap.size) z7)
          clear e
          go_wp2
          go_ret2
          refine ⟨_, ret_pb HP.out.2.symm, ?_, BZ⟩
          rw [HP.out.1]
          exact OZ.out
set_option maxHeartbeats 3200000 in
set_option maxRecDepth 100000 in
theorem implParsePairs (w : World) {s : ByteArray} (hs : s.size ≤ 1048576) : Calls Try.prog 84 #[.string s] w (RetPB w (parP s) (parPB s)) := by
  obtain ⟨i0, hi, hz0, hz1, hz2⟩ := info_parts info_p74
  have HX := Lib.hid (P.cut_size s ⟨#[44]⟩)
  have HCL := Lib.hid (P.cut_len s ⟨#[44]⟩)
  have B1 := (Below.refl w.heap.size w).alloc (Nat.le_refl _) (.cells #[] 92)
  have O1 := own_emptyS w 92 2
  by_cases hnone : s = ⟨#[110, 111, 110, 101]⟩
  · have HP : Hid (parP s = [] ∧ parPB s = true) := by show _ ∧ _; rw [hnone]; exact parP_none
    have q0 : (s.toList == [110, 111, 110, 101]) = true := by rw [show ([110, 111, 110, 101] : List UInt8) = (⟨#[110, 111, 110, 101]⟩ : ByteArray).toList by rw [ByteArray.toList_eq]]; exact ba_yes hnone
    have hne : ¬ s = ⟨#[]⟩ := by rw [hnone]; intro e; injection e with e; simp at e
    have q1 : ¬ s.toList = [] := fun e => hne (by rw [ByteArray.toList_eq] at e; exact P.ba_ext e)
    have q2 : s.toList.isEmpty = false := by rw [List.isEmpty_eq_false_iff]; exact q1
    have HS : Hid (pairsS [] = s) := by show _ = _; rw [hnone]; exact pairsS_none okP_nil
    have hS : Sl RP 2 (w.alloc (.cells #[] 92)) (w.alloc (.cells #[] 92)).heap.size (some ⟨w.heap.size, 0, none⟩) 0 0 [] := ⟨rfl, Nat.le_refl _, Nat.zero_le _, fun h => absurd h (Nat.lt_irrefl 0)⟩
    have tt : (s.toList == s.toList) = true := by simp
    clear hnone hne
    go_enter Try.func84, Try.ntmps84
    go_wp2_with fail
    refine (implFormatPairs _ hS).mono ?_
    rintro e w2 ⟨rfl, b2⟩
    rw [HS.out]
    have O2 := own_below O1 b2
    have B2 := B1.trans (b2.mono B1.size)
    go_wp2
    go_ret2
    refine ⟨.slice (some ⟨w.heap.size, 0, none⟩) 0 0, ret_pb HP.out.2.symm, ?_, B2⟩
    rw [HP.out.1]
    exact ⟨O2, own_und O2⟩
  · have HNO := Lib.hid hnone
    have q0 : (s.toList == [110, 111, 110, 101]) = false := by rw [show ([110, 111, 110, 101] : List UInt8) = (⟨#[110, 111, 110, 101]⟩ : ByteArray).toList by rw [ByteArray.toList_eq]]; exact ba_no hnone
    clear hnone
    have HEND := Lib.hid (parP_end (f := (fun t => piN t.data.toList)) reads_piN (s := s) HNO.out)
    go_enter Try.func84, Try.ntmps84
    go_wp2_with fail
    refine (cut _ hs (by decide) (by decide)).mono ?_
    rintro e w2 ⟨vp, rfl, hP, b2⟩
    have hsz2 := b2.size
    simp at hsz2
    have B2 := B1.trans (b2.mono B1.size)
    have O2 := own_below O1 b2
    have hP1 := Lib.hid hP.1
    have hP2 := Lib.hid hP.2
    simp only [World.size_alloc] at hP1
    obtain ⟨A, c, rfl, _, _⟩ := own_form hP.1
    obtain ⟨n, hn⟩ : ∃ n, (P.cut s ⟨#[44]⟩).length = n := ⟨_, rfl⟩
    have HL := Lib.hid hn
    have hn1 : n ≤ 1048577 := by have := HL.out; have := HCL.out; omega
    have HRL : Hid ((rdPs (fun t => piN t.data.toList) s).length = n) := by show _ = _; rw [rdPs_len]; exact HL.out
    have HRF := Lib.hid (rdPs_fit (f := (fun t => piN t.data.toList)) (fun t => piN_fit _) s)
    obtain ⟨rs, hrs⟩ : ∃ rs, Hid (rdPs (fun t => piN t.data.toList) s = rs) := ⟨_, rfl⟩
    rw [hrs.out] at HEND HRL HRF
    clear hP b2 O1 B1
    rw [hn]
    rw [hn] at hP1 hP2
    have hst : ∀ q, (Value.slice (some ⟨w.heap.size, 0, none⟩) 0 0).ownBlock = some q → q = w.heap.size ∨ w2.heap.size ≤ q := fun q hq => .inl (by simp [Value.ownBlock] at hq; omega)
    have HST := Lib.hid hst
    clear hst
    go_wp2
    go_loopw [4, 6, 7, 8, 15] (fun vo v6 v7 v8 vi wr => ∃ k : Nat, k ≤ n ∧ vi = .int .i64 k ∧ wr.ownsRow w.heap.size 92 2 vo k (prc (rs.take k)) ∧ Hid (wr.ownsRow (w.heap.size + 1) 9 1 (.slice A n c) n ((P.cut s ⟨#[44]⟩).map Value.string)) ∧ Hid (∀ q, vo.ownBlock = some q → q = w.heap.size ∨ w2.heap.size ≤ q) ∧ w2.heap.size ≤ wr.heap.size ∧ Below w.heap.size w wr) (fun _ _ _ _ vi _ => n - (intOf vi).toNat)
    case atStart => exact ⟨0, Nat.zero_le _, rfl, O2, hP1, HST, Nat.le_refl _, B2⟩
    case round =>
      clear hP1 HST O2 B2
      obtain ⟨k, hk, rfl, hown, hpr, hq, hw2, hbw⟩ := hrel
      by_cases hlt : k < n
      · obtain ⟨A', n', c', e', hS⟩ := own_strs (xs := P.cut s ⟨#[44]⟩) (by rw [HL.out]; exact hpr.out) (fun x hx => by have := HX.out x hx; unfold maxLen; omega)
        injection e' with e1 e2 e3
        subst e1 e2 e3
        obtain ⟨b, o, x, rfl, hb, hx, hf, hc⟩ := hS.str hlt
        have hnc := hS.le
        have p1 : (k : Int) < (n : Int) := by omega
        have p2 : (n : Int) ≤ (c : Int) := by omega
        have HXM := Lib.hid (List.mem_of_getElem? hx)
        obtain ⟨Ao, co, hvo, _, _⟩ := own_form hown
        subst hvo
        have HXK := Lib.hid hx
        have hxs : x.size ≤ 1048576 := Nat.le_trans (HX.out x HXM.out) hs
        have hsz := hbw.size
        clear hx hS hf
        go_wp2_with fail
        refine (cut _ hxs (by decide) (by decide)).mono ?_
        rintro e w3 ⟨vs, rfl, hV, b3⟩
        have hown3 := own_below hown b3
        have hpr3 := own_below hpr.out b3
        have hbw3 := hbw.trans (b3.mono hsz)
        have hsz3 := hbw3.size
        have hw3 := Nat.le_trans hw2 b3.size
        have HV := Lib.hid hV
        obtain ⟨As, cs, hvs, _, _⟩ := own_form hV.1
        subst hvs
        by_cases h2 : (P.cut x ⟨#[62]⟩).length = 2
        · obtain ⟨y, z, hyz⟩ : ∃ y z, P.cut x ⟨#[62]⟩ = [y, z] := by
            match hc : P.cut x ⟨#[62]⟩, h2 with
            | [y, z], _ => exact ⟨y, z, rfl⟩
          have HY := Lib.hid (P.cut_size x ⟨#[62]⟩)
          have hys : y.size ≤ maxLen := by have := HY.out y (by rw [hyz]; simp); unfold maxLen; omega
          have hzs : z.size ≤ maxLen := by have := HY.out z (by rw [hyz]; simp); unfold maxLen; omega
          have HSP : Hid (sideP (fun t => piN t.data.toList) x = ((fun t => piN t.data.toList) y, (fun t => piN t.data.toList) z)) := by show _ = _; unfold sideP; rw [hyz]; rfl
          have HRK : Hid (rs[k]? = some (sideP (fun t => piN t.data.toList) x)) := by show _ = _; rw [← hrs.out]; exact rdPs_at HXK.out
          obtain ⟨A', n', c', e', hT⟩ := own_strs HV.out.1 (fun u hu => by have := HY.out u hu; unfold maxLen; omega)
          injection e' with e1 e2 e3
          subst e1 e3
          rw [h2] at e2
          subst e2
          obtain ⟨sb, so, y', rfl, hsb, hy, _, hcy⟩ := hT.str (k := 0) (by omega)
          obtain ⟨sb1, so1, z', hbe, _, hz, _, hcz⟩ := hT.str (k := 1) (by omega)
          injection hbe with hbe
          injection hbe with hbe1 hbe2 _
          subst hbe1 hbe2
          rw [hyz] at hy hz
          simp at hy hz
          subst hy hz
          rw [Nat.add_zero] at hcy
          have hsc := hT.le
          have p3 : (2 : Int) ≤ (cs : Int) := by omega
          rw [h2]
          have q3 : ((2 : Nat) : Int) = 2 := rfl
          clear h2 hyz hT hV b3 hown hbw hc
          have NB0 : Hid (¬ (Value.slice Ao k co).ownBlock = some w3.heap.size) := fun hg => by have := (hown3.lt _ hg).2; omega
          have NB1 : Hid (¬ (Value.slice (some ⟨b, o, none⟩) n c).ownBlock = some w3.heap.size) := fun hg => by have := (hpr3.lt _ hg).2; omega
          have HNK : Hid (k < n) := hlt
          have BX := (Below.refl w3.heap.size w3).alloc (Nat.le_refl _) (.cells #[.int .i64 0, .int .i64 0] 92)
          go_wp2_with fail
          refine (implParseInt y hys _).mono ?_
          rintro e w4 ⟨rfl, b4⟩
          obtain ⟨py, hpy⟩ : ∃ py, piN y.data.toList = py := ⟨_, rfl⟩
          have b4' := BX.trans (b4.mono (by simp))
          have hz4 := b4.size
          simp at hz4
          have R4 := (Row.new w3 92 [.int .i64 0, .int .i64 0]).below b4 (by simp)
          have f0 := R4.free 0
          have g0 : w4.cell? ⟨w3.heap.size, 0, none⟩ = some (.int .i64 0) := R4.cell 0
          have l4 := R4.lt
          have C4 : Chg (fun q => q = w3.heap.size) w4 (w4.setCell ⟨w3.heap.size, 0, none⟩ (.int .i64 py)) := (Chg.refl (fun q => q = w3.heap.size) w4).setCell (p := ⟨w3.heap.size, 0, none⟩) rfl _
          have hown4 := own_chg (own_below hown3 b4') C4 (fun g hg hh => by subst hh; have := (hown3.lt _ hg).2; omega)
          have hpr4 := own_chg (own_below hpr3 b4') C4 (fun g hg hh => by subst hh; have := (hpr3.lt _ hg).2; omega)
          have hbw4 := (hbw3.trans (b4'.mono hsz3)).setCell (p := ⟨w3.heap.size, 0, none⟩) hsz3 (.int .i64 py)
          have cy4 := ((cell_of b4') sb so hsb).trans hcy
          have cz4 := ((cell_of b4') sb (so + 1) hsb).trans hcz
          have cz5 : (w4.setCell ⟨w3.heap.size, 0, none⟩ (.int .i64 py)).cell? ⟨sb, so + 1, none⟩ = some (.string z) := by rw [World.cell?_setCell_far _ _ _ _ (by show w3.heap.size ≠ sb; omega)]; exact cz4
          have R5 : Row (w4.setCell ⟨w3.heap.size, 0, none⟩ (.int .i64 py)) w3.heap.size 92 [.int .i64 py, .int .i64 0] := R4.set 0 _
          rw [hpy] at HSP ⊢
          clear hcy hcz b4 b4' BX R4 hown3 hpr3 hbw3 cy4 hpy
          have z4 : (w4.setCell ⟨w3.heap.size, 0, none⟩ (.int .i64 py)).heap.size = w4.heap.size := by simp
          have H0 := Lib.hid hown4
          have H1 := Lib.hid hpr4
          have H2 := Lib.hid hbw4
          have H3 := Lib.hid R5
          clear hown4 hpr4 hbw4 R5 C4
          have hsb4 : sb < w4.heap.size := by omega
          go_wp2_with fail
          refine (implParseInt z hzs _).mono ?_
          rintro e w5 ⟨rfl, b5⟩
          obtain ⟨pz, hpz⟩ : ∃ pz, piN z.data.toList = pz := ⟨_, rfl⟩
          have hz5 := b5.size
          simp at hz5
          have R5 := H3.out.below b5 (by simp; omega)
          have f1 := R5.free 1
          have g1 : w5.cell? ⟨w3.heap.size, 1, none⟩ = some (.int .i64 0) := R5.cell 1
          have g2 : w5.cell? ⟨w3.heap.size, 0, none⟩ = some (.int .i64 py) := R5.cell 0
          have l5 := R5.lt
          have C5 : Chg (fun q => q = w3.heap.size) w5 (w5.setCell ⟨w3.heap.size, 1, none⟩ (.int .i64 pz)) := (Chg.refl (fun q => q = w3.heap.size) w5).setCell (p := ⟨w3.heap.size, 1, none⟩) rfl _
          have hb5 := own_below H0.out b5
          have hp5 := own_below H1.out b5
          have hown5 := own_chg hb5 C5 (fun g hg hh => by subst hh; exact NB0.out hg)
          have hpr5 := own_chg hp5 C5 (fun g hg hh => by subst hh; exact NB1.out hg)
          have hbw5 := (H2.out.trans (b5.mono (by simp; omega))).setCell (p := ⟨w3.heap.size, 1, none⟩) (by show w.heap.size ≤ w3.heap.size; omega) (.int .i64 pz)
          have R6 : Row (w5.setCell ⟨w3.heap.size, 1, none⟩ (.int .i64 pz)) w3.heap.size 92 [.int .i64 py, .int .i64 pz] := R5.set 1 _
          have h0 : (w5.setCell ⟨w3.heap.size, 1, none⟩ (.int .i64 pz)).cell? ⟨w3.heap.size, 0, none⟩ = some (.int .i64 py) := R6.cell 0
          have h1 : (w5.setCell ⟨w3.heap.size, 1, none⟩ (.int .i64 pz)).cell? ⟨w3.heap.size, 1, none⟩ = some (.int .i64 pz) := R6.cell 1
          have l6 := R6.lt
          rw [hpz] at HSP ⊢
          have hp1 := HNK.out
          clear b5 H0 H1 H2 H3 hb5 hp5 C5 R5 hpz cz4 cz5 R6
          have z6 : (w5.setCell ⟨w3.heap.size, 1, none⟩ (.int .i64 pz)).heap.size = w5.heap.size := by simp
          have N2 := cell_two_new (w5.setCell ⟨w3.heap.size, 1, none⟩ (.int .i64 pz)) (.int .i64 py) (.int .i64 pz) 92
          rw [z6] at N2
          have hwz : w.heap.size ≤ w5.heap.size := by omega
          go_wp2_with (at_builtin; refine wpList_append_own_at _ rfl _ _ 51 rfl w.heap.size 92 i0 (.agg #[.int .i64 0, .int .i64 0]) 2 16 Try.underlying51 hi hz0 hz1 hz2 rfl (by decide) _ _ _ rfl (hown5.alloc _) ⟨w5.heap.size, 0, none⟩ 1 1 [_, _] rfl rfl N2 (by simp [Value.oneCell']) (by unfold maxLen; omega) (by omega) (by simp; omega) ?_)
          intro v' w6 hown6 hgrow _ hat
          have hbw6 := Lib.hid (app_below hbw5 hown5 hgrow)
          have hpr6 := Lib.hid (own_grown (hpr5.alloc (.cells #[.int .i64 py, .int .i64 pz] 92)) hgrow (fun g hg hh => by
            have h1 := hP2.out g hg
            have h2 := (hpr5.lt g hg).1
            have h3 := hq.out g hh.symm
            omega))
          have hw6 : w2.heap.size ≤ w6.heap.size := by have := hgrow.size; simp at this; omega
          have hq6 : Hid (∀ q, v'.ownBlock = some q → q = w.heap.size ∨ w2.heap.size ≤ q) := by
            intro q hv
            rcases hat with hat | hat
            · exact hq.out q (hat.symm.trans hv)
            · rw [hat] at hv
              injection hv with hv
              refine .inr ?_
              first | omega | (simp at hv; omega)
          have hown7 : Hid (w6.ownsRow w.heap.size 92 2 v' (k + 1) (prc (rs.take (k + 1)))) := by
            show World.ownsRow _ _ _ _ _ _ _
            rw [← prc_snoc2 HRK.out, HSP.out]
            exact hown6
          clear hown6 hgrow hown5 hbw5 hat hpr5
          go_wp2
          go_roundw
          case rel => exact ⟨k + 1, by omega, by go_num, hown7.out, hpr6, hq6, hw6, hbw6.out⟩
          case measure => simp [intOf]; omega
        · have HP := Lib.hid (parP_bad HNO.out HXM.out h2)
          obtain ⟨m, hm⟩ : ∃ m, (P.cut x ⟨#[62]⟩).length = m := ⟨_, rfl⟩
          rw [hm] at h2 ⊢
          have q3 : ((m : Int) != 2) = true := by simp; omega
          have BZ := hbw3.alloc hsz3 (.cells #[] 92)
          have OZ := Lib.hid (ownPs_nil (w2 := w3) (lo := w.heap.size) hsz3)
          clear hm h2 hV HV hc b3 hown hbw hown3 hpr3
          go_wp2
          go_ret2
          refine ⟨_, ret_pb HP.out.2.symm, ?_, BZ⟩
          rw [HP.out.1]
          exact OZ.out
      · have hkn : k = n := by omega
        subst hkn
        rw [List.take_of_length_le (by have := HRL.out; omega)] at hown
        obtain ⟨A', c', hv, _, _⟩ := own_form hown
        subst hv
        have hsz := hbw.size
        have hS : Sl RP 2 wr wr.heap.size A' k c' rs := by
          obtain ⟨A'', n'', c'', e'', hS⟩ := own_pairs (by rw [HRL.out]; exact hown) HRF.out
          injection e'' with e1 e2 e3
          subst e1 e2 e3
          exact hS
        have hl : rs.length = k := HRL.out
        have HO := Lib.hid hown
        have HB := Lib.hid hbw
        have HL2 := Lib.hid hl
        clear hown hbw hl
        by_cases h0 : s = ⟨#[]⟩
        · have q1 : s.toList = [] := by rw [h0, ByteArray.toList_eq]
          have q2 : s.toList.isEmpty = true := by rw [q1]; rfl
          have HP := Lib.hid (HEND.out.2 (.inl h0))
          have BZ := HB.out.alloc hsz (.cells #[] 92)
          have OZ := Lib.hid (ownPs_nil (w2 := wr) (lo := w.heap.size) hsz)
          clear h0 HEND q0
          go_wp2
          go_ret2
          refine ⟨_, ret_pb HP.out.2.symm, ?_, BZ⟩
          rw [HP.out.1]
          exact OZ.out
        · have q1 : ¬ s.toList = [] := fun e => h0 (by rw [ByteArray.toList_eq] at e; exact P.ba_ext e)
          have q2 : s.toList.isEmpty = false := by rw [List.isEmpty_eq_false_iff]; exact q1
          have HY2 := Lib.hid (HEND.out.1 h0)
          have HN2 : Hid (pairsS rs ≠ s → parP s = [] ∧ parPB s = false) := fun h => HEND.out.2 (.inr h)
          clear h0 HEND
          go_wp2_with fail
          refine (implFormatPairs _ hS).mono ?_
          rintro e w7 ⟨rfl, b7⟩
          have O7 := own_below HO.out b7
          have B7 := HB.out.trans (b7.mono hsz)
          have z7 := B7.size
          by_cases e : pairsS rs = s
          · have HP := Lib.hid (HY2.out e)
            have q5 := ba_yes e
            clear e
            go_wp2
            go_ret2
            refine ⟨.slice A' k c', ret_pb HP.out.2.symm, ?_, B7⟩
            rw [HP.out.1]
            refine ⟨?_, own_und O7⟩
            rw [HL2.out]; exact O7
          · have HP := Lib.hid (HN2.out e)
            have q5 := ba_no e
            have BZ := B7.alloc z7 (.cells #[] 92)
            have OZ := Lib.hid (ownPs_nil (w2 := w7) (lo := w.heap.size) z7)
            clear e
            go_wp2
            go_ret2
            refine ⟨_, ret_pb HP.out.2.symm, ?_, BZ⟩
            rw [HP.out.1]
            exact OZ.out
end Go.Proofs.Ytgjghpaenliliaa.Wk

namespace Go.Proofs.Ytgjghpaenliliaa.M
open Go Go.RowKit
set_option linter.unusedVariables false

section
variable {P : Program} {ops : Array Oper} {md : Region.Mode} {Q : Exit → Act → World → Prop} {C : World → Prop} {n : Nat}
/-- Whatever order is picked from here on; C holds behind each operation below n. -/
def wpAnyT (P : Program) (md : Region.Mode) (ops : Array Oper) (Q : Exit → Act → World → Prop) (C : World → Prop) (n : Nat) : Nat → Array Bool → Act → World → Prop
  | 0, b, a, w => Region.ready md ops b = [] ∧ Q .normal a w
  | f + 1, b, a, w => (Region.ready md ops b = [] → Q .normal a w) ∧ ∀ i ∈ Region.ready md ops b, wpOp P ops Q i (fun a' w' => (i < n → C w') ∧ wpAnyT P md ops Q C n f (b.setIfInBounds i true) a' w') a w
theorem wpAny_of_T : ∀ (f : Nat) (b : Array Bool) (a : Act) (w : World), wpAnyT P md ops Q C n f b a w → wpAny P md ops Q f b a w
  | 0, _, _, _, h => h
  | f + 1, _, _, _, h => ⟨h.1, fun i hi => wpOp_mono (fun a' w' h' => wpAny_of_T f _ a' w' h'.2) (h.2 i hi)⟩
theorem wpAnyT_first {i : Nat} {oi : Oper} {v : Value} (hi : ops[i]? = some oi) (hsel : ∀ (j : Nat) (o : Oper) cs b, ops[j]? = some o → o.op ≠ .select cs b)
    (hQ : ∀ c a w, Q (.panic c) (a.put oi.dst v) w → Q (.panic c) a w) (hs : sinkM md ops 0 n = true) (hc : Region.chainB md ops n = true) (hn : n < ops.size) (hin : i < n) :
    ∀ (fuel : Nat) (listed : Array Bool) (a : Act) (w : World), HeadInv md ops n listed →
      (∀ j oj, ops[j]? = some oj → j ≠ i → listed.getD j true = false → (∀ e ∈ oj.after, Region.binds md e = true → e.on ≠ i) → oi.apart ops oj = true) →
      i ∈ Region.ready md ops listed → YieldsIf P ops C oi v a → C w →
      wpAnyT P md ops Q C n fuel (listed.setIfInBounds i true) (a.put oi.dst v) w → wpAnyT P md ops Q C n (fuel + 1) listed a w := by
  intro fuel
  induction fuel with
  | zero =>
    intro listed a w _ _ hr hy hS H
    refine ⟨fun h => (by rw [h] at hr; cases hr), fun j hj => ?_⟩
    by_cases hji : j = i
    · subst hji; exact hy.wpOp hi hS ⟨fun _ => hS, H⟩
    · have := ready_mono hj hji
      rw [H.1] at this
      cases this
  | succ fuel ih =>
    intro listed a w inv hfree hr hy hS H
    refine ⟨fun h => (by rw [h] at hr; cases hr), fun j hj => ?_⟩
    by_cases hji : j = i
    · subst hji; exact hy.wpOp hi hS ⟨fun _ => hS, H⟩
    · have hun := (mem_ready.1 hr).1
      have hjn : j < n := by
        rcases Nat.lt_or_ge j n with h | h
        · exact h
        · exact absurd hj (waitsM hs hc hn inv (Nat.zero_le _) hin hun j h)
      have h1 := H.2 j (ready_mono hj hji)
      obtain ⟨hjun, oj, hoj, hall⟩ := mem_ready.1 hj
      have hnot : ∀ e ∈ oj.after, Region.binds md e = true → e.on ≠ i := fun e he hb heq => by
        have h1 := hall e he hb
        rw [heq, getD_both hun] at h1
        cases h1
      have h2 := wpOp_putIf hoj (hfree j oj hoj hji hjun hnot) (fun cs b => hsel i oi cs b hi) (fun cs b => hsel j oj cs b hoj) hQ hy h1
      have hfree' : ∀ k ok, ops[k]? = some ok → k ≠ i → (listed.setIfInBounds j true).getD k true = false →
          (∀ e ∈ ok.after, Region.binds md e = true → e.on ≠ i) → oi.apart ops ok = true := fun k ok hk hki hun2 hno => by
        refine hfree k ok hk hki ?_ hno
        by_cases hjk : j = k
        · subst hjk; exact hjun
        · rw [getD_set_ne true hjk] at hun2; exact hun2
      refine wpOp_mono (fun a' w' h3 => ⟨h3.2.1, ih (listed.setIfInBounds j true) a' w' (inv.set hj hjn) hfree' (ready_mono hr (Ne.symm hji)) h3.1 (h3.2.1 hjn) ?_⟩) h2
      rw [Array.setIfInBounds_comm _ _ hji]
      exact h3.2.2
/-- Some operations, one behind the other; C behind each below n. -/
def wpListT (P : Program) (ops : Array Oper) (Q : Exit → Act → World → Prop) (C : World → Prop) (n : Nat) : List Oper → Nat → Act → World → Prop
  | [], _, a, w => Q .normal a w
  | _ :: l, k, a, w => wpOp P ops Q k (fun a' w' => (k < n → C w') ∧ wpListT P ops Q C n l (k + 1) a' w') a w
theorem wpAnyT_seq : ∀ (l : List Oper) (k : Nat) (b : Array Bool) (a : Act) (w : World), Region.seqB md ops l.length k b = true → wpListT P ops Q C n l k a w → wpAnyT P md ops Q C n l.length b a w
  | [], _, _, _, _, hB, h => ⟨by simpa [Region.seqB] using hB, h⟩
  | o :: l, k, b, a, w, hB, h => by
    simp only [List.length_cons, Region.seqB, Bool.and_eq_true, decide_eq_true_eq] at hB
    refine ⟨fun h1 => (by rw [hB.1] at h1; cases h1), fun i hi => ?_⟩
    rw [hB.1] at hi
    have hik : i = k := by simpa using hi
    subst hik
    exact wpOp_mono (fun a' w' h' => ⟨h'.1, wpAnyT_seq l (i + 1) _ a' w' hB.2 h'.2⟩) h
/-- What is asked of the listed operations, as a test. -/
def headB (md : Region.Mode) (ops : Array Oper) (n : Nat) (b : Array Bool) : Bool :=
  decide (b.size = ops.size) && (List.range ops.size).all fun j => !(b.getD j false) || (decide (j < n) && match ops[j]? with | some o => o.after.all (fun e => !Region.binds md e || b.getD e.on false) | none => true)
theorem headB_spec {b : Array Bool} (h : headB md ops n b = true) : HeadInv md ops n b := by
  unfold headB at h
  rw [Bool.and_eq_true, decide_eq_true_eq] at h
  obtain ⟨h1, h2⟩ := h
  have key : ∀ j, j < ops.size → b.getD j false = true → j < n ∧ ∀ o, ops[j]? = some o → ∀ e ∈ o.after, Region.binds md e = true → b.getD e.on false = true := by
    intro j hj hb
    have h3 := List.all_eq_true.1 h2 j (List.mem_range.2 hj)
    rw [hb] at h3
    simp only [Bool.not_true, Bool.false_or, Bool.and_eq_true, decide_eq_true_eq] at h3
    refine ⟨h3.1, fun o ho e he hbi => ?_⟩
    have h4 := h3.2
    rw [ho] at h4
    simp only at h4
    rw [Array.all_eq_true_iff_forall_mem] at h4
    have h5 := h4 e he
    rw [hbi] at h5
    simpa using h5
  refine ⟨h1, fun j oj hj hl e he hb => (key j (Array.getElem?_eq_some_iff.1 hj).1 hl).2 oj hj e he hb, fun t ht hts => getD_in (by omega) ?_⟩
  cases hb : b.getD t false with
  | false => rfl
  | true => have := (key t hts hb).1; omega
def takeB (md : Region.Mode) (ops : Array Oper) (n : Nat) (b : Array Bool) (i : Nat) : Bool :=
  Region.noSelect ops && sinkM md ops 0 n && Region.chainB md ops n && decide (n < ops.size) && decide (i < n) && headB md ops n b && (Region.ready md ops b).contains i && Region.free md ops b i
theorem wpAnyT_take {i : Nat} {oi : Oper} {v : Value} {fuel : Nat} {b : Array Bool} {a : Act} {w : World} (hi : ops[i]? = some oi) (hB : takeB md ops n b i = true)
    (hQ : ∀ c a w, Q (.panic c) (a.put oi.dst v) w → Q (.panic c) a w) (hy : YieldsIf P ops C oi v a) (hS : C w)
    (h : wpAnyT P md ops Q C n fuel (b.setIfInBounds i true) (a.put oi.dst v) w) : wpAnyT P md ops Q C n (fuel + 1) b a w := by
  unfold takeB at hB
  simp only [Bool.and_eq_true, decide_eq_true_eq] at hB
  obtain ⟨⟨⟨⟨⟨⟨⟨h1, h2⟩, h3⟩, h4⟩, h5⟩, h6⟩, h7⟩, h8⟩ := hB
  exact wpAnyT_first hi (Region.noSelect_spec h1) hQ h2 h3 h4 h5 fuel b a w (headB_spec h6) (Region.free_spec hi h8) (by simpa using h7) hy hS h
theorem wp_region_T {id : Nat} {a : Act} {w : World} {l : List Oper} (n : Nat) (C : World → Prop) (hm : P.follows .mixedOrders = true) (hC : C w.drew)
    (h : C w.drew → wpAnyT P .any l.toArray Q C n l.toArray.size (Array.replicate l.toArray.size false) a w.drew) : (Code.region id l.toArray true).wp P Q a w :=
  wp_region_any hm (wpAny_of_T _ _ _ _ (h hC))
theorem wpAnyT_rest {l : List Oper} (m : Nat) {fuel : Nat} {b : Array Bool} {a : Act} {w : World} (hB : (decide (fuel = (l.drop m).length) && Region.seqB md l.toArray (l.drop m).length m b) = true)
    (h : wpListT P l.toArray Q C n (l.drop m) m a w) : wpAnyT P md l.toArray Q C n fuel b a w := by
  rw [Bool.and_eq_true, decide_eq_true_eq] at hB
  obtain ⟨rfl, h2⟩ := hB
  exact wpAnyT_seq (l.drop m) m b a w h2 h
theorem letsOut_then {R : Act → World → Prop} (h : LetsOut (Exit.then R Q)) : LetsOut Q := h
theorem Oper.wp_then {o : Oper} {a : Act} {w : World} {K : Act → World → Prop} {R : Act → World → Prop} (h : o.wp P a w K (Exit.then R Q)) : o.wp P a w K Q := by
  unfold Oper.wp at *
  generalize (execOp a.eval o).run P w = r at *
  cases r with
  | ok x w' => cases x <;> simp only [Oper.upon] at h ⊢ <;> exact h
  | halt x w' => cases x <;> simp only [Oper.upon] at h ⊢ <;> exact h
/-- The next operation by itself; behind it C, and the rest. -/
theorem wpListT_step {o : Oper} {l : List Oper} {k : Nat} {a : Act} {w : World} (ho : ops[k]? = some o)
    (h : wpList P ops (Exit.then (fun a w => (k < n → C w) ∧ wpListT P ops Q C n l (k + 1) a w) Q) [o] a w) : wpListT P ops Q C n (o :: l) k a w := by
  unfold wpListT wpOp
  rw [ho]
  simp only
  unfold wpList at h
  split
  · rename_i hw
    rw [if_pos hw] at h
    rcases h with h | ⟨h1, h2⟩
    · exact .inl (Oper.wp_mono (fun a w hh => hh) (Oper.wp_then h))
    · exact .inr ⟨h1, letsOut_then h2⟩
  · rename_i hw
    rw [if_neg hw] at h
    exact h
theorem wpListT_tail : ∀ {l : List Oper} {k : Nat} {a : Act} {w : World}, n ≤ k → (∀ j, l[j]? = ops[j + k]?) → wpList P ops Q l a w → wpListT P ops Q C n l k a w
  | [], _, _, _, _, _, h => h
  | o :: l, k, a, w, hk, hl, h => by
    have h0 : ops[k]? = some o := by simpa using (hl 0).symm
    have hw : wpOp P ops Q k (wpList P ops Q l) a w := by unfold wpOp; simp only [h0]; exact h
    exact wpOp_mono (fun a' w' h' => ⟨fun hh => absurd hh (by omega), wpListT_tail (by omega) (fun j => by have := hl (j + 1); rw [show j + 1 + k = j + (k + 1) by omega] at this; simpa using this) h'⟩) hw
theorem wpListT_end {l : List Oper} {k : Nat} {a : Act} {w : World} (hk : n ≤ k) (hl : ops.toList.drop k = l) (h : wpList P ops Q l a w) : wpListT P ops Q C n l k a w :=
  wpListT_tail hk (fun j => by rw [← hl, List.getElem?_drop, Array.getElem?_toList, Nat.add_comm]) h
end
end Go.Proofs.Ytgjghpaenliliaa.M
