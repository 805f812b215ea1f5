/-
  Pairs read back from their text, on plain lists.
  Conditions: none beyond the bounds that each states.
-/
import Derived.Test.YtoinkpbngghloaaW72
import Derived.Test.YtoinkpbngghloaaW34
namespace Go.Proofs.Ytoinkpbngghloaa.Wk
open Go.RowKit Go.Proofs.Ytoinkpbngghloaa.M
set_option linter.unusedVariables false

theorem pair_cut (p : Int × Int) : P.cut (pairS p) ⟨#[62]⟩ = [fmtS p.1, fmtS p.2] := by
  unfold pairS
  refine P.cut_join (b0 := 62) (bs := []) rfl ?_ (fun q hq => ?_)
  · rw [P.ba_app, P.ba_app]; simp [P.tails]
  · simp at hq
    rcases hq with rfl | rfl
    · exact fmtS_no (by decide)
    · exact fmtS_no (by decide)
theorem pairS_no (p : Int × Int) {b : UInt8} (h : b.toNat ≠ 45 ∧ (b.toNat < 48 ∨ 57 < b.toNat)) (h2 : b.toNat ≠ 62) : ∀ x ∈ (pairS p).data.toList, x ≠ b := by
  intro x hx
  unfold pairS at hx
  rw [P.ba_app, P.ba_app] at hx
  rcases List.mem_append.1 hx with hx | hx
  · rcases List.mem_append.1 hx with hx | hx
    · exact fmtS_no h x hx
    · simp at hx
      rintro rfl
      rw [hx] at h2
      exact h2 rfl
  · exact fmtS_no h x hx
theorem pairsS_some {l : List (Int × Int)} (h : P.okP l = true) (h0 : l ≠ []) : pairsS l = P.glue ⟨#[44]⟩ (l.map pairS) := by
  unfold pairsS; rw [h, if_pos rfl, if_neg h0]
theorem pairsS_none (h : P.okP [] = true) : pairsS [] = ⟨#[110, 111, 110, 101]⟩ := by
  unfold pairsS; rw [h]; rfl
theorem pairs_cut {l : List (Int × Int)} (h : P.okP l = true) (h0 : l ≠ []) : P.cut (pairsS l) ⟨#[44]⟩ = l.map pairS := by
  rw [pairsS_some h h0]
  refine P.cut_glue (b0 := 44) (bs := []) rfl (by simpa using h0) (fun q hq => ?_)
  obtain ⟨p, _, rfl⟩ := List.mem_map.1 hq
  exact pairS_no p (by decide) (by decide)
/-- A pair read from its two sides. -/
noncomputable def sideP (f : ByteArray → Int) (t : ByteArray) : Int × Int := (f ((P.cut t ⟨#[62]⟩).getD 0 ⟨#[]⟩), f ((P.cut t ⟨#[62]⟩).getD 1 ⟨#[]⟩))
/-- Every part has two sides. -/
def allTwo (s : ByteArray) : Prop := ∀ t ∈ P.cut s ⟨#[44]⟩, (P.cut t ⟨#[62]⟩).length = 2
noncomputable def rdPs (f : ByteArray → Int) (s : ByteArray) : List (Int × Int) := (P.cut s ⟨#[44]⟩).map (sideP f)
/-- Reads back what was written of a small number. -/
def Reads (f : ByteArray → Int) : Prop := ∀ n : Int, -1000000000 < n → n < 1000000000 → f (fmtS n) = n
theorem reads_piN : Reads fun t => piN t.data.toList := fun n h1 h2 => (piN_fmt h1 h2).1
theorem reads_l2N : Reads l2N := fun n h1 h2 => l2N_fmt h1 h2
theorem okP_bd {l : List (Int × Int)} (h : P.okP l = true) : ∀ p ∈ l, (0 ≤ p.1 ∧ p.1 ≤ 9) ∧ (0 ≤ p.2 ∧ p.2 ≤ 9) := fun p hp => P.inP_mem (P.okP_in h) hp
theorem sideP_pair {f : ByteArray → Int} (hf : Reads f) {p : Int × Int} (h : (0 ≤ p.1 ∧ p.1 ≤ 9) ∧ (0 ≤ p.2 ∧ p.2 ≤ 9)) : sideP f (pairS p) = p := by
  unfold sideP
  rw [pair_cut]
  simp only [List.getD_cons_zero, List.getD_cons_succ]
  rw [hf _ (by omega) (by omega), hf _ (by omega) (by omega)]
theorem rdPs_back {f : ByteArray → Int} (hf : Reads f) {l : List (Int × Int)} (h : P.okP l = true) (h0 : l ≠ []) : rdPs f (pairsS l) = l := by
  unfold rdPs
  rw [pairs_cut h h0, List.map_map]
  conv => rhs; rw [← List.map_id l]
  exact List.map_congr_left fun p hp => sideP_pair hf (okP_bd h p hp)
theorem two_back {l : List (Int × Int)} (h : P.okP l = true) (h0 : l ≠ []) : allTwo (pairsS l) := by
  intro t ht
  rw [pairs_cut h h0] at ht
  obtain ⟨p, _, rfl⟩ := List.mem_map.1 ht
  rw [pair_cut]; rfl
open Classical in
/-- The pairs that are written so. -/
noncomputable def parP (s : ByteArray) : List (Int × Int) := if h : ∃ l, P.okP l = true ∧ pairsS l = s then h.choose else []
open Classical in
noncomputable def parPB (s : ByteArray) : Bool := decide (∃ l, P.okP l = true ∧ pairsS l = s)
theorem pairsS_ok {l : List (Int × Int)} (h : pairsS l ≠ ⟨#[]⟩) : P.okP l = true := by
  cases e : P.okP l with
  | true => rfl
  | false => exact absurd (by unfold pairsS; rw [e]; rfl) h
theorem pairsS_nil_ne {l : List (Int × Int)} (h : P.okP l = true) (h0 : l ≠ []) : pairsS l ≠ ⟨#[110, 111, 110, 101]⟩ := by
  intro e
  have h1 := two_back h h0
  rw [e] at h1
  have h2 : P.cut ⟨#[110, 111, 110, 101]⟩ ⟨#[44]⟩ = [⟨#[110, 111, 110, 101]⟩] := P.cut_join (b0 := 44) (bs := []) (p := ⟨#[110, 111, 110, 101]⟩) (ps := []) rfl (by simp [P.tails]) (by decide)
  have h3 : P.cut ⟨#[110, 111, 110, 101]⟩ ⟨#[62]⟩ = [⟨#[110, 111, 110, 101]⟩] := P.cut_join (b0 := 62) (bs := []) (p := ⟨#[110, 111, 110, 101]⟩) (ps := []) rfl (by simp [P.tails]) (by decide)
  have := h1 ⟨#[110, 111, 110, 101]⟩ (by rw [h2]; simp)
  rw [h3] at this
  simp at this
theorem pairs_inj {l m : List (Int × Int)} (hl : P.okP l = true) (hm : P.okP m = true) (h : pairsS l = pairsS m) : l = m := by
  by_cases h0 : l = []
  · by_cases h1 : m = []
    · rw [h0, h1]
    · exfalso
      subst h0
      rw [pairsS_none hl] at h
      exact pairsS_nil_ne hm h1 h.symm
  · by_cases h1 : m = []
    · exfalso
      subst h1
      rw [pairsS_none hm] at h
      exact pairsS_nil_ne hl h0 h
    · rw [← rdPs_back reads_l2N hl h0, h, rdPs_back reads_l2N hm h1]
theorem parP_yes {l : List (Int × Int)} {s : ByteArray} (hx : P.okP l = true) (h : pairsS l = s) : parP s = l ∧ parPB s = true := by
  have he : ∃ x, P.okP x = true ∧ pairsS x = s := ⟨l, hx, h⟩
  unfold parP parPB
  rw [dif_pos he]
  refine ⟨pairs_inj he.choose_spec.1 hx (he.choose_spec.2.trans h.symm), ?_⟩
  simp only [decide_eq_true_eq]
  exact he
theorem parP_no {s : ByteArray} (h : ∀ l, P.okP l = true → pairsS l ≠ s) : parP s = [] ∧ parPB s = false := by
  have he : ¬ ∃ l, P.okP l = true ∧ pairsS l = s := fun ⟨x, h1, h2⟩ => h x h1 h2
  unfold parP parPB
  rw [dif_neg he]
  exact ⟨rfl, by simp only [decide_eq_false_iff_not]; exact he⟩
theorem okP_nil : P.okP [] = true := by
  refine P.okP_mk (P.inP_all fun i p hi _ => absurd hi (by simp)) (by simp) fun v hv => ?_
  cases e : P.abv [] v v with
  | false => rfl
  | true =>
    have hp := P.abv_iff.1 e
    exfalso
    have key : ∀ {a b : Int}, P.Path [] a b → False := by
      intro a b p
      induction p with
      | one hm => simp at hm
      | two _ _ h1 _ => exact h1
    exact key hp
/-- The text of no pairs. -/
theorem parP_none : parP ⟨#[110, 111, 110, 101]⟩ = [] ∧ parPB ⟨#[110, 111, 110, 101]⟩ = true := parP_yes okP_nil (pairsS_none okP_nil)
/-- A part without two sides: nothing is written so. -/
theorem parP_bad {s : ByteArray} (hs : s ≠ ⟨#[110, 111, 110, 101]⟩) {t : ByteArray} (ht : t ∈ P.cut s ⟨#[44]⟩) (h : (P.cut t ⟨#[62]⟩).length ≠ 2) : parP s = [] ∧ parPB s = false :=
  parP_no fun l hl e => by
    by_cases h0 : l = []
    · subst h0
      rw [pairsS_none hl] at e
      exact hs e.symm
    · exact h (two_back hl h0 t (by rw [e]; exact ht))
theorem parP_end {f : ByteArray → Int} (hf : Reads f) {s : ByteArray} (hs : s ≠ ⟨#[110, 111, 110, 101]⟩) : (s ≠ ⟨#[]⟩ → pairsS (rdPs f s) = s → parP s = rdPs f s ∧ parPB s = true) ∧ ((s = ⟨#[]⟩ ∨ pairsS (rdPs f s) ≠ s) → parP s = [] ∧ parPB s = false) := by
  refine ⟨fun h0 e => parP_yes (pairsS_ok (by rw [e]; exact h0)) e, fun h => parP_no fun l hl e => ?_⟩
  by_cases h0 : l = []
  · subst h0
    rw [pairsS_none hl] at e
    exact hs e.symm
  · rcases h with h | h
    · subst h
      have h1 := pairs_cut hl h0
      rw [e, cut_nil (by decide)] at h1
      have h2 := pair_cut (l.head h0)
      have h3 : l.map pairS = [⟨#[]⟩] := h1.symm
      have h4 : pairS (l.head h0) = ⟨#[]⟩ := by
        have : pairS (l.head h0) ∈ l.map pairS := List.mem_map.2 ⟨_, List.head_mem h0, rfl⟩
        rw [h3] at this
        simpa using this
      rw [h4, cut_nil (by decide)] at h2
      simp at h2
    · refine h ?_
      rw [← e, rdPs_back hf hl h0]
theorem parP_len (s : ByteArray) : (parP s).length ≤ 8 := by
  by_cases h : ∃ l, P.okP l = true ∧ pairsS l = s
  · obtain ⟨l, hl, he⟩ := h
    rw [(parP_yes hl he).1]
    exact P.okP_len hl
  · rw [(parP_no fun l hl e => h ⟨l, hl, e⟩).1]
    exact Nat.zero_le _
theorem parP_fit (s : ByteArray) : ∀ p ∈ parP s, Fit p.1 ∧ Fit p.2 := by
  by_cases h : ∃ l, P.okP l = true ∧ pairsS l = s
  · obtain ⟨l, hl, he⟩ := h
    rw [(parP_yes hl he).1]
    intro p hp
    have := okP_bd hl p hp
    unfold Fit; omega
  · rw [(parP_no fun l hl e => h ⟨l, hl, e⟩).1]
    simp
theorem rdPs_at {f : ByteArray → Int} {s : ByteArray} {k : Nat} {t : ByteArray} (h : (P.cut s ⟨#[44]⟩)[k]? = some t) : (rdPs f s)[k]? = some (sideP f t) := by
  unfold rdPs; rw [List.getElem?_map, h]; rfl
theorem rdPs_len (f : ByteArray → Int) (s : ByteArray) : (rdPs f s).length = (P.cut s ⟨#[44]⟩).length := by unfold rdPs; rw [List.length_map]
theorem rdPs_fit {f : ByteArray → Int} (hf : ∀ t, Fit (f t)) (s : ByteArray) : ∀ p ∈ rdPs f s, Fit p.1 ∧ Fit p.2 := by
  intro p hp
  unfold rdPs at hp
  obtain ⟨t, _, rfl⟩ := List.mem_map.1 hp
  exact ⟨hf _, hf _⟩
theorem prc_snoc2 {l : List (Int × Int)} {k : Nat} {p : Int × Int} (h : l[k]? = some p) : prc (l.take k) ++ [.int .i64 p.1, .int .i64 p.2] = prc (l.take (k + 1)) := by
  obtain ⟨hl, e⟩ := List.getElem?_eq_some_iff.1 h
  rw [List.take_succ_eq_append_getElem hl, e, prc_snoc]
/-- It returns pairs, their row the call's own, and a truth value. -/
def RetPB (w : World) (l : List (Int × Int)) (b : Bool) (e : Ending) (w' : World) : Prop := ∃ v, e = .returned (.tuple #[v, .bool b]) ∧ OwnPs w' w.heap.size w'.heap.size v l ∧ Below w.heap.size w w'
theorem ret_pb {b c : Bool} {v : Value} (h : b = c) : Ending.returned (.tuple #[v, .bool b]) = .returned (.tuple #[v, .bool c]) := by rw [h]
theorem ownPs_nil {w2 : World} {lo : Nat} (h : lo ≤ w2.heap.size) : OwnPs (w2.alloc (.cells #[] 82)) lo (w2.alloc (.cells #[] 82)).heap.size (.slice (some ⟨w2.heap.size, 0, none⟩) 0 0) [] :=
  ⟨own_mono (own_emptyS w2 82 2) h, own_und (own_emptyS w2 82 2)⟩
end Go.Proofs.Ytoinkpbngghloaa.Wk
