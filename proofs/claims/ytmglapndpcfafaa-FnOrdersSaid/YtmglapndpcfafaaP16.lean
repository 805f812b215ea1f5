/-
  Plain laws of the order in which values are laid out: always the first value with nothing above it that is not laid yet. No program stands here.
  Conditions: none.
-/
import Derived.Test.YtmglapndpcfafaaP11
namespace Go.Proofs.Ytmglapndpcfafaa.P
set_option linter.unusedVariables false

/-- v is not in S, and what the first k pairs have above it is. -/
def rdyK (l : List (Int × Int)) (S : List Int) (v : Int) (k : Nat) : Bool := !decide (v ∈ S) && (l.take k).all fun p => decide (p.2 ≠ v) || decide (p.1 ∈ S)
def rdy (l : List (Int × Int)) (S : List Int) (v : Int) : Bool := rdyK l S v l.length
theorem rdyK_zero (l : List (Int × Int)) (S : List Int) (v : Int) : rdyK l S v 0 = !decide (v ∈ S) := by simp [rdyK]
theorem rdyK_succ {l : List (Int × Int)} {k : Nat} {p : Int × Int} (hp : l[k]? = some p) (S : List Int) (v : Int) : rdyK l S v (k + 1) = (rdyK l S v k && (decide (p.2 ≠ v) || decide (p.1 ∈ S))) := by
  obtain ⟨hl, e⟩ := List.getElem?_eq_some_iff.1 hp
  unfold rdyK
  rw [List.take_succ_eq_append_getElem hl, e, List.all_append]
  simp [Bool.and_assoc]
/-- v is the first ready value. -/
def First (l : List (Int × Int)) (S : List Int) (v : Nat) : Prop := rdy l S v = true ∧ ∀ u : Nat, u < v → rdy l S u = false
def nextV (l : List (Int × Int)) (S : List Int) : Nat := ((List.range 10).find? fun v => rdy l S (v : Nat)).getD 0
theorem next_of {l : List (Int × Int)} {S : List Int} {v : Nat} (h : First l S v) (hv : v < 10) : nextV l S = v := by
  unfold nextV
  have : (List.range 10).find? (fun v => rdy l S (v : Nat)) = some v := by
    rw [List.find?_range_eq_some]
    exact ⟨h.1, by simpa using hv, fun j hj => by rw [h.2 j hj]; rfl⟩
  rw [this]; rfl
/-- The first k values. -/
def lin (l : List (Int × Int)) : Nat → List Int
  | 0 => []
  | k + 1 => lin l k ++ [((nextV l (lin l k) : Nat) : Int)]
noncomputable def linR (l : List (Int × Int)) : List Int := if okP l then lin l 10 else []
theorem lin_len (l : List (Int × Int)) : ∀ k, (lin l k).length = k
  | 0 => rfl
  | k + 1 => by rw [lin, List.length_append, lin_len l k]; rfl
theorem pigeon : ∀ (n : Nat) (S : List Int), S.length < n → ∃ v : Nat, v < n ∧ ((v : Nat) : Int) ∉ S
  | 0, _, h => absurd h (by omega)
  | n + 1, S, h => by
    by_cases hm : (n : Int) ∈ S
    · obtain ⟨v, hv, hvS⟩ := pigeon n (S.erase n) (by rw [List.length_erase_of_mem hm]; have := List.length_pos_of_mem hm; omega)
      exact ⟨v, by omega, fun hh => hvS ((List.mem_erase_of_ne (by omega)).2 hh)⟩
    · exact ⟨n, by omega, hm⟩
/-- Of fewer than ten values that are laid, some other one is ready. -/
theorem some_ready {l : List (Int × Int)} (h : okP l = true) {S : List Int} (hS : S.length < 10) : ∃ v : Nat, v < 10 ∧ rdy l S v = true := by
  have hout : ∃ v : Nat, v < 10 ∧ ((v : Nat) : Int) ∉ S := by
    exact pigeon 10 S hS
  have key : ∀ n : Nat, ∀ v : Nat, v < 10 → ((v : Nat) : Int) ∉ S → rnk l v ≤ n → ∃ u : Nat, u < 10 ∧ rdy l S u = true := by
    intro n
    induction n with
    | zero =>
      intro v hv hvS hr
      refine ⟨v, hv, ?_⟩
      unfold rdy rdyK
      rw [List.take_length]
      simp only [Bool.and_eq_true, Bool.not_eq_true', decide_eq_false_iff_not, List.all_eq_true, Bool.or_eq_true, decide_eq_true_eq]
      refine ⟨hvS, fun p hp => ?_⟩
      by_cases e : p.2 = v
      · have := rnk_lt h hp
        rw [e] at this; omega
      · exact .inl e
    | succ n ih =>
      intro v hv hvS hr
      by_cases hex : ∃ p ∈ l, p.2 = (v : Int) ∧ p.1 ∉ S
      · obtain ⟨p, hp, e, hpS⟩ := hex
        have hb := (inP_mem (okP_in h) hp).1
        have hlt := rnk_lt h hp
        rw [e] at hlt
        refine ih p.1.toNat (by omega) ?_ ?_
        · rw [show ((p.1.toNat : Nat) : Int) = p.1 by omega]; exact hpS
        · rw [show ((p.1.toNat : Nat) : Int) = p.1 by omega]; omega
      · refine ⟨v, hv, ?_⟩
        unfold rdy rdyK
        rw [List.take_length]
        simp only [Bool.and_eq_true, Bool.not_eq_true', decide_eq_false_iff_not, List.all_eq_true, Bool.or_eq_true, decide_eq_true_eq]
        refine ⟨hvS, fun p hp => ?_⟩
        by_cases e : p.2 = v
        · exact .inr (Classical.byContradiction fun hn => hex ⟨p, hp, e, hn⟩)
        · exact .inl e
  obtain ⟨v, hv, hvS⟩ := hout
  exact key _ v hv hvS (Nat.le_refl _)
theorem none_ready {l : List (Int × Int)} (h : okP l = true) {S : List Int} (hS : S.length < 10) (hno : ∀ u : Nat, u < 10 → rdy l S u = false) : False := by
  obtain ⟨v, hv, hr⟩ := some_ready h hS
  rw [hno v hv] at hr
  cases hr
theorem next_lt {l : List (Int × Int)} (S : List Int) : nextV l S < 10 := by
  unfold nextV
  cases e : (List.range 10).find? (fun v => rdy l S (v : Nat)) with
  | none => decide
  | some v => have := List.mem_of_find?_eq_some e; simpa using this
theorem lin_bd {l : List (Int × Int)} {x : Int} : ∀ {k : Nat}, x ∈ lin l k → 0 ≤ x ∧ x < 10
  | 0, h => by simp [lin] at h
  | k + 1, h => by
    rw [lin] at h
    rcases List.mem_append.1 h with h | h
    · exact lin_bd h
    · simp at h
      subst h
      have := next_lt (l := l) (lin l k)
      omega
theorem linR_len (l : List (Int × Int)) : (linR l).length ≤ 10 := by
  unfold linR
  split
  · rw [lin_len]; omega
  · simp
theorem linR_fit {l : List (Int × Int)} {x : Int} (h : x ∈ linR l) : 0 ≤ x ∧ x < 10 := by
  unfold linR at h
  split at h
  · exact lin_bd h
  · simp at h
theorem lin_step {l : List (Int × Int)} {k v : Nat} (h : First l (lin l k) v) (hv : v < 10) : lin l (k + 1) = lin l k ++ [(v : Int)] := by rw [lin, next_of h hv]
theorem first_of {l : List (Int × Int)} {S : List Int} {v n : Nat} (h1 : rdyK l S v n = true) (hn : l.length = n) (h2 : ∀ u : Nat, u < v → rdy l S u = false) : First l S v := ⟨by unfold rdy; rw [hn]; exact h1, h2⟩
theorem later_of {l : List (Int × Int)} {S : List Int} {v n : Nat} (h1 : rdyK l S v n = false) (hn : l.length = n) (h2 : ∀ u : Nat, u < v → rdy l S u = false) : ∀ u : Nat, u < v + 1 → rdy l S u = false := by
  intro u hu
  by_cases e : u = v
  · subst e; unfold rdy; rw [hn]; exact h1
  · exact h2 u (by omega)
end Go.Proofs.Ytmglapndpcfafaa.P
