/-
  Plain laws of expressions: the stack behind some nodes. No program stands here.
  Conditions: none.
-/
import Derived.Test.YtgjghpaenliliaaP13
namespace Go.Proofs.Ytgjghpaenliliaa.P
open Go.Proofs.Ytgjghpaenliliaa.M
set_option linter.unusedVariables false

def negV (a : Int) : Int := if a ≠ 2 then -a else a
/-- What a node does to the stack; the top stands last. -/
noncomputable def stepE (x y : It) (n : Nd) (s : List Int) : List Int :=
  if n.op = 0 then s ++ [cmpIs n.wish x y]
  else if n.op = 3 then s.set (s.length - 1) (negV (s.getD (s.length - 1) 0))
  else s.take (s.length - 2) ++ [comb n.op (s.getD (s.length - 2) 0) (s.getD (s.length - 1) 0)]
noncomputable def runE (x y : It) (l : List Nd) : Nat → List Int
  | 0 => []
  | k + 1 => match l[k]? with
    | some n => stepE x y n (runE x y l k)
    | none => runE x y l k
theorem runE_succ {x y : It} {l : List Nd} {k : Nat} {n : Nd} (h : l[k]? = some n) : runE x y l (k + 1) = stepE x y n (runE x y l k) := by rw [runE, h]
/-- What a valid expression answers on valid items. -/
noncomputable def evE (l : List Nd) (x y : It) : Int := (runE x y l l.length).getD 0 0
noncomputable def cmpE (l : List Nd) (x y : It) : Int := if okE l && okI x && okI y then evE l x y else 2
def InV (s : List Int) : Prop := ∀ a ∈ s, -1 ≤ a ∧ a ≤ 2
theorem cmpV_bd (w : Wi) (a b : Int) : -1 ≤ cmpV w a b ∧ cmpV w a b ≤ 2 := by
  unfold cmpV
  repeat' split
  all_goals omega
theorem cmpIs_bd (w : Wi) (x y : It) : -1 ≤ cmpIs w x y ∧ cmpIs w x y ≤ 2 := by
  unfold cmpIs
  split
  · exact cmpV_bd _ _ _
  · omega
theorem comb_bd (op : Int) {a b : Int} (ha : -1 ≤ a ∧ a ≤ 2) (hb : -1 ≤ b ∧ b ≤ 2) : -1 ≤ comb op a b ∧ comb op a b ≤ 2 := by
  unfold comb
  repeat' split
  all_goals omega
theorem negV_bd {a : Int} (ha : -1 ≤ a ∧ a ≤ 2) : -1 ≤ negV a ∧ negV a ≤ 2 := by
  unfold negV
  split <;> omega
theorem InV.at_ {s : List Int} (h : InV s) (i : Nat) : -1 ≤ s.getD i 0 ∧ s.getD i 0 ≤ 2 := by
  simp only [List.getD]
  cases e : s[i]? with
  | none => simp
  | some a => exact h a (List.mem_of_getElem? e)
theorem InV.step {s : List Int} (h : InV s) (x y : It) (n : Nd) : InV (stepE x y n s) := by
  intro a ha
  unfold stepE at ha
  split at ha
  · rcases List.mem_append.1 ha with ha | ha
    · exact h a ha
    · simp at ha; subst ha; exact cmpIs_bd _ _ _
  · split at ha
    · rcases List.mem_or_eq_of_mem_set ha with ha | ha
      · exact h a ha
      · subst ha; exact negV_bd (h.at_ _)
    · rcases List.mem_append.1 ha with ha | ha
      · exact h a (List.mem_of_mem_take ha)
      · simp at ha; subst ha; exact comb_bd _ (h.at_ _) (h.at_ _)
theorem InV.run (x y : It) (l : List Nd) : ∀ k, InV (runE x y l k)
  | 0 => by intro a ha; simp [runE] at ha
  | k + 1 => by
    rw [runE]
    split
    · exact (InV.run x y l k).step _ _ _
    · exact InV.run x y l k
theorem dep_unique {l : List Nd} {k d d' : Nat} (h : Dep l k d) (h' : Dep l k d') : d = d' := by
  unfold Dep at h h'
  rw [h] at h'
  injection h'
theorem stepE_len {x y : It} {n : Nd} {s : List Int} (h : opnds n.op ≤ s.length) (hop : 0 ≤ n.op ∧ n.op ≤ 4) : (stepE x y n s).length = s.length + 1 - opnds n.op := by
  unfold stepE opnds at *
  by_cases h0 : n.op = 0
  · simp [h0]
  · by_cases h3 : n.op = 3
    · simp [h3]
    · simp only [h0, h3, if_false] at h ⊢
      rw [List.length_append, List.length_take, List.length_singleton]; omega
theorem runE_len {x y : It} {l : List Nd} : ∀ {k d : Nat}, k ≤ l.length → Dep l k d → okE l = true → (runE x y l k).length = d
  | 0, d, _, h, _ => by
    have := dep_unique h (dep_zero l)
    subst this; rfl
  | k + 1, d, hk, h, hE => by
    have hx : l[k]? = some l[k] := List.getElem?_eq_getElem (by omega)
    obtain ⟨hok, d', hd', ho⟩ := okE_at hE hx
    have hop : 0 ≤ l[k].op ∧ l[k].op ≤ 4 := by
      unfold okN at hok
      rw [Bool.and_eq_true] at hok
      exact inR_t hok.1
    have ih := runE_len (x := x) (y := y) (by omega : k ≤ l.length) hd' hE
    have h2 := dep_unique h (dep_step hd' hx hok ho)
    rw [runE_succ hx, stepE_len (by omega) hop, ih, h2]
theorem stepE_0 {x y : It} {n : Nd} (h : n.op = 0) (s : List Int) : stepE x y n s = s ++ [cmpIs n.wish x y] := by unfold stepE; rw [if_pos h]
theorem stepE_3 {x y : It} {n : Nd} (h : n.op = 3) (s : List Int) : stepE x y n s = s.set (s.length - 1) (negV (s.getD (s.length - 1) 0)) := by unfold stepE; rw [if_neg (by omega), if_pos h]
theorem stepE_2 {x y : It} {n : Nd} (h : n.op ≠ 0) (h' : n.op ≠ 3) (s : List Int) : stepE x y n s = s.take (s.length - 2) ++ [comb n.op (s.getD (s.length - 2) 0) (s.getD (s.length - 1) 0)] := by unfold stepE; rw [if_neg h, if_neg h']
theorem set_take (s : List Int) (v : Int) (h : 2 ≤ s.length) : (s.set (s.length - 2) v).take (s.length - 1) = s.take (s.length - 2) ++ [v] := by
  apply List.ext_getElem?
  intro i
  rw [List.getElem?_take]
  by_cases h1 : i < s.length - 1
  · rw [if_pos h1, List.getElem?_set]
    by_cases h2 : s.length - 2 = i
    · subst h2
      rw [if_pos rfl, if_pos (by omega), List.getElem?_append_right (by rw [List.length_take]; omega), List.length_take]
      rw [show s.length - 2 - min (s.length - 2) s.length = 0 by omega]; rfl
    · rw [if_neg h2, List.getElem?_append_left (by rw [List.length_take]; omega), List.getElem?_take, if_pos (by omega)]
  · rw [if_neg h1, List.getElem?_eq_none]
    rw [List.length_append, List.length_take, List.length_singleton]; omega
end Go.Proofs.Ytgjghpaenliliaa.P
