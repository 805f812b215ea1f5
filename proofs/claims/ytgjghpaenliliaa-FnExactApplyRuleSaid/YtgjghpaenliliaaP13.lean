/-
  Plain laws of expressions: the depth of the stack behind some nodes. No program stands here.
  Conditions: none.
-/
import Derived.Test.YtgjghpaenliliaaP12
namespace Go.Proofs.Ytgjghpaenliliaa.P
open Go.Proofs.Ytgjghpaenliliaa.M

deriving instance DecidableEq for Wi
deriving instance DecidableEq for Nd
theorem noW_eq (w : Wi) : noW w = decide (w = ⟨0, 0, 0, [], []⟩) := by
  obtain ⟨a, b, c, d, e⟩ := w
  unfold noW
  simp
theorem depth_app (l m : List Nd) : ∀ d, depth (l ++ m) d = (depth l d).bind fun d' => depth m d' := by
  induction l with
  | nil => intro d; rfl
  | cons n t ih =>
    intro d
    simp only [List.cons_append, depth]
    split
    · exact ih _
    · rfl
/-- The stack behind the first k nodes is d deep. -/
def Dep (l : List Nd) (k d : Nat) : Prop := depth (l.take k) 0 = some d
theorem dep_zero (l : List Nd) : Dep l 0 0 := rfl
theorem split_at {α : Type} {l : List α} {k : Nat} {x : α} (hx : l[k]? = some x) : l = l.take k ++ x :: l.drop (k + 1) := by
  obtain ⟨hl, e⟩ := List.getElem?_eq_some_iff.1 hx
  have h1 := (List.take_append_drop k l).symm
  rw [List.drop_eq_getElem_cons hl, e] at h1
  exact h1
theorem dep_step {l : List Nd} {k d : Nat} {x : Nd} (h : Dep l k d) (hx : l[k]? = some x) (h1 : okN x = true) (h2 : opnds x.op ≤ d) : Dep l (k + 1) (d + 1 - opnds x.op) := by
  obtain ⟨hl, e⟩ := List.getElem?_eq_some_iff.1 hx
  unfold Dep at *
  rw [List.take_succ_eq_append_getElem hl, e, depth_app, h]
  simp [depth, h1, h2]
theorem dep_bad {l : List Nd} {k d : Nat} {x : Nd} (h : Dep l k d) (hx : l[k]? = some x) (h1 : okN x = false ∨ d < opnds x.op) : okE l = false := by
  unfold Dep at h
  have e : depth l 0 = none := by
    rw [split_at hx, depth_app, h]
    simp only [Option.bind_some, depth]
    rcases h1 with h1 | h1
    · rw [h1]; rfl
    · rw [if_neg]
      simp; intro _; omega
  unfold okE
  rw [e]; rfl
theorem dep_end {l : List Nd} {k d n : Nat} (h : Dep l k d) (hn : l.length = n) (hk : k = n) : okE l = (decide ((d : Int) = 1) && decide ((n : Int) ≤ 9)) := by
  unfold Dep at h
  rw [List.take_of_length_le (by omega)] at h
  unfold okE
  rw [h, hn]
  congr 1
  · apply decide_eq_decide.2
    simp; omega
  · apply decide_eq_decide.2; omega
theorem dep_le {l : List Nd} : ∀ {k d : Nat}, Dep l k d → d ≤ k := by
  have key : ∀ (m : List Nd) (a b : Nat), depth m a = some b → b ≤ a + m.length := by
    intro m
    induction m with
    | nil => intro a b h; simp [depth] at h; simp; omega
    | cons n t ih =>
      intro a b h
      simp only [depth] at h
      split at h
      · have := ih _ _ h; simp; omega
      · cases h
  intro k d h
  have h2 := key _ _ _ h
  have := List.length_take_le k l
  omega
theorem opnds_0 : opnds 0 = 0 := rfl
theorem opnds_1 : opnds 1 = 2 := rfl
theorem opnds_2 : opnds 2 = 2 := rfl
theorem opnds_3 : opnds 3 = 1 := rfl
theorem opnds_4 : opnds 4 = 2 := rfl
theorem okN_op {x : Nd} (h : inR x.op 0 4 = false) : okN x = false := by unfold okN; rw [h]; rfl
theorem okN_0 {x : Nd} (h : x.op = 0) : okN x = okW x.wish := by unfold okN; rw [h, if_pos rfl]; rfl
theorem okN_1 {x : Nd} (h : inR x.op 0 4 = true) (h' : x.op ≠ 0) : okN x = noW x.wish := by unfold okN; rw [h, if_neg h']; rfl
theorem okE_len {l : List Nd} (h : okE l = true) : l.length ≤ 9 ∧ depth l 0 = some 1 := by
  unfold okE at h
  simp only [Bool.and_eq_true, decide_eq_true_eq] at h
  exact ⟨h.2, h.1⟩
/-- Of a valid expression, each node is valid, and finds its operands. -/
theorem okE_at {l : List Nd} (h : okE l = true) {k : Nat} {x : Nd} (hx : l[k]? = some x) : okN x = true ∧ ∃ d, Dep l k d ∧ opnds x.op ≤ d := by
  obtain ⟨_, hd⟩ := okE_len h
  rw [split_at hx, depth_app] at hd
  cases hp : depth (l.take k) 0 with
  | none => rw [hp] at hd; cases hd
  | some d =>
    rw [hp] at hd
    simp only [Option.bind_some, depth] at hd
    split at hd
    · rename_i hc
      simp only [Bool.and_eq_true, decide_eq_true_eq] at hc
      exact ⟨hc.1, d, hp, hc.2⟩
    · cases hd
end Go.Proofs.Ytgjghpaenliliaa.P
