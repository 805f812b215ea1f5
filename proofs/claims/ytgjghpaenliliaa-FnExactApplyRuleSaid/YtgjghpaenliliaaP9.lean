/-
  Plain laws of the search for what a value leads down to. No program stands here.
  Conditions: none.
-/
import Derived.Test.YtgjghpaenliliaaP3
namespace Go.Proofs.Ytgjghpaenliliaa.P
set_option linter.unusedVariables false

theorem nodup_len {l : List Int} : ∀ {m : List Int}, l.Nodup → (∀ x ∈ l, x ∈ m) → l.length ≤ m.length := by
  induction l with
  | nil => intro m _ _; simp
  | cons a t ih =>
    intro m hn hs
    rw [List.nodup_cons] at hn
    have ha := hs a (by simp)
    have := ih (m := m.erase a) hn.2 (fun x hx => (List.mem_erase_of_ne (by rintro rfl; exact hn.1 hx)).2 (hs x (by simp [hx])))
    rw [List.length_erase_of_mem ha] at this
    have hp : 0 < m.length := List.length_pos_of_mem ha
    simp only [List.length_cons]; omega
/-- The state of the search: S is what was seen; the first i of it are done; of number i the first k pairs are done. -/
structure Bfs (l : List (Int × Int)) (a b : Int) (S : List Int) (i k : Nat) : Prop where
  start : a ∈ S
  nodup : S.Nodup
  path : ∀ s ∈ S, s = a ∨ Path l a s
  sub : ∀ s ∈ S, s = a ∨ ∃ p ∈ l, p.2 = s
  done : ∀ (j : Nat) (s : Int), j < i → S[j]? = some s → ∀ x, (s, x) ∈ l → x ≠ b ∧ x ∈ S
  part : ∀ s, S[i]? = some s → ∀ (j : Nat) (x : Int), j < k → l[j]? = some (s, x) → x ≠ b ∧ x ∈ S
theorem Bfs.init (l : List (Int × Int)) (a b : Int) : Bfs l a b [a] 0 0 :=
  ⟨by simp, by simp, by simp, by simp, fun j s hj => by omega, fun s _ j x hj => by omega⟩
theorem Bfs.len {l : List (Int × Int)} {a b : Int} {S : List Int} {i k : Nat} (h : Bfs l a b S i k) : S.length ≤ l.length + 1 := by
  have := nodup_len (m := a :: l.map (·.2)) h.nodup (fun x hx => by
    rcases h.sub x hx with rfl | ⟨p, hp, rfl⟩
    · simp
    · exact List.mem_cons_of_mem _ (List.mem_map.2 ⟨p, hp, rfl⟩))
  simpa using this
theorem Bfs.skip {l : List (Int × Int)} {a b : Int} {S : List Int} {i k : Nat} {p : Int × Int} {s : Int} (h : Bfs l a b S i k) (hp : l[k]? = some p) (hs : S[i]? = some s) (hne : p.1 ≠ s) : Bfs l a b S i (k + 1) := by
  refine ⟨h.start, h.nodup, h.path, h.sub, h.done, fun s' hs' j x hj hx => ?_⟩
  rw [hs] at hs'; injection hs' with hs'; subst hs'
  rcases Nat.lt_or_ge j k with hlt | hge
  · exact h.part s hs j x hlt hx
  · obtain rfl : j = k := by omega
    rw [hp] at hx; injection hx with hx; subst hx; exact absurd rfl hne
theorem Bfs.old {l : List (Int × Int)} {a b : Int} {S : List Int} {i k : Nat} {p : Int × Int} {s : Int} (h : Bfs l a b S i k) (hp : l[k]? = some p) (hs : S[i]? = some s) (hb : p.2 ≠ b) (hm : p.2 ∈ S) : Bfs l a b S i (k + 1) := by
  refine ⟨h.start, h.nodup, h.path, h.sub, h.done, fun s' hs' j x hj hx => ?_⟩
  rcases Nat.lt_or_ge j k with hlt | hge
  · exact h.part s' hs' j x hlt hx
  · obtain rfl : j = k := by omega
    rw [hp] at hx; injection hx with hx; subst hx; exact ⟨hb, hm⟩
theorem Bfs.reach {l : List (Int × Int)} {a b : Int} {S : List Int} {i k : Nat} {p : Int × Int} {s : Int} (h : Bfs l a b S i k) (hp : l[k]? = some p) (hs : S[i]? = some s) (he : p.1 = s) : Path l a p.2 := by
  have hm : (s, p.2) ∈ l := by rw [← he]; exact List.mem_of_getElem? hp
  rcases h.path s (List.mem_of_getElem? hs) with rfl | hq
  · exact .one hm
  · exact .two hq (.one hm)
theorem Bfs.new {l : List (Int × Int)} {a b : Int} {S : List Int} {i k : Nat} {p : Int × Int} {s : Int} (h : Bfs l a b S i k) (hp : l[k]? = some p) (hs : S[i]? = some s) (he : p.1 = s) (hb : p.2 ≠ b) (hm : p.2 ∉ S) : Bfs l a b (S ++ [p.2]) i (k + 1) := by
  have hlt : i < S.length := (List.getElem?_eq_some_iff.1 hs).1
  refine ⟨by simp [h.start], ?_, ?_, ?_, ?_, ?_⟩
  · rw [List.nodup_append]
    exact ⟨h.nodup, by simp, fun x hx y hy => by simp at hy; subst hy; rintro rfl; exact hm hx⟩
  · intro t ht
    rcases List.mem_append.1 ht with ht | ht
    · exact h.path t ht
    · simp at ht; subst ht; exact .inr (h.reach hp hs he)
  · intro t ht
    rcases List.mem_append.1 ht with ht | ht
    · exact h.sub t ht
    · simp at ht; subst ht; exact .inr ⟨p, List.mem_of_getElem? hp, rfl⟩
  · intro j t hj ht x hx
    rw [List.getElem?_append_left (by omega)] at ht
    obtain ⟨h1, h2⟩ := h.done j t hj ht x hx
    exact ⟨h1, by simp [h2]⟩
  · intro t ht j x hj hx
    rw [List.getElem?_append_left hlt] at ht
    rcases Nat.lt_or_ge j k with hlt' | hge
    · obtain ⟨h1, h2⟩ := h.part t ht j x hlt' hx
      exact ⟨h1, by simp [h2]⟩
    · obtain rfl : j = k := by omega
      rw [hp] at hx; injection hx with hx; subst hx; exact ⟨hb, by simp⟩
theorem Bfs.next {l : List (Int × Int)} {a b : Int} {S : List Int} {i k : Nat} (h : Bfs l a b S i k) (hk : l.length ≤ k) : Bfs l a b S (i + 1) 0 := by
  refine ⟨h.start, h.nodup, h.path, h.sub, fun j s hj hs x hx => ?_, fun s _ j x hj => by omega⟩
  rcases Nat.lt_or_ge j i with hlt | hge
  · exact h.done j s hlt hs x hx
  · obtain rfl : j = i := by omega
    obtain ⟨q, hq⟩ := List.getElem?_of_mem hx
    exact h.part s hs q x (by have := (List.getElem?_eq_some_iff.1 hq).1; omega) hq
theorem Bfs.yes {l : List (Int × Int)} {a b : Int} {S : List Int} {i k : Nat} {p : Int × Int} {s : Int} (h : Bfs l a b S i k) (hp : l[k]? = some p) (hs : S[i]? = some s) (he : p.1 = s) (hb : p.2 = b) : abv l a b = true :=
  abv_iff.2 (hb ▸ h.reach hp hs he)
theorem Bfs.no {l : List (Int × Int)} {a b : Int} {S : List Int} {i k : Nat} (h : Bfs l a b S i k) (hi : S.length ≤ i) : abv l a b = false := by
  have all : ∀ s ∈ S, ∀ x, (s, x) ∈ l → x ≠ b ∧ x ∈ S := by
    intro s hs x hx
    obtain ⟨j, hj⟩ := List.getElem?_of_mem hs
    exact h.done j s (by have := (List.getElem?_eq_some_iff.1 hj).1; omega) hj x hx
  have key : ∀ x y, Path l x y → x ∈ S → y ≠ b ∧ y ∈ S := by
    intro x y hp
    induction hp with
    | one hm => intro hx; exact all _ hx _ hm
    | two _ _ h1 h2 => intro hx; exact h2 (h1 hx).2
  cases e : abv l a b with
  | false => rfl
  | true => exact absurd rfl (key a b (abv_iff.1 e) h.start).1
theorem inP_no {l : List (Int × Int)} {k : Nat} {p : Int × Int} (hp : l[k]? = some p) (h : inR p.1 0 9 = false ∨ inR p.2 0 9 = false) : inP l = false := by
  unfold inP
  rw [List.all_eq_false]
  refine ⟨p, List.mem_of_getElem? hp, ?_⟩
  rcases h with h | h <;> simp [h]
theorem inP_all {l : List (Int × Int)} (h : ∀ i p, i < l.length → l[i]? = some p → (inR p.1 0 9 && inR p.2 0 9) = true) : inP l = true := by
  unfold inP
  rw [List.all_eq_true]
  intro p hp
  obtain ⟨i, hi⟩ := List.getElem?_of_mem hp
  exact h i p (List.getElem?_eq_some_iff.1 hi).1 hi
theorem okP_bad1 {l : List (Int × Int)} (h : inP l = false) : okP l = false := by unfold okP; rw [h]; rfl
theorem okP_bad2 {l : List (Int × Int)} (h : 8 < l.length) : okP l = false := by
  unfold okP
  have : decide (l.length ≤ 8) = false := by simp; omega
  rw [this]; simp
theorem okP_bad3 {l : List (Int × Int)} {v : Nat} (hv : v < 10) (h : abv l v v = true) : okP l = false := by
  unfold okP
  have : ((List.range 10).all fun v => !abv l v v) = false := by
    rw [List.all_eq_false]
    exact ⟨v, by simpa using hv, by simp [h]⟩
  rw [this]; simp
theorem okP_mk {l : List (Int × Int)} (h1 : inP l = true) (h2 : l.length ≤ 8) (h3 : ∀ v : Nat, v < 10 → abv l v v = false) : okP l = true := by
  unfold okP
  simp only [Bool.and_eq_true, decide_eq_true_eq]
  refine ⟨⟨h1, h2⟩, List.all_eq_true.2 fun v hv => ?_⟩
  rw [h3 v (by simpa using hv)]; rfl
end Go.Proofs.Ytgjghpaenliliaa.P
