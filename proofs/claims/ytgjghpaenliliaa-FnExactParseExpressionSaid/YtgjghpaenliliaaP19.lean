/-
  Plain functions on texts: a text cut at another one, and what joining and cutting have to do with each other. No program stands here.
  Conditions: none.
-/
import Derived.Test.YtgjghpaenliliaaP8
namespace Go.Proofs.Ytgjghpaenliliaa.P

/-- The parts of a text from a place on, the last part begun at fr. -/
def cutR (s b : ByteArray) (i fr : Nat) : List ByteArray :=
  if h : i + b.size ≤ s.size ∧ 0 < b.size then
    (if s.extract i (i + b.size) = b then s.extract fr i :: cutR s b (i + b.size) (i + b.size) else cutR s b (i + 1) fr)
  else [s.extract fr s.size]
termination_by s.size - i
decreasing_by all_goals omega
def cut (s b : ByteArray) : List ByteArray := cutR s b 0 0
theorem cutR_hit {s b : ByteArray} {i fr : Nat} (h : i + b.size ≤ s.size) (h0 : 0 < b.size) (e : s.extract i (i + b.size) = b) : cutR s b i fr = s.extract fr i :: cutR s b (i + b.size) (i + b.size) := by
  rw [cutR, dif_pos ⟨h, h0⟩, if_pos e]
theorem cutR_miss {s b : ByteArray} {i fr : Nat} (h : i + b.size ≤ s.size) (h0 : 0 < b.size) (e : s.extract i (i + b.size) ≠ b) : cutR s b i fr = cutR s b (i + 1) fr := by
  rw [cutR, dif_pos ⟨h, h0⟩, if_neg e]
theorem cutR_end {s b : ByteArray} {i fr : Nat} (h : s.size < i + b.size) : cutR s b i fr = [s.extract fr s.size] := by
  rw [cutR, dif_neg (by omega)]
theorem cutR_size {s b : ByteArray} : ∀ (n i fr : Nat), s.size - i ≤ n → ∀ t ∈ cutR s b i fr, t.size ≤ s.size
  | n, i, fr, hn, t, ht => by
    by_cases h : i + b.size ≤ s.size ∧ 0 < b.size
    · by_cases e : s.extract i (i + b.size) = b
      · rw [cutR_hit h.1 h.2 e] at ht
        rcases List.mem_cons.1 ht with rfl | ht
        · rw [ByteArray.size_extract]; omega
        · cases n with
          | zero => omega
          | succ n => exact cutR_size n _ _ (by omega) t ht
      · rw [cutR_miss h.1 h.2 e] at ht
        cases n with
        | zero => omega
        | succ n => exact cutR_size n _ _ (by omega) t ht
    · rw [cutR, dif_neg h] at ht
      simp at ht; subst ht
      rw [ByteArray.size_extract]; omega
theorem cutR_len {s b : ByteArray} : ∀ (n i fr : Nat), s.size - i ≤ n → (cutR s b i fr).length ≤ s.size - i + 1
  | n, i, fr, hn => by
    by_cases h : i + b.size ≤ s.size ∧ 0 < b.size
    · cases n with
      | zero => omega
      | succ n =>
        by_cases e : s.extract i (i + b.size) = b
        · rw [cutR_hit h.1 h.2 e, List.length_cons]
          have := cutR_len (s := s) (b := b) n (i + b.size) (i + b.size) (by omega)
          omega
        · rw [cutR_miss h.1 h.2 e]
          have := cutR_len (s := s) (b := b) n (i + 1) fr (by omega)
          omega
    · rw [cutR, dif_neg h]; simp
theorem cutR_ne {s b : ByteArray} : ∀ (n i fr : Nat), s.size - i ≤ n → cutR s b i fr ≠ []
  | n, i, fr, hn => by
    by_cases h : i + b.size ≤ s.size ∧ 0 < b.size
    · cases n with
      | zero => omega
      | succ n =>
        by_cases e : s.extract i (i + b.size) = b
        · rw [cutR_hit h.1 h.2 e]; simp
        · rw [cutR_miss h.1 h.2 e]
          exact cutR_ne n (i + 1) fr (by omega)
    · rw [cutR, dif_neg h]; simp
theorem cut_ne (s b : ByteArray) : cut s b ≠ [] := cutR_ne _ 0 0 (Nat.le_refl _)
theorem cut_pos (s b : ByteArray) : 0 < (cut s b).length := List.length_pos_iff.2 (cut_ne s b)
theorem cut_size (s b : ByteArray) : ∀ t ∈ cut s b, t.size ≤ s.size := cutR_size _ 0 0 (Nat.le_refl _)
theorem cut_len (s b : ByteArray) : (cut s b).length ≤ s.size + 1 := cutR_len _ 0 0 (Nat.le_refl _)

/-! ### what was joined is cut again -/
theorem ba_ext {a b : ByteArray} (h : a.data.toList = b.data.toList) : a = b := by
  cases a; cases b
  simp only [ByteArray.mk.injEq]
  exact Array.ext' h
theorem ex_list (s : ByteArray) (i j : Nat) : (s.extract i j).data.toList = (s.data.toList.drop i).take (j - i) := by
  rw [ByteArray.data_extract, Array.toList_extract]
theorem size_list (s : ByteArray) : s.size = s.data.toList.length := rfl
theorem ex_mid {s : ByteArray} {a b c : List UInt8} (h : s.data.toList = a ++ (b ++ c)) {i j : Nat} (hi : i = a.length) (hj : j = a.length + b.length) : (s.extract i j).data.toList = b := by
  subst hi hj
  rw [ex_list, h, List.drop_left, show a.length + b.length - a.length = b.length by omega, List.take_left]
/-- Parts, each behind the text that stands between them. -/
def tails (b : List UInt8) (ps : List (List UInt8)) : List UInt8 := ps.flatMap fun q => b ++ q
theorem cutR_join (s b : ByteArray) (b0 : UInt8) (bs : List UInt8) (hb : b.data.toList = b0 :: bs) :
    ∀ (ps : List (List UInt8)) (p' pre cur : List UInt8), s.data.toList = pre ++ (cur ++ (p' ++ tails (b0 :: bs) ps)) → (∀ x ∈ p', x ≠ b0) → (∀ q ∈ ps, ∀ x ∈ q, x ≠ b0) →
      (cutR s b (pre.length + cur.length) pre.length).map (fun t => t.data.toList) = (cur ++ p') :: ps := by
  have hbs : b.size = bs.length + 1 := by rw [size_list, hb]; rfl
  intro ps
  induction ps with
  | nil =>
    intro p'
    induction p' with
    | nil =>
      intro pre cur hs _ _
      have hsz : s.size = pre.length + cur.length := by rw [size_list, hs]; simp [tails]
      rw [cutR_end (by omega)]
      simp only [List.map_cons, List.map_nil, List.append_nil]
      rw [ex_mid (a := pre) (b := cur) (c := []) (by simpa [tails] using hs) rfl hsz]
    | cons c t ih =>
      intro pre cur hs h1 h2
      have hsz : s.size = pre.length + (cur.length + (t.length + 1)) := by rw [size_list, hs]; simp [tails]
      by_cases hend : pre.length + cur.length + b.size ≤ s.size
      · rw [cutR_miss hend (by omega) (fun e => by
          have e2 := congrArg (fun t => t.data.toList) e
          simp only [ex_list, hb, hs] at e2
          rw [← List.append_assoc, ← List.length_append, List.drop_left, show (pre ++ cur).length + b.size - (pre ++ cur).length = bs.length + 1 by omega] at e2
          simp at e2
          exact h1 c (by simp) e2.1)]
        have := ih pre (cur ++ [c]) (by rw [hs]; simp) (fun x hx => h1 x (by simp [hx])) h2
        rw [List.length_append] at this
        rw [Nat.add_assoc, show cur.length + 1 = cur.length + [c].length from rfl, this]
        simp
      · rw [cutR_end (by omega)]
        simp only [List.map_cons, List.map_nil]
        rw [ex_mid (a := pre) (b := cur ++ c :: t) (c := []) (by simpa [tails] using hs) rfl (by simp; omega)]
  | cons q ps ihp =>
    intro p'
    induction p' with
    | nil =>
      intro pre cur hs h1 h2
      have hs2 : s.data.toList = (pre ++ cur) ++ ((b0 :: bs) ++ (q ++ tails (b0 :: bs) ps)) := by rw [hs]; simp [tails]
      have hsz : s.size = pre.length + cur.length + ((bs.length + 1) + (q.length + (tails (b0 :: bs) ps).length)) := by rw [size_list, hs2]; simp; omega
      have e : s.extract (pre.length + cur.length) (pre.length + cur.length + b.size) = b := by
        apply ba_ext
        rw [hb]
        exact ex_mid hs2 (by simp) (by simp; omega)
      rw [cutR_hit (by omega) (by omega) e, List.map_cons]
      rw [ex_mid (a := pre) (b := cur) (c := tails (b0 :: bs) (q :: ps)) (by simpa using hs) rfl rfl]
      have := ihp q (pre ++ (cur ++ (b0 :: bs))) [] (by rw [hs2]; simp) (h2 q (by simp)) (fun r hr => h2 r (by simp [hr]))
      have e2 : (pre ++ (cur ++ (b0 :: bs))).length = pre.length + cur.length + b.size := by simp; omega
      rw [e2] at this
      simp only [List.length_nil, Nat.add_zero, List.nil_append] at this
      rw [this]
      simp
    | cons c t ih =>
      intro pre cur hs h1 h2
      have hsz : s.size = pre.length + (cur.length + ((t.length + 1) + ((bs.length + 1) + q.length + (tails (b0 :: bs) ps).length))) := by rw [size_list, hs]; simp [tails]; omega
      have hend : pre.length + cur.length + b.size ≤ s.size := by omega
      rw [cutR_miss hend (by omega) (fun e => by
        have e2 := congrArg (fun t => t.data.toList) e
        simp only [ex_list, hb, hs] at e2
        rw [← List.append_assoc, ← List.length_append, List.drop_left, show (pre ++ cur).length + b.size - (pre ++ cur).length = bs.length + 1 by omega] at e2
        simp at e2
        exact h1 c (by simp) e2.1)]
      have := ih pre (cur ++ [c]) (by rw [hs]; simp) (fun x hx => h1 x (by simp [hx])) h2
      rw [List.length_append] at this
      rw [Nat.add_assoc, show cur.length + 1 = cur.length + [c].length from rfl, this]
      simp
theorem cut_join {s b : ByteArray} {b0 : UInt8} {bs : List UInt8} {p : ByteArray} {ps : List ByteArray} (hb : b.data.toList = b0 :: bs)
    (hs : s.data.toList = p.data.toList ++ tails (b0 :: bs) (ps.map fun t => t.data.toList)) (hp : ∀ q ∈ p :: ps, ∀ x ∈ q.data.toList, x ≠ b0) : cut s b = p :: ps := by
  have := cutR_join s b b0 bs hb (ps.map fun t => t.data.toList) p.data.toList [] [] (by simpa using hs) (hp p (by simp)) (fun q hq => by
    obtain ⟨t, ht, rfl⟩ := List.mem_map.1 hq
    exact hp t (by simp [ht]))
  simp only [List.length_nil, Nat.add_zero, List.nil_append] at this
  rw [show p.data.toList :: ps.map (fun t => t.data.toList) = (p :: ps).map (fun t => t.data.toList) from rfl] at this
  exact List.map_inj_right (fun a b h => ba_ext h) |>.1 this
theorem ba_app (a b : ByteArray) : (a ++ b).data.toList = a.data.toList ++ b.data.toList := by rw [ByteArray.data_append]; simp
theorem tails_app (b : List UInt8) (ps : List (List UInt8)) (q : List UInt8) : tails b (ps ++ [q]) = tails b ps ++ (b ++ q) := by simp [tails]
theorem glueTo_list (b : ByteArray) (p : ByteArray) (ps : List ByteArray) : ∀ k, k ≤ ps.length → (glueTo b (p :: ps) (k + 1)).data.toList = p.data.toList ++ tails b.data.toList ((ps.take k).map fun t => t.data.toList)
  | 0, _ => by simp [glueTo, tails]
  | k + 1, h => by
    have ih := glueTo_list b p ps k (by omega)
    rw [glueTo_more (x := ps[k]) (by omega) (by simp), ba_app, ba_app, ih, List.take_succ_eq_append_getElem (by omega), List.map_append]
    rw [List.map_cons, List.map_nil, tails_app, List.append_assoc, List.append_assoc]
theorem glue_list (b p : ByteArray) (ps : List ByteArray) : (glue b (p :: ps)).data.toList = p.data.toList ++ tails b.data.toList (ps.map fun t => t.data.toList) := by
  have := glueTo_list b p ps ps.length (Nat.le_refl _)
  rw [List.take_length] at this
  exact this
theorem cut_glue {b : ByteArray} {b0 : UInt8} {bs : List UInt8} {l : List ByteArray} (hb : b.data.toList = b0 :: bs) (hl : l ≠ []) (hp : ∀ q ∈ l, ∀ x ∈ q.data.toList, x ≠ b0) : cut (glue b l) b = l := by
  match l, hl with
  | p :: ps, _ => exact cut_join hb (by rw [glue_list, hb]) hp
/-- Parts behind a text of two bytes are parts behind its first byte, each with the second in front. -/
theorem tails_two (b0 b1 : UInt8) (ps : List (List UInt8)) : tails [b0, b1] ps = tails [b0] (ps.map fun q => b1 :: q) := by
  unfold tails
  rw [List.flatMap_map]
  rfl
end Go.Proofs.Ytgjghpaenliliaa.P
