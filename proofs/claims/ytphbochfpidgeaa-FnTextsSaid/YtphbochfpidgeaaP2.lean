/-
  Plain functions: hexadecimal digits, reading a number back from its text. No program stands here.
  Conditions: none.
-/
import Derived.Test.YtphbochfpidgeaaP1
namespace Go.Proofs.Ytphbochfpidgeaa.P

/-! ### hexadecimal -/
def hexd (k : Nat) : Int := if k < 10 then 48 + k else 87 + k
def enc (l : List UInt8) : List Int := l.flatMap fun b => [hexd (b.toNat / 16), hexd (b.toNat % 16)]
theorem enc_snoc (l : List UInt8) (b : UInt8) : enc (l ++ [b]) = enc l ++ [hexd (b.toNat / 16), hexd (b.toNat % 16)] := by simp [enc]
theorem enc_len (l : List UInt8) : (enc l).length = 2 * l.length := by
  induction l with
  | nil => rfl
  | cons a t ih => simp only [enc, List.flatMap_cons, List.length_append, List.length_cons, List.length_nil] at ih ⊢; omega
/-- The value of a digit, or -1. -/
def hx (b : Int) : Int := if 48 ≤ b ∧ b ≤ 57 then b - 48 else if 97 ≤ b ∧ b ≤ 102 then b - 87 else -1
theorem hx_le (b : Int) : -1 ≤ hx b ∧ hx b ≤ 15 := by unfold hx; split <;> (try split) <;> omega
theorem hx_hexd {k : Nat} (h : k < 16) : hx (hexd k) = k := by
  unfold hexd; split
  · unfold hx; rw [if_pos (by omega)]; omega
  · unfold hx; rw [if_neg (by omega), if_pos (by omega)]; omega
theorem hx_iff {b : Int} {k : Nat} (h : k < 16) : hexd k = b ↔ hx b = k := by
  constructor
  · rintro rfl; exact hx_hexd h
  · intro e
    unfold hx at e
    split at e
    · unfold hexd; rw [if_pos (by omega)]; omega
    · split at e
      · unfold hexd; rw [if_neg (by omega)]; omega
      · omega
/-- What a decoder of digits answers. -/
def dec : List UInt8 → Option (List Int)
  | [] => some []
  | [_] => none
  | a :: b :: t => if hx a.toNat < 0 ∨ hx b.toNat < 0 then none else (dec t).map fun r => (16 * hx a.toNat + hx b.toNat) :: r
theorem dec_odd : ∀ (l : List UInt8), l.length % 2 = 1 → dec l = none
  | [], h => by simp at h
  | [_], _ => rfl
  | a :: b :: t, h => by
    have : dec t = none := dec_odd t (by simp at h; omega)
    simp [dec, this]
theorem dec_step {l : List UInt8} {k : Nat} (h : k + 2 ≤ l.length) : dec (l.drop k) = if hx (l.getD k 0).toNat < 0 ∨ hx (l.getD (k + 1) 0).toNat < 0 then none else (dec (l.drop (k + 2))).map fun r => (16 * hx (l.getD k 0).toNat + hx (l.getD (k + 1) 0).toNat) :: r := by
  have e : l.drop k = l.getD k 0 :: l.getD (k + 1) 0 :: l.drop (k + 2) := by
    rw [List.drop_eq_getElem_cons (by omega), List.drop_eq_getElem_cons (by omega)]
    simp [List.getD, List.getElem?_eq_getElem (show k < l.length by omega), List.getElem?_eq_getElem (show k + 1 < l.length by omega)]
  rw [e, dec]
theorem dec_enc (l : List UInt8) : ∀ m : List UInt8, nums m = enc l → dec m = some (nums l) := by
  induction l with
  | nil => intro m h; cases m <;> simp_all [nums, enc, dec]
  | cons a t ih =>
    intro m h
    match m, h with
    | [], h => simp [nums, enc] at h
    | [_], h => simp [nums, enc] at h
    | x :: y :: m, h =>
      simp only [nums, enc, List.map_cons, List.flatMap_cons, List.cons_append, List.nil_append, List.cons.injEq] at h
      obtain ⟨h1, h2, h3⟩ := h
      have ha := a.toNat_lt
      have e1 := hx_hexd (k := a.toNat / 16) (by omega)
      have e2 := hx_hexd (k := a.toNat % 16) (by omega)
      have := ih m h3
      rw [dec, h1, h2, e1, e2, if_neg (by omega), this]
      simp [nums]; omega

/-! ### reading a number -/
open Classical in
/-- The number of at most nine digits that is written so. -/
noncomputable def pI (l : List UInt8) : Option Int := if h : ∃ n : Int, fmtL n = nums l ∧ -1000000000 < n ∧ n < 1000000000 then some h.choose else none
theorem pI_some {l : List UInt8} {n : Int} (h : fmtL n = nums l) (h1 : -1000000000 < n) (h2 : n < 1000000000) : pI l = some n := by
  have hh : ∃ n : Int, fmtL n = nums l ∧ -1000000000 < n ∧ n < 1000000000 := ⟨n, h, h1, h2⟩
  unfold pI
  rw [dif_pos hh]
  exact congrArg some (fmtL_inj (hh.choose_spec.1.trans h.symm))
theorem pI_of {l : List UInt8} {n : Int} (h : pI l = some n) : fmtL n = nums l ∧ -1000000000 < n ∧ n < 1000000000 := by
  unfold pI at h
  split at h
  · rename_i hh
    injection h with h
    subst h
    exact hh.choose_spec
  · cases h
theorem pI_none {l : List UInt8} (h : ∀ n : Int, -1000000000 < n → n < 1000000000 → fmtL n ≠ nums l) : pI l = none := by
  unfold pI
  rw [dif_neg]
  rintro ⟨n, h0, h1, h2⟩
  exact h n h1 h2 h0
/-- Is it a digit? -/
def isD (b : UInt8) : Bool := decide (48 ≤ b.toNat ∧ b.toNat ≤ 57)
/-- The digits among the first k bytes: how many, and their value. -/
def cnt (l : List UInt8) : Nat → Nat
  | 0 => 0
  | k + 1 => cnt l k + if isD (l.getD k 0) then 1 else 0
def sc (l : List UInt8) : Nat → Nat
  | 0 => 0
  | k + 1 => if isD (l.getD k 0) then sc l k * 10 + ((l.getD k 0).toNat - 48) else sc l k
theorem cnt_le (l : List UInt8) : ∀ k, cnt l k ≤ k
  | 0 => by simp [cnt]
  | k + 1 => by have := cnt_le l k; simp only [cnt]; split <;> omega
theorem sc_lt (l : List UInt8) : ∀ k, sc l k < 10 ^ cnt l k
  | 0 => by simp [sc, cnt]
  | k + 1 => by
    have := sc_lt l k
    simp only [sc, cnt]
    split
    · rename_i h
      have hd : 48 ≤ (l.getD k 0).toNat ∧ (l.getD k 0).toNat ≤ 57 := by simpa [isD] using h
      rw [Nat.pow_succ]; omega
    · simpa using this
theorem pow10_le {k : Nat} (h : k ≤ 11) : 10 ^ k ≤ 100000000000 := by
  have := Nat.pow_le_pow_right (n := 10) (by omega) h
  simpa using this
theorem pow10_le9 {k : Nat} (h : k ≤ 9) : 10 ^ k ≤ 1000000000 := by
  have := Nat.pow_le_pow_right (n := 10) (by omega) h
  simpa using this
theorem sc_le (l : List UInt8) {k : Nat} (h : k ≤ 11) : sc l k ≤ 100000000000 := by
  have h1 := sc_lt l k
  have h2 := cnt_le l k
  have h3 := pow10_le (k := cnt l k) (by omega)
  omega
theorem fold_acc (l : List Int) (a : Nat) : ∀ d : Int, (l ++ [d]).foldl (fun a d => a * 10 + (d - 48).toNat) a = (l.foldl (fun a d => a * 10 + (d - 48).toNat) a) * 10 + (d - 48).toNat := by
  intro d; simp
/-- Of a text that begins with digits only: the scan is the value. -/
theorem sc_val {l : List UInt8} {o : Nat} (hd : ∀ i, o ≤ i → i < l.length → isD (l.getD i 0) = true) : ∀ k, o + k ≤ l.length → sc l (o + k) = sc l o * 10 ^ k + val (nums ((l.drop o).take k)) ∧ cnt l (o + k) = cnt l o + k
  | 0, _ => by simp [val, nums]
  | k + 1, h => by
    obtain ⟨h1, h2⟩ := sc_val hd k (by omega)
    have hD := hd (o + k) (by omega) (by omega)
    have hb : 48 ≤ (l.getD (o + k) 0).toNat ∧ (l.getD (o + k) 0).toNat ≤ 57 := by simpa [isD] using hD
    have e : (l.drop o).take (k + 1) = (l.drop o).take k ++ [l.getD (o + k) 0] := by
      rw [List.take_succ_eq_append_getElem (by simp; omega)]
      simp [List.getD, List.getElem?_eq_getElem (show o + k < l.length by omega)]
    have ev : val (nums ((l.drop o).take (k + 1))) = val (nums ((l.drop o).take k)) * 10 + ((l.getD (o + k) 0).toNat - 48) := by
      rw [e]
      have : nums ((l.drop o).take k ++ [l.getD (o + k) 0]) = nums ((l.drop o).take k) ++ [((l.getD (o + k) 0).toNat : Int)] := by simp [nums]
      rw [this, val_snoc]; omega
    refine ⟨?_, ?_⟩
    · rw [← Nat.add_assoc, sc, if_pos hD, h1, ev, Nat.pow_succ, Nat.add_mul, Nat.mul_assoc, Nat.add_assoc]
    · rw [← Nat.add_assoc, cnt, if_pos hD, h2]; omega
/-- The shape of what FormatInt writes. -/
theorem fmt_shape {l : List UInt8} {n : Int} (h : fmtL n = nums l) (h1 : -1000000000 < n) (h2 : n < 1000000000) :
    (n < 0 ∧ 1 < l.length ∧ l.length ≤ 10 ∧ (l.getD 0 0).toNat = 45 ∧ (∀ i, 1 ≤ i → i < l.length → isD (l.getD i 0) = true) ∧ (val (nums (l.drop 1)) : Int) = -n) ∨
    (0 ≤ n ∧ 0 < l.length ∧ l.length ≤ 9 ∧ (∀ i, i < l.length → isD (l.getD i 0) = true) ∧ (val (nums l) : Int) = n) := by
  have hat : ∀ i, i < l.length → (nums l)[i]? = some ((l.getD i 0).toNat : Int) := by
    intro i hi
    simp [nums, List.getD, hi]
  unfold fmtL at h
  by_cases h0 : n = 0
  · subst h0
    rw [if_pos rfl] at h
    right
    have hl : l.length = 1 := by have := congrArg List.length h; simp [nums] at this; omega
    refine ⟨by omega, by omega, by omega, ?_, ?_⟩
    · intro i hi
      have := hat i hi
      rw [← h] at this
      have e : i = 0 := by omega
      subst e
      simp at this
      simp [isD]; omega
    · rw [← h]; rfl
  · rw [if_neg h0] at h
    by_cases hn : n < 0
    · left
      rw [if_pos hn] at h
      obtain ⟨d, t, e, _⟩ := digs_ne (n := n.natAbs) (by omega)
      have hl9 := digs_len 9 n.natAbs (by simp; omega)
      have hl : l.length = 1 + (digs n.natAbs).length := by have := congrArg List.length h; simp [nums] at this; omega
      have hp : 1 ≤ (digs n.natAbs).length := by rw [e]; simp
      refine ⟨hn, by omega, by omega, ?_, ?_, ?_⟩
      · have := hat 0 (by omega)
        rw [← h] at this
        simp only [List.getElem?_cons_zero, Option.some.injEq] at this
        omega
      · intro i h1i hi
        have := hat i hi
        rw [← h] at this
        obtain ⟨j, rfl⟩ : ∃ j, i = j + 1 := ⟨i - 1, by omega⟩
        rw [List.getElem?_cons_succ] at this
        have hm := digs_mem _ _ (List.mem_of_getElem? this)
        simp only [isD, decide_eq_true_eq]; omega
      · have : nums (l.drop 1) = digs n.natAbs := by
          have : nums (l.drop 1) = (nums l).drop 1 := by simp [nums]
          rw [this, ← h]; rfl
        rw [this, val_digs]; omega
    · right
      rw [if_neg hn] at h
      obtain ⟨d, t, e, _⟩ := digs_ne (n := n.natAbs) (by omega)
      have hl9 := digs_len 9 n.natAbs (by simp; omega)
      have hl : l.length = (digs n.natAbs).length := by have := congrArg List.length h; simp [nums] at this; omega
      have hp : 1 ≤ (digs n.natAbs).length := by rw [e]; simp
      refine ⟨by omega, by omega, by omega, ?_, ?_⟩
      · intro i hi
        have := hat i hi
        rw [← h] at this
        have hm := digs_mem _ _ (List.mem_of_getElem? this)
        simp only [isD, decide_eq_true_eq]; omega
      · rw [← h, val_digs]; omega
/-- The sign in front. -/
def neg (l : List UInt8) : Bool := decide (0 < l.length ∧ (l.getD 0 0).toNat = 45)
/-- What the reference comes to. -/
def scanned (l : List UInt8) : Int := if neg l then - (sc l (min l.length 11) : Int) else sc l (min l.length 11)
theorem scanned_bd (l : List UInt8) : -100000000000 ≤ scanned l ∧ scanned l ≤ 100000000000 := by
  have := sc_le l (k := min l.length 11) (by omega)
  unfold scanned; split <;> omega
theorem isD_neg {b : UInt8} (h : b.toNat = 45) : isD b = false := by simp [isD]; omega
theorem scanned_fmt {l : List UInt8} {n : Int} (h : fmtL n = nums l) (h1 : -1000000000 < n) (h2 : n < 1000000000) : scanned l = n ∧ cnt l (min l.length 11) ≤ 9 ∧ l.length ≤ 10 := by
  rcases fmt_shape h h1 h2 with ⟨hn, ha, hb, hc, hd, he⟩ | ⟨hn, ha, hb, hd, he⟩
  · have hneg : neg l = true := by simp only [neg, decide_eq_true_eq]; exact ⟨by omega, hc⟩
    have hm : min l.length 11 = 1 + (l.length - 1) := by omega
    obtain ⟨s1, s2⟩ := sc_val hd (l.length - 1) (by omega)
    have c1 : cnt l 1 = 0 := by rw [cnt, isD_neg hc]; rfl
    have c2 : sc l 1 = 0 := by rw [sc, isD_neg hc]; rfl
    have tk : (l.drop 1).take (l.length - 1) = l.drop 1 := List.take_of_length_le (by simp)
    refine ⟨?_, ?_, hb⟩
    · unfold scanned; rw [if_pos hneg, hm, s1, c2, tk]; omega
    · rw [hm, s2, c1]; omega
  · have hneg : neg l = false := by
      simp only [neg, decide_eq_false_iff_not]
      rintro ⟨_, h45⟩
      have := hd 0 ha
      rw [isD_neg h45] at this; cases this
    have hm : min l.length 11 = 0 + l.length := by omega
    obtain ⟨s1, s2⟩ := sc_val (o := 0) (fun i _ hi => hd i hi) l.length (by omega)
    have tk : (l.drop 0).take l.length = l := by simp
    refine ⟨?_, ?_, by omega⟩
    · unfold scanned; rw [hneg, if_neg (by simp), hm, s1, tk]; simp only [sc, Nat.zero_mul, Nat.zero_add]; exact he
    · rw [hm, s2]; simp [cnt]; omega
/-- The reference's answer is pI. -/
theorem pI_ref (l : List UInt8) : pI l = if cnt l (min l.length 11) ≤ 9 ∧ l.length ≤ 10 ∧ fmtL (scanned l) = nums l then some (scanned l) else none := by
  by_cases h : cnt l (min l.length 11) ≤ 9 ∧ l.length ≤ 10 ∧ fmtL (scanned l) = nums l
  · rw [if_pos h]
    have h1 := sc_lt l (min l.length 11)
    have h3 := pow10_le9 h.1
    exact pI_some h.2.2 (by unfold scanned; split <;> omega) (by unfold scanned; split <;> omega)
  · rw [if_neg h]
    refine pI_none fun n a b c => h ?_
    obtain ⟨e, h1, h2⟩ := scanned_fmt c a b
    exact ⟨h1, h2, by rw [e]; exact c⟩
/-- Where the sign ends. -/
def st (l : List UInt8) : Nat := if neg l then 1 else 0
/-- The value of the bytes from the sign on, as the program reckons it. -/
def sv (l : List UInt8) : Nat → Nat
  | 0 => 0
  | k + 1 => 10 * sv l k + ((l.getD (st l + k) 0).toNat - 48)
theorem sv_eq {l : List UInt8} (hd : ∀ i, st l ≤ i → i < l.length → isD (l.getD i 0) = true) : ∀ k, st l + k ≤ l.length → sv l k = val (nums ((l.drop (st l)).take k))
  | 0, _ => by simp [sv, val, nums]
  | k + 1, h => by
    have ih := sv_eq hd k (by omega)
    have hD := hd (st l + k) (by omega) (by omega)
    have hb : 48 ≤ (l.getD (st l + k) 0).toNat ∧ (l.getD (st l + k) 0).toNat ≤ 57 := by simpa [isD] using hD
    have e : (l.drop (st l)).take (k + 1) = (l.drop (st l)).take k ++ [l.getD (st l + k) 0] := by
      rw [List.take_succ_eq_append_getElem (by simp; omega)]
      simp [List.getD, List.getElem?_eq_getElem (show st l + k < l.length by omega)]
    have : nums ((l.drop (st l)).take k ++ [l.getD (st l + k) 0]) = nums ((l.drop (st l)).take k) ++ [((l.getD (st l + k) 0).toNat : Int)] := by simp [nums]
    rw [sv, ih, e, this, val_snoc]; omega
theorem sv_lt {l : List UInt8} (hd : ∀ i, i < l.length → st l ≤ i → isD (l.getD i 0) = true) : ∀ k, st l + k ≤ l.length → sv l k < 10 ^ k
  | 0, _ => by simp [sv]
  | k + 1, h => by
    have ih := sv_lt hd k (by omega)
    have hD := hd (st l + k) (by omega) (by omega)
    have hb : 48 ≤ (l.getD (st l + k) 0).toNat ∧ (l.getD (st l + k) 0).toNat ≤ 57 := by simpa [isD] using hD
    rw [sv, Nat.pow_succ]; omega
def svI (l : List UInt8) : Int := if neg l then - (sv l (l.length - st l) : Int) else sv l (l.length - st l)
/-- The program's answer is pI: too short or too long. -/
theorem pI_len {l : List UInt8} (h : l.length - st l < 1 ∨ 9 < l.length - st l ∨ l.length < st l) : pI l = none := by
  refine pI_none fun n a b c => ?_
  rcases fmt_shape c a b with ⟨hn, ha, hb, hc, hd, he⟩ | ⟨hn, ha, hb, hd, he⟩
  · have hneg : neg l = true := by simp only [neg, decide_eq_true_eq]; exact ⟨by omega, hc⟩
    simp only [st, hneg, if_true] at h; omega
  · have hneg : neg l = false := by
      simp only [neg, decide_eq_false_iff_not]
      rintro ⟨_, h45⟩
      have := hd 0 ha
      rw [isD_neg h45] at this; cases this
    have e1 : st l = 0 := by simp [st, hneg]
    rw [e1] at h; omega
/-- .. no digit. -/
theorem pI_bad {l : List UInt8} {i : Nat} (h1 : st l ≤ i) (h2 : i < l.length) (h : isD (l.getD i 0) = false) : pI l = none := by
  refine pI_none fun n a b c => ?_
  rcases fmt_shape c a b with ⟨hn, ha, hb, hc, hd, he⟩ | ⟨hn, ha, hb, hd, he⟩
  · have hneg : neg l = true := by simp only [neg, decide_eq_true_eq]; exact ⟨by omega, hc⟩
    simp only [st, hneg, if_true] at h1
    rw [hd i h1 h2] at h; cases h
  · rw [hd i h2] at h; cases h
/-- .. written otherwise, or read. -/
theorem pI_prog {l : List UInt8} (h1 : 1 ≤ l.length - st l) (h9 : l.length - st l ≤ 9) (hd : ∀ i, st l ≤ i → i < l.length → isD (l.getD i 0) = true) :
    pI l = if fmtL (svI l) = nums l then some (svI l) else none := by
  have hlt := sv_lt (l := l) (fun i hi hs => hd i hs hi) (l.length - st l) (by omega)
  have h3 := pow10_le9 h9
  by_cases h : fmtL (svI l) = nums l
  · rw [if_pos h]
    exact pI_some h (by unfold svI; split <;> omega) (by unfold svI; split <;> omega)
  · rw [if_neg h]
    refine pI_none fun n a b c => h ?_
    suffices svI l = n by rw [this]; exact c
    have hs := sv_eq hd (l.length - st l) (by omega)
    rcases fmt_shape c a b with ⟨hn, ha, hb, hc, hdd, he⟩ | ⟨hn, ha, hb, hdd, he⟩
    · have hneg : neg l = true := by simp only [neg, decide_eq_true_eq]; exact ⟨by omega, hc⟩
      have e1 : st l = 1 := by simp [st, hneg]
      rw [e1] at hs
      have tk : (l.drop 1).take (l.length - 1) = l.drop 1 := List.take_of_length_le (by simp)
      rw [tk] at hs
      unfold svI; rw [if_pos hneg, e1, hs]; omega
    · have hneg : neg l = false := by
        simp only [neg, decide_eq_false_iff_not]
        rintro ⟨_, h45⟩
        have := hdd 0 ha
        rw [isD_neg h45] at this; cases this
      have e1 : st l = 0 := by simp [st, hneg]
      rw [e1] at hs
      have tk : (l.drop 0).take (l.length - 0) = l := by simp
      rw [tk] at hs
      unfold svI; rw [hneg, e1, if_neg (by simp), hs]; omega
end Go.Proofs.Ytphbochfpidgeaa.P
