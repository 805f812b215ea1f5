/-
  Plain functions on numbers and bytes, and their laws. No program stands here.
  Conditions: none.
-/
import Derived.Laws.BytesArg
namespace Go.Proofs.Ytphbochfpidgeaa.P

/-- The number lies between two others. -/
def inR (x lo hi : Int) : Bool := decide (lo ≤ x ∧ x ≤ hi)
theorem inR_t {x lo hi : Int} (h : inR x lo hi = true) : lo ≤ x ∧ x ≤ hi := by simpa [inR] using h
theorem inR_f {x lo hi : Int} (h : inR x lo hi = false) : x < lo ∨ hi < x := by
  simp only [inR, decide_eq_false_iff_not] at h; omega
theorem inR_mk {x lo hi : Int} (h : lo ≤ x ∧ x ≤ hi) : inR x lo hi = true := by simpa [inR] using h
theorem inR_no {x lo hi : Int} (h : x < lo ∨ hi < x) : inR x lo hi = false := by
  simp only [inR, decide_eq_false_iff_not]; omega

/-! ### fixed width -/
/-- The last k bytes of n, the most significant first. -/
def lo8 : Nat → Nat → List Int
  | 0, _ => []
  | k + 1, n => ((n / 256 ^ k % 256 : Nat) : Int) :: lo8 k n
theorem lo8_len (k n : Nat) : (lo8 k n).length = k := by
  induction k with
  | zero => rfl
  | succ k ih => simp [lo8, ih]
theorem lo8_succ (k n : Nat) : lo8 (k + 1) n = ((n / 256 ^ k % 256 : Nat) : Int) :: lo8 k n := rfl
theorem div_succ (n k : Nat) : n / 256 ^ k / 256 = n / 256 ^ (k + 1) := by rw [Nat.div_div_eq_div_mul, Nat.pow_succ]

/-- The first k bytes as a number. -/
def be (l : List UInt8) : Nat → Nat
  | 0 => 0
  | k + 1 => be l k * 256 + (l.getD k 0).toNat
theorem be_succ (l : List UInt8) (k : Nat) : be l (k + 1) = be l k * 256 + (l.getD k 0).toNat := rfl
theorem be_lt (l : List UInt8) : ∀ k, be l k < 256 ^ k
  | 0 => by simp [be]
  | k + 1 => by
    have h := be_lt l k
    have h2 := (l.getD k 0).toNat_lt
    simp only [be, Nat.pow_succ]; omega
theorem pow_le7 {k : Nat} (h : k ≤ 7) : 256 ^ k ≤ 72057594037927936 := by
  have := Nat.pow_le_pow_right (n := 256) (by omega) h
  simpa using this
theorem pow_le6 {k : Nat} (h : k ≤ 6) : 256 ^ k ≤ 281474976710656 := by
  have := Nat.pow_le_pow_right (n := 256) (by omega) h
  simpa using this

/-! ### LEB128 -/
def uv (n : Nat) : List Int := if n < 128 then [(n : Int)] else ((128 + n % 128 : Nat) : Int) :: uv (n / 128)
termination_by n
theorem uv_small {n : Nat} (h : n < 128) : uv n = [(n : Int)] := by rw [uv, if_pos h]
theorem uv_big {n : Nat} (h : 128 ≤ n) : uv n = ((128 + n % 128 : Nat) : Int) :: uv (n / 128) := by rw [uv, if_neg (by omega)]
theorem uv_len : ∀ (k n : Nat), n < 128 ^ (k + 1) → (uv n).length ≤ k + 1
  | 0, n, h => by rw [uv_small (by simpa using h)]; simp
  | k + 1, n, h => by
    by_cases hn : n < 128
    · rw [uv_small hn]; simp
    · rw [uv_big (by omega), List.length_cons]
      have := uv_len k (n / 128) (by rw [Nat.div_lt_iff_lt_mul (by omega)]; rwa [Nat.pow_succ] at h)
      omega
theorem uv_pos (n : Nat) : 1 ≤ (uv n).length := by
  by_cases h : n < 128
  · rw [uv_small h]; simp
  · rw [uv_big (by omega)]; simp

/-- The value of the first k groups of seven bits. -/
def lv (l : List UInt8) : Nat → Nat
  | 0 => 0
  | k + 1 => lv l k + (l.getD k 0).toNat % 128 * 128 ^ k
theorem lv_succ (l : List UInt8) (k : Nat) : lv l (k + 1) = lv l k + (l.getD k 0).toNat % 128 * 128 ^ k := rfl
theorem lv_lt (l : List UInt8) : ∀ k, lv l k < 128 ^ k
  | 0 => by simp [lv]
  | k + 1 => by
    have h := lv_lt l k
    have h2 : (l.getD k 0).toNat % 128 ≤ 127 := by omega
    have h3 := Nat.mul_le_mul_right (128 ^ k) h2
    simp only [lv, Nat.pow_succ]; omega
theorem pow128_le7 {k : Nat} (h : k ≤ 7) : 128 ^ k ≤ 562949953421312 := by
  have := Nat.pow_le_pow_right (n := 128) (by omega) h
  simpa using this
theorem pow128_le6 {k : Nat} (h : k ≤ 6) : 128 ^ k ≤ 4398046511104 := by
  have := Nat.pow_le_pow_right (n := 128) (by omega) h
  simpa using this

/-- The bytes of a list as numbers. -/
def nums (l : List UInt8) : List Int := l.map fun b => (b.toNat : Int)
theorem nums_len (l : List UInt8) : (nums l).length = l.length := by simp [nums]
/-- The first k bytes are the varint of their value. -/
def okv (l : List UInt8) (k : Nat) : Prop := uv (lv l k) = nums (l.take k)

theorem uv_shape : ∀ (n : Nat), ∃ (a : List Int) (z : Int), uv n = a ++ [z] ∧ 0 ≤ z ∧ z < 128 ∧ ∀ x ∈ a, 128 ≤ x ∧ x < 256 := by
  intro n
  induction n using Nat.strongRecOn with
  | ind n ih =>
    by_cases h : n < 128
    · exact ⟨[], n, by rw [uv_small h]; rfl, by omega, by omega, by simp⟩
    · obtain ⟨a, z, e, h1, h2, h3⟩ := ih (n / 128) (by omega)
      refine ⟨((128 + n % 128 : Nat) : Int) :: a, z, by rw [uv_big (by omega), e]; rfl, h1, h2, ?_⟩
      intro x hx
      rcases List.mem_cons.1 hx with rfl | hx
      · omega
      · exact h3 x hx
/-- The shape of a varint: every byte but the last is 128 or more. -/
theorem okv_shape {l : List UInt8} {k : Nat} (h : okv l k) (hk : k ≤ l.length) : 1 ≤ k ∧ (l.getD (k - 1) 0).toNat < 128 ∧ ∀ i, i + 1 < k → 128 ≤ (l.getD i 0).toNat := by
  obtain ⟨a, z, e, h1, h2, h3⟩ := uv_shape (lv l k)
  unfold okv at h
  rw [e] at h
  have hl : a.length + 1 = k := by
    have := congrArg List.length h
    simp [nums] at this; omega
  have hat : ∀ i, i < k → (nums (l.take k))[i]? = some ((l.getD i 0).toNat : Int) := by
    intro i hi
    have : i < l.length := by omega
    simp [nums, hi, this, List.getD]
  refine ⟨by omega, ?_, ?_⟩
  · have := hat (k - 1) (by omega)
    rw [← h, List.getElem?_append_right (by omega)] at this
    have e0 : k - 1 - a.length = 0 := by omega
    rw [e0] at this
    simp only [List.getElem?_cons_zero, Option.some.injEq] at this
    omega
  · intro i hi
    have := hat i (by omega)
    rw [← h, List.getElem?_append_left (by omega)] at this
    have hm := h3 ((l.getD i 0).toNat : Int) (List.mem_of_getElem? this)
    omega
theorem okv_one {l : List UInt8} {k k' : Nat} (h : okv l k) (hk : k ≤ l.length) (h' : okv l k') (hk' : k' ≤ l.length) : k = k' := by
  obtain ⟨a1, a2, a3⟩ := okv_shape h hk
  obtain ⟨b1, b2, b3⟩ := okv_shape h' hk'
  rcases Nat.lt_trichotomy k k' with hlt | he | hgt
  · have := b3 (k - 1) (by omega); omega
  · exact he
  · have := a3 (k' - 1) (by omega); omega

/-- What a decoder of varints answers. -/
def DV (l : List UInt8) (r : Nat × Nat) : Prop :=
  (∃ k, 1 ≤ k ∧ k ≤ 7 ∧ k ≤ l.length ∧ okv l k ∧ r = (lv l k, k)) ∨ ((∀ k, 1 ≤ k → k ≤ 7 → k ≤ l.length → ¬ okv l k) ∧ r = (0, 0))
theorem DV_one {l : List UInt8} {r r' : Nat × Nat} (h : DV l r) (h' : DV l r') : r = r' := by
  rcases h with ⟨k, h1, h2, h3, h4, rfl⟩ | ⟨h1, rfl⟩ <;> rcases h' with ⟨k', g1, g2, g3, g4, rfl⟩ | ⟨g1, rfl⟩
  · rw [okv_one h4 h3 g4 g3]
  · exact absurd h4 (g1 k h1 h2 h3)
  · exact absurd g4 (h1 k' g1 g2 g3)
  · rfl

/-! ### decimal digits -/
def digs (n : Nat) : List Int := if n = 0 then [] else digs (n / 10) ++ [((48 + n % 10 : Nat) : Int)]
termination_by n
theorem digs_zero : digs 0 = [] := by rw [digs]; rfl
theorem digs_pos {n : Nat} (h : 0 < n) : digs n = digs (n / 10) ++ [((48 + n % 10 : Nat) : Int)] := by rw [digs, if_neg (by omega)]
theorem digs_mem : ∀ (n : Nat) (x : Int), x ∈ digs n → 48 ≤ x ∧ x ≤ 57 := by
  intro n
  induction n using Nat.strongRecOn with
  | ind n ih =>
    intro x hx
    by_cases h : n = 0
    · subst h; rw [digs_zero] at hx; simp at hx
    · rw [digs_pos (by omega)] at hx
      rcases List.mem_append.1 hx with hx | hx
      · exact ih (n / 10) (by omega) x hx
      · simp at hx; omega
theorem digs_len : ∀ (k n : Nat), n < 10 ^ k → (digs n).length ≤ k
  | 0, n, h => by
    have : n = 0 := by simpa using h
    subst this; rw [digs_zero]; simp
  | k + 1, n, h => by
    by_cases hn : n = 0
    · subst hn; rw [digs_zero]; simp
    · rw [digs_pos (by omega), List.length_append]
      have := digs_len k (n / 10) (by rw [Nat.div_lt_iff_lt_mul (by omega)]; rwa [Nat.pow_succ] at h)
      simp; omega
/-- What FormatInt writes. -/
def fmtL (n : Int) : List Int := if n = 0 then [48] else if n < 0 then 45 :: digs n.natAbs else digs n.natAbs
/-- The value of a row of digits. -/
def val (l : List Int) : Nat := l.foldl (fun a d => a * 10 + (d - 48).toNat) 0
theorem val_snoc (l : List Int) (d : Int) : val (l ++ [d]) = val l * 10 + (d - 48).toNat := by simp [val]
theorem val_digs : ∀ n, val (digs n) = n := by
  intro n
  induction n using Nat.strongRecOn with
  | ind n ih =>
    by_cases h : n = 0
    · subst h; rw [digs_zero]; rfl
    · rw [digs_pos (by omega), val_snoc, ih (n / 10) (by omega)]; omega
theorem digs_ne {n : Nat} (h : 0 < n) : ∃ d t, digs n = d :: t ∧ 48 ≤ d ∧ d ≤ 57 := by
  cases e : digs n with
  | nil => have := val_digs n; rw [e] at this; simp [val] at this; omega
  | cons d t => exact ⟨d, t, rfl, digs_mem n d (by rw [e]; simp)⟩
/-- The decimal value, with a sign, of a text. -/
def sval (l : List Int) : Int := match l with
  | 45 :: t => - (val t : Int)
  | l => (val l : Int)
theorem sval_fmt (n : Int) : sval (fmtL n) = n := by
  unfold fmtL
  by_cases h0 : n = 0
  · subst h0; rfl
  · rw [if_neg h0]
    by_cases hn : n < 0
    · rw [if_pos hn]
      simp only [sval, val_digs]; omega
    · rw [if_neg hn]
      obtain ⟨d, t, e, h1, h2⟩ := digs_ne (n := n.natAbs) (by omega)
      have hv := val_digs n.natAbs
      rw [e] at hv ⊢
      unfold sval
      split
      · rename_i heq; injection heq with heq _; omega
      · rw [hv]; omega
theorem fmtL_inj {a b : Int} (h : fmtL a = fmtL b) : a = b := by rw [← sval_fmt a, ← sval_fmt b, h]
theorem fmtL_len {n : Int} (h1 : -9223372036854775808 ≤ n) (h2 : n ≤ 9223372036854775807) : (fmtL n).length ≤ 20 := by
  unfold fmtL
  have := digs_len 19 n.natAbs (by simp; omega)
  split
  · simp
  · split
    · simp; omega
    · omega
end Go.Proofs.Ytphbochfpidgeaa.P
