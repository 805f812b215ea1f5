/-
  Walks of chapter 5: a wish copied by the reference.
  Conditions: none beyond the bounds that each states.
-/
import Derived.Test.YteinbnjkiebfaaaW60
import Derived.Test.YteinbnjkiebfaaaM16
namespace Go.Proofs.Yteinbnjkiebfaaa.Wk
open Go.RowKit Go.Proofs.Yteinbnjkiebfaaa.M
set_option linter.unusedVariables false
attribute [local go_sem] cell_grow

section
variable {w X w5 w6 : World} {base E E1 sz g g2 H n1 : Nat} {v5 v6 : Value} {xs1 : List Value}
theorem lit_new (hg : X.heap.size = g) (hb : base ≤ g) (e sz : Nat) : (X.alloc (.cells #[] e)).drew.ownsRow base e sz (.slice (some ⟨g, 0, none⟩) 0 0) 0 [] := by
  subst hg
  exact own_mono (own_emptyS X e sz) hb
theorem own_ad {v : Value} {n : Nat} {xs : List Value} (h : X.drew.ownsRow base E sz v n xs) (o : Obj) : (X.alloc o).drew.ownsRow base E sz v n xs := h.alloc o
theorem row_ad {xs : List Value} (h : Row X.drew g E xs) (o : Obj) : Row (X.alloc o).drew g E xs := h.alloc o
theorem lit_block (g : Nat) : (Value.slice (some ⟨g, 0, none⟩) 0 0).ownBlock = some g := rfl
theorem first_ne (h : v5.ownBlock = (Value.slice (some ⟨g, 0, none⟩) 0 0).ownBlock ∨ v5.ownBlock = some H) (h1 : g ≠ g2) (h2 : H ≠ g2) : v5.ownBlock ≠ some g2 := by
  intro e
  rcases h with h | h
  · rw [h, lit_block] at e; injection e with e; exact h1 e
  · rw [h] at e; injection e with e; exact h2 e
theorem lit_ne (h1 : g ≠ g2) : ∀ q, (Value.slice (some ⟨g, 0, none⟩) 0 0).ownBlock = some q → some q ≠ (Value.slice (some ⟨g2, 0, none⟩) 0 0).ownBlock := by
  intro q hq e
  rw [lit_block] at hq e
  injection hq with hq
  injection e with e
  exact h1 (hq.trans e)
theorem second_old (ho5 : w5.ownsRow base E1 sz v5 n1 xs1) (hne : v5.ownBlock ≠ some g2) (hg6 : w5.grownBy w6 (Value.slice (some ⟨g2, 0, none⟩) 0 0).ownBlock) (ha6 : v6.ownBlock = (Value.slice (some ⟨g2, 0, none⟩) 0 0).ownBlock ∨ v6.ownBlock = some H) (hH : w5.heap.size = H) :
    w6.ownsRow base E1 sz v5 n1 xs1 ∧ Far v5 v6 := by
  refine ⟨own_grown ho5 hg6 (fun q hq e => hne (hq.trans (e.trans (lit_block g2)))), ?_⟩
  cases hq : v5.ownBlock with
  | none => exact .inl hq
  | some q =>
    refine .inr fun hh => ?_
    rcases ha6 with h | h
    · exact hne (hh.trans (h.trans (lit_block g2)))
    · rw [hq, h] at hh
      injection hh with hh
      have := (ho5.lt q hq).2
      omega
theorem second_new {o : Obj} (ho5 : w5.ownsRow base E1 sz v5 n1 xs1) (hg6 : (w5.alloc o).grownBy w6 (Value.slice (some ⟨w5.heap.size, 0, none⟩) 0 0).ownBlock) (ha6 : v6.ownBlock = (Value.slice (some ⟨w5.heap.size, 0, none⟩) 0 0).ownBlock ∨ v6.ownBlock = some H) (hH : (w5.alloc o).heap.size = H) :
    w6.ownsRow base E1 sz v5 n1 xs1 ∧ Far v5 v6 := by
  have hlt : ∀ q, v5.ownBlock = some q → q < w5.heap.size := fun q hq => (ho5.lt q hq).2
  rw [World.size_alloc] at hH
  refine ⟨own_grown (ho5.alloc o) hg6 (fun q hq e => ?_), ?_⟩
  · rw [lit_block] at e; injection e with e; have := hlt q hq; omega
  · cases hq : v5.ownBlock with
    | none => exact .inl hq
    | some q =>
      refine .inr fun hh => ?_
      have := hlt q hq
      rw [hq] at hh
      rcases ha6 with h | h
      · rw [h, lit_block] at hh; injection hh with hh; omega
      · rw [h] at hh; injection hh with hh; omega
theorem cells5 {g0 : Nat} {a b c d e : Value} (h : Row X g0 E [a, b, c, d, e]) : X.cell? ⟨g0, 0, none⟩ = some a ∧ X.cell? ⟨g0, 1, none⟩ = some b ∧ X.cell? ⟨g0, 2, none⟩ = some c ∧ X.cell? ⟨g0, 3, none⟩ = some d ∧ X.cell? ⟨g0, 4, none⟩ = some e := ⟨h.cell 0, h.cell 1, h.cell 2, h.cell 3, h.cell 4⟩
theorem fin2 {lo EE EP n m c5 c6 : Nat} {x : Wi} {A5 A6 : Option Addr} (h1 : X.ownsRow lo EE 1 (.slice A5 (0 + n) c5) (0 + n) ([] ++ x.list.map (Value.int .i64))) (h2 : X.ownsRow lo EP 2 (.slice A6 (0 + m) c6) (0 + m) ([] ++ prc x.pairs)) (hf : Far (.slice A5 (0 + n) c5) (.slice A6 (0 + m) c6)) (nl : x.list.length = n) (ml : x.pairs.length = m) : OwnW X lo EE EP x (.slice A5 n c5) (.slice A6 m c6) := by
  rw [Nat.zero_add, Nat.zero_add] at hf
  refine ⟨?_, ?_, hf⟩
  · rw [nl]; simpa using h1
  · rw [ml]; simpa using h2
theorem far_swap {u v : Value} (h : Far u v) : Far v u := by
  cases hq : v.ownBlock with
  | none => exact .inl hq
  | some q =>
    refine .inr fun hh => ?_
    rw [hq] at hh
    exact far_sym h q hq hh.symm
theorem row_gr {xs : List Value} {g0 : Nat} (h : Row X g0 E xs) (hg : X.grownBy w6 (Value.slice (some ⟨g2, 0, none⟩) 0 0).ownBlock) (h1 : g0 ≠ g2) : Row w6 g0 E xs := h.grown hg (fun e => by rw [lit_block] at e; injection e with e; exact h1 e)
end
section
variable {A E : Option Addr} {n c m d : Nat} {x : Wi} {w X w6 : World}
theorem s5 (hb : Below w.heap.size w X) (h : Row X w.heap.size 49 [.int .i64 x.kind, .int .i64 x.field, .int .i64 x.value, .slice A n c, .slice E m d]) : Below w.heap.size w X ∧ Row X w.heap.size 49 [.int .i64 x.kind, .int .i64 x.field, .int .i64 x.value, .slice A n c, .slice E m d] ∧ X.cell? ⟨w.heap.size, 0, none⟩ = some (.int .i64 x.kind) ∧ X.cell? ⟨w.heap.size, 1, none⟩ = some (.int .i64 x.field) ∧ X.cell? ⟨w.heap.size, 2, none⟩ = some (.int .i64 x.value) ∧ X.cell? ⟨w.heap.size, 3, none⟩ = some (.slice A n c) ∧ X.cell? ⟨w.heap.size, 4, none⟩ = some (.slice E m d) := ⟨hb, h, h.cell 0, h.cell 1, h.cell 2, h.cell 3, h.cell 4⟩
theorem s5_ad (h : Below w.heap.size w X.drew ∧ Row X.drew w.heap.size 49 [.int .i64 x.kind, .int .i64 x.field, .int .i64 x.value, .slice A n c, .slice E m d] ∧ X.drew.cell? ⟨w.heap.size, 0, none⟩ = some (.int .i64 x.kind) ∧ X.drew.cell? ⟨w.heap.size, 1, none⟩ = some (.int .i64 x.field) ∧ X.drew.cell? ⟨w.heap.size, 2, none⟩ = some (.int .i64 x.value) ∧ X.drew.cell? ⟨w.heap.size, 3, none⟩ = some (.slice A n c) ∧ X.drew.cell? ⟨w.heap.size, 4, none⟩ = some (.slice E m d)) (o : Obj) : Below w.heap.size w (X.alloc o).drew ∧ Row (X.alloc o).drew w.heap.size 49 [.int .i64 x.kind, .int .i64 x.field, .int .i64 x.value, .slice A n c, .slice E m d] ∧ (X.alloc o).drew.cell? ⟨w.heap.size, 0, none⟩ = some (.int .i64 x.kind) ∧ (X.alloc o).drew.cell? ⟨w.heap.size, 1, none⟩ = some (.int .i64 x.field) ∧ (X.alloc o).drew.cell? ⟨w.heap.size, 2, none⟩ = some (.int .i64 x.value) ∧ (X.alloc o).drew.cell? ⟨w.heap.size, 3, none⟩ = some (.slice A n c) ∧ (X.alloc o).drew.cell? ⟨w.heap.size, 4, none⟩ = some (.slice E m d) := s5 (h.1.alloc h.1.size o) (h.2.1.alloc o)
theorem s5_al (h : Below w.heap.size w X ∧ Row X w.heap.size 49 [.int .i64 x.kind, .int .i64 x.field, .int .i64 x.value, .slice A n c, .slice E m d] ∧ X.cell? ⟨w.heap.size, 0, none⟩ = some (.int .i64 x.kind) ∧ X.cell? ⟨w.heap.size, 1, none⟩ = some (.int .i64 x.field) ∧ X.cell? ⟨w.heap.size, 2, none⟩ = some (.int .i64 x.value) ∧ X.cell? ⟨w.heap.size, 3, none⟩ = some (.slice A n c) ∧ X.cell? ⟨w.heap.size, 4, none⟩ = some (.slice E m d)) (o : Obj) : Below w.heap.size w (X.alloc o) ∧ Row (X.alloc o) w.heap.size 49 [.int .i64 x.kind, .int .i64 x.field, .int .i64 x.value, .slice A n c, .slice E m d] ∧ (X.alloc o).cell? ⟨w.heap.size, 0, none⟩ = some (.int .i64 x.kind) ∧ (X.alloc o).cell? ⟨w.heap.size, 1, none⟩ = some (.int .i64 x.field) ∧ (X.alloc o).cell? ⟨w.heap.size, 2, none⟩ = some (.int .i64 x.value) ∧ (X.alloc o).cell? ⟨w.heap.size, 3, none⟩ = some (.slice A n c) ∧ (X.alloc o).cell? ⟨w.heap.size, 4, none⟩ = some (.slice E m d) := s5 (h.1.alloc h.1.size o) (h.2.1.alloc o)
theorem s5_gr {g2 : Nat} (h : Below w.heap.size w X ∧ Row X w.heap.size 49 [.int .i64 x.kind, .int .i64 x.field, .int .i64 x.value, .slice A n c, .slice E m d] ∧ X.cell? ⟨w.heap.size, 0, none⟩ = some (.int .i64 x.kind) ∧ X.cell? ⟨w.heap.size, 1, none⟩ = some (.int .i64 x.field) ∧ X.cell? ⟨w.heap.size, 2, none⟩ = some (.int .i64 x.value) ∧ X.cell? ⟨w.heap.size, 3, none⟩ = some (.slice A n c) ∧ X.cell? ⟨w.heap.size, 4, none⟩ = some (.slice E m d)) (hg : X.grownBy w6 (Value.slice (some ⟨g2, 0, none⟩) 0 0).ownBlock) (h1 : w.heap.size < g2) : Below w.heap.size w w6 ∧ Row w6 w.heap.size 49 [.int .i64 x.kind, .int .i64 x.field, .int .i64 x.value, .slice A n c, .slice E m d] ∧ w6.cell? ⟨w.heap.size, 0, none⟩ = some (.int .i64 x.kind) ∧ w6.cell? ⟨w.heap.size, 1, none⟩ = some (.int .i64 x.field) ∧ w6.cell? ⟨w.heap.size, 2, none⟩ = some (.int .i64 x.value) ∧ w6.cell? ⟨w.heap.size, 3, none⟩ = some (.slice A n c) ∧ w6.cell? ⟨w.heap.size, 4, none⟩ = some (.slice E m d) :=
  s5 (h.1.grown hg h.1.size (fun k hk => by rw [lit_block] at hk; injection hk with hk; omega)) (row_gr h.2.1 hg (by omega))
theorem s5_set (h : Below w.heap.size w X ∧ Row X w.heap.size 49 [.int .i64 x.kind, .int .i64 x.field, .int .i64 x.value, .slice A n c, .slice E m d] ∧ X.cell? ⟨w.heap.size, 0, none⟩ = some (.int .i64 x.kind) ∧ X.cell? ⟨w.heap.size, 1, none⟩ = some (.int .i64 x.field) ∧ X.cell? ⟨w.heap.size, 2, none⟩ = some (.int .i64 x.value) ∧ X.cell? ⟨w.heap.size, 3, none⟩ = some (.slice A n c) ∧ X.cell? ⟨w.heap.size, 4, none⟩ = some (.slice E m d)) {p : Addr} (hp : p.block = w.heap.size + 1) (u : Value) : Below w.heap.size w (X.setCell p u) ∧ Row (X.setCell p u) w.heap.size 49 [.int .i64 x.kind, .int .i64 x.field, .int .i64 x.value, .slice A n c, .slice E m d] ∧ (X.setCell p u).cell? ⟨w.heap.size, 0, none⟩ = some (.int .i64 x.kind) ∧ (X.setCell p u).cell? ⟨w.heap.size, 1, none⟩ = some (.int .i64 x.field) ∧ (X.setCell p u).cell? ⟨w.heap.size, 2, none⟩ = some (.int .i64 x.value) ∧ (X.setCell p u).cell? ⟨w.heap.size, 3, none⟩ = some (.slice A n c) ∧ (X.setCell p u).cell? ⟨w.heap.size, 4, none⟩ = some (.slice E m d) :=
  s5 (h.1.setCell (by omega) u) (h.2.1.far (by omega) u)
end
set_option maxHeartbeats 6400000 in
set_option maxRecDepth 100000 in
theorem l5Wish {A E : Option Addr} {n c m d : Nat} {x : Wi} (w : World) (h : Sl RI 1 w w.heap.size A n c x.list) (g : Sl RP 2 w w.heap.size E m d x.pairs) (hn : n ≤ 1048576) (hm : m ≤ 1048576) :
    Calls Try.prog 44 #[.agg #[.int .i64 x.kind, .int .i64 x.field, .int .i64 x.value, .slice A n c, .slice E m d]] w (RetWO w x) := by
  obtain ⟨i0, hi, hz0, hz1, hz2⟩ := info_parts info_p4
  obtain ⟨j0, ji, jz0, jz1, jz2⟩ := info_parts info_i4
  have HI := Lib.hid h
  have HP := Lib.hid g
  have B2 := ((Below.refl w.heap.size w).alloc (Nat.le_refl _) (.cells #[.int .i64 x.kind, .int .i64 x.field, .int .i64 x.value, .slice A n c, .slice E m d] 49)).alloc (by simp) (.cells #[.int .i64 0, .int .i64 0, .int .i64 0, .slice none 0 0, .slice none 0 0] 49)
  have R0 := (Row.new w 49 [.int .i64 x.kind, .int .i64 x.field, .int .i64 x.value, .slice A n c, .slice E m d]).alloc (.cells #[.int .i64 0, .int .i64 0, .int .i64 0, .slice none 0 0, .slice none 0 0] 49)
  have R1 : Row ((w.alloc (.cells #[.int .i64 x.kind, .int .i64 x.field, .int .i64 x.value, .slice A n c, .slice E m d] 49)).alloc (.cells #[.int .i64 0, .int .i64 0, .int .i64 0, .slice none 0 0, .slice none 0 0] 49)) (w.heap.size + 1) 49 [.int .i64 0, .int .i64 0, .int .i64 0, .slice none 0 0, .slice none 0 0] := by
    have := Row.new (w.alloc (.cells #[.int .i64 x.kind, .int .i64 x.field, .int .i64 x.value, .slice A n c, .slice E m d] 49)) 49 [.int .i64 0, .int .i64 0, .int .i64 0, .slice none 0 0, .slice none 0 0]
    rw [World.size_alloc] at this
    exact this
  have hsW : ((w.alloc (.cells #[.int .i64 x.kind, .int .i64 x.field, .int .i64 x.value, .slice A n c, .slice E m d] 49)).alloc (.cells #[.int .i64 0, .int .i64 0, .int .i64 0, .slice none 0 0, .slice none 0 0] 49)).heap.size = w.heap.size + 1 + 1 := by simp
  have hsW1 : (((w.alloc (.cells #[.int .i64 x.kind, .int .i64 x.field, .int .i64 x.value, .slice A n c, .slice E m d] 49)).alloc (.cells #[.int .i64 0, .int .i64 0, .int .i64 0, .slice none 0 0, .slice none 0 0] 49)).alloc (.cells #[] 3)).heap.size = w.heap.size + 1 + 1 + 1 := by simp
  have hsW2 : (((w.alloc (.cells #[.int .i64 x.kind, .int .i64 x.field, .int .i64 x.value, .slice A n c, .slice E m d] 49)).alloc (.cells #[.int .i64 0, .int .i64 0, .int .i64 0, .slice none 0 0, .slice none 0 0] 49)).alloc (.cells #[] 68)).heap.size = w.heap.size + 1 + 1 + 1 := by simp
  have le2 : w.heap.size + 1 + 1 ≤ w.heap.size + 1 + 1 := Nat.le_refl _
  have le3 : w.heap.size + 1 + 1 ≤ w.heap.size + 1 + 1 + 1 := Nat.le_succ _
  have n23 : w.heap.size + 1 + 1 ≠ w.heap.size + 1 + 1 + 1 := by omega
  have n32 : w.heap.size + 1 + 1 + 1 ≠ w.heap.size + 1 + 1 := by omega
  have n12 : w.heap.size + 1 ≠ w.heap.size + 1 + 1 := by omega
  have n13 : w.heap.size + 1 ≠ w.heap.size + 1 + 1 + 1 := by omega
  have l02 : w.heap.size < w.heap.size + 1 + 1 := by omega
  have l03 : w.heap.size < w.heap.size + 1 + 1 + 1 := by omega
  have hIl : (x.list.map (Value.int .i64)).length = n * 1 := by rw [List.length_map, h.len, Nat.mul_one]
  have hPl : (prc x.pairs).length = m * 2 := by rw [prc_len, g.len]
  have hI63 : 0 + n ≤ maxLen := by unfold maxLen; omega
  have hP63 : 0 + m ≤ maxLen := by unfold maxLen; omega
  have hIb : (0 + n) * 8 ≤ 140737488355328 := by omega
  have hPb : (0 + m) * 16 ≤ 140737488355328 := by omega
  have S0 := s5 B2.drew R0.drew
  have RD := R1.drew
  have hd1 : (((w.alloc (.cells #[.int .i64 x.kind, .int .i64 x.field, .int .i64 x.value, .slice A n c, .slice E m d] 49)).alloc (.cells #[.int .i64 0, .int .i64 0, .int .i64 0, .slice none 0 0, .slice none 0 0] 49)).alloc (.cells #[] 3)).drew.heap.size = w.heap.size + 1 + 1 + 1 := hsW1
  have hd2 : (((w.alloc (.cells #[.int .i64 x.kind, .int .i64 x.field, .int .i64 x.value, .slice A n c, .slice E m d] 49)).alloc (.cells #[.int .i64 0, .int .i64 0, .int .i64 0, .slice none 0 0, .slice none 0 0] 49)).alloc (.cells #[] 68)).drew.heap.size = w.heap.size + 1 + 1 + 1 := hsW2
  have hd12 : ((((w.alloc (.cells #[.int .i64 x.kind, .int .i64 x.field, .int .i64 x.value, .slice A n c, .slice E m d] 49)).alloc (.cells #[.int .i64 0, .int .i64 0, .int .i64 0, .slice none 0 0, .slice none 0 0] 49)).alloc (.cells #[] 3)).alloc (.cells #[] 68)).drew.heap.size = w.heap.size + 1 + 1 + 1 + 1 := by show ((((w.alloc (.cells #[.int .i64 x.kind, .int .i64 x.field, .int .i64 x.value, .slice A n c, .slice E m d] 49)).alloc (.cells #[.int .i64 0, .int .i64 0, .int .i64 0, .slice none 0 0, .slice none 0 0] 49)).alloc (.cells #[] 3)).alloc (.cells #[] 68)).heap.size = _; simp
  have hd21 : ((((w.alloc (.cells #[.int .i64 x.kind, .int .i64 x.field, .int .i64 x.value, .slice A n c, .slice E m d] 49)).alloc (.cells #[.int .i64 0, .int .i64 0, .int .i64 0, .slice none 0 0, .slice none 0 0] 49)).alloc (.cells #[] 68)).alloc (.cells #[] 3)).drew.heap.size = w.heap.size + 1 + 1 + 1 + 1 := by show ((((w.alloc (.cells #[.int .i64 x.kind, .int .i64 x.field, .int .i64 x.value, .slice A n c, .slice E m d] 49)).alloc (.cells #[.int .i64 0, .int .i64 0, .int .i64 0, .slice none 0 0, .slice none 0 0] 49)).alloc (.cells #[] 68)).alloc (.cells #[] 3)).heap.size = _; simp
  have hb1 : w.heap.size + 1 + 1 ≤ (((w.alloc (.cells #[.int .i64 x.kind, .int .i64 x.field, .int .i64 x.value, .slice A n c, .slice E m d] 49)).alloc (.cells #[.int .i64 0, .int .i64 0, .int .i64 0, .slice none 0 0, .slice none 0 0] 49)).alloc (.cells #[] 3)).drew.heap.size := by rw [hd1]; omega
  have hb2 : w.heap.size + 1 + 1 ≤ (((w.alloc (.cells #[.int .i64 x.kind, .int .i64 x.field, .int .i64 x.value, .slice A n c, .slice E m d] 49)).alloc (.cells #[.int .i64 0, .int .i64 0, .int .i64 0, .slice none 0 0, .slice none 0 0] 49)).alloc (.cells #[] 68)).drew.heap.size := by rw [hd2]; omega
  have hb12 : w.heap.size + 1 + 1 ≤ ((((w.alloc (.cells #[.int .i64 x.kind, .int .i64 x.field, .int .i64 x.value, .slice A n c, .slice E m d] 49)).alloc (.cells #[.int .i64 0, .int .i64 0, .int .i64 0, .slice none 0 0, .slice none 0 0] 49)).alloc (.cells #[] 3)).alloc (.cells #[] 68)).drew.heap.size := by rw [hd12]; omega
  have hb21 : w.heap.size + 1 + 1 ≤ ((((w.alloc (.cells #[.int .i64 x.kind, .int .i64 x.field, .int .i64 x.value, .slice A n c, .slice E m d] 49)).alloc (.cells #[.int .i64 0, .int .i64 0, .int .i64 0, .slice none 0 0, .slice none 0 0] 49)).alloc (.cells #[] 68)).alloc (.cells #[] 3)).drew.heap.size := by rw [hd21]; omega
  have n42 : w.heap.size + 1 + 1 + 1 + 1 ≠ w.heap.size + 1 + 1 := by omega
  have n43 : w.heap.size + 1 + 1 + 1 + 1 ≠ w.heap.size + 1 + 1 + 1 := by omega
  have nl : x.list.length = n := h.len
  have ml : x.pairs.length = m := g.len
  clear h g hn hm B2 R0 R1
  go_enter Try.func44, Try.ntmps44
  go_wp2_with fail
  go_region_held3 (fun w' => Below w.heap.size w w' ∧ Row w' w.heap.size 49 [.int .i64 x.kind, .int .i64 x.field, .int .i64 x.value, .slice A n c, .slice E m d] ∧ w'.cell? ⟨w.heap.size, 0, none⟩ = some (.int .i64 x.kind) ∧ w'.cell? ⟨w.heap.size, 1, none⟩ = some (.int .i64 x.field) ∧ w'.cell? ⟨w.heap.size, 2, none⟩ = some (.int .i64 x.value) ∧ w'.cell? ⟨w.heap.size, 3, none⟩ = some (.slice A n c) ∧ w'.cell? ⟨w.heap.size, 4, none⟩ = some (.slice E m d)) (first | exact S0 | exact s5_set (s5_set (s5_set (s5_set (s5_set (by assumption) rfl _) rfl _) rfl _) rfl _) rfl _ | exact s5_ad (by assumption) _ | exact s5_al (by assumption) _ | exact s5_gr (by assumption) hg6 l02 | exact s5_gr (by assumption) hg6 l03 | exact s5_gr (by assumption) hg5 l02 | exact s5_gr (by assumption) hg5 l03 | exact s5_gr (by assumption) hg6 (by have := hR.lt; omega) | exact s5_gr (by assumption) hg5 (by have := hR.lt; omega) | fail) (first | (refine step_append_slice _ (by rfl) _ _ 41 (by rfl) (w.heap.size + 1 + 1) 3 j0 _ 1 8 Try.underlying41 ji jz0 jz1 jz2 rfl Nat.one_pos _ _ _ (by rfl) (lit_new hsW le2 3 1) A n c (x.list.map (Value.int .i64)) (by rfl) hIl (slI_some HI.out) (slI_cells (HI.out.on RI.keeps (And.left (by assumption)))) (ints_one _) hI63 hIb (hb1) (w.heap.size + 1 + 1 + 1) hd1 ?_; intro v5 w5 ho5 hg5 ha5; obtain ⟨A5, c5, rfl, _, _⟩ := own_form ho5; have hRI := row_gr (row_ad RD (.cells #[] 3)) hg5 n12; have hbI : w.heap.size + 1 + 1 ≤ w5.heap.size := Nat.le_trans hb1 hg5.size) | (refine step_append_slice _ (by rfl) _ _ 41 (by rfl) (w.heap.size + 1 + 1) 3 j0 _ 1 8 Try.underlying41 ji jz0 jz1 jz2 rfl Nat.one_pos _ _ _ (by rfl) (own_ad (lit_new hsW le2 3 1) (.cells #[] 68)) A n c (x.list.map (Value.int .i64)) (by rfl) hIl (slI_some HI.out) (slI_cells (HI.out.on RI.keeps (And.left (by assumption)))) (ints_one _) hI63 hIb (hb12) (w.heap.size + 1 + 1 + 1 + 1) hd12 ?_; intro v5 w5 ho5 hg5 ha5; obtain ⟨A5, c5, rfl, _, _⟩ := own_form ho5; have hE := own_grown (lit_new hsW1 le3 68 2) hg5 (lit_ne n32); have hn5 := first_ne ha5 n23 n43; have hRI := row_gr (row_ad (row_ad RD (.cells #[] 3)) (.cells #[] 68)) hg5 n12; have hbI : w.heap.size + 1 + 1 ≤ w5.heap.size := Nat.le_trans hb12 hg5.size) | (refine step_append_slice _ (by rfl) _ _ 41 (by rfl) (w.heap.size + 1 + 1) 3 j0 _ 1 8 Try.underlying41 ji jz0 jz1 jz2 rfl Nat.one_pos _ _ _ (by rfl) (lit_new hsW2 le3 3 1) A n c (x.list.map (Value.int .i64)) (by rfl) hIl (slI_some HI.out) (slI_cells (HI.out.on RI.keeps (And.left (by assumption)))) (ints_one _) hI63 hIb (hb21) (w.heap.size + 1 + 1 + 1 + 1) hd21 ?_; intro v5 w5 ho5 hg5 ha5; obtain ⟨A5, c5, rfl, _, _⟩ := own_form ho5; have hE := own_grown (own_ad (lit_new hsW le2 68 2) (.cells #[] 3)) hg5 (lit_ne n23); have hn5 := first_ne ha5 n32 n42; have hRI := row_gr (row_ad (row_ad RD (.cells #[] 68)) (.cells #[] 3)) hg5 n13; have hbI : w.heap.size + 1 + 1 ≤ w5.heap.size := Nat.le_trans hb21 hg5.size) | (refine step_append_slice _ (by rfl) _ _ 41 (by rfl) (w.heap.size + 1 + 1) 3 j0 _ 1 8 Try.underlying41 ji jz0 jz1 jz2 rfl Nat.one_pos _ _ _ (by rfl) (own_mono (own_emptyS w6 3 1) hbP) A n c (x.list.map (Value.int .i64)) (by rfl) hIl (slI_some HI.out) (slI_cells (HI.out.on RI.keeps (And.left (by assumption)))) (ints_one _) hI63 hIb (Nat.le_trans hbP (size_le_alloc _ _)) _ rfl ?_; intro v5 w5 ho5 hg5 ha5; obtain ⟨A5, c5, rfl, _, _⟩ := own_form ho5; have F := second_new ho6 hg5 ha5 rfl; have hR := row_gr (hRP.alloc (.cells #[] 3)) hg5 (Nat.ne_of_lt (hRP.lt)); obtain ⟨q0, q1, q2, q3, q4⟩ := cells5 hR; have k0 := hR.free 0; have k1 := hR.free 1; have k2 := hR.free 2; have k3 := hR.free 3; have k4 := hR.free 4; have hRl := hR.lt) | (refine step_append_slice _ (by rfl) _ _ 41 (by rfl) (w.heap.size + 1 + 1) 3 j0 _ 1 8 Try.underlying41 ji jz0 jz1 jz2 rfl Nat.one_pos _ _ _ (by rfl) (hE) A n c (x.list.map (Value.int .i64)) (by rfl) hIl (slI_some HI.out) (slI_cells (HI.out.on RI.keeps (And.left (by assumption)))) (ints_one _) hI63 hIb (hbP) _ rfl ?_; intro v5 w5 ho5 hg5 ha5; obtain ⟨A5, c5, rfl, _, _⟩ := own_form ho5; have F := second_old ho6 hn5 hg5 ha5 rfl; have hR := row_gr hRP hg5 (by first | exact n12 | exact n13); obtain ⟨q0, q1, q2, q3, q4⟩ := cells5 hR; have k0 := hR.free 0; have k1 := hR.free 1; have k2 := hR.free 2; have k3 := hR.free 3; have k4 := hR.free 4; have hRl := hR.lt) | (refine step_append_slice _ (by rfl) _ _ 47 (by rfl) (w.heap.size + 1 + 1) 68 i0 _ 2 16 Try.underlying47 hi hz0 hz1 hz2 rfl (Nat.zero_lt_succ 1) _ _ _ (by rfl) (lit_new hsW le2 68 2) E m d (prc x.pairs) (by rfl) hPl (slI_some HP.out) (slP_cells (HP.out.on RP.keeps (And.left (by assumption)))) (prc_one _) hP63 hPb (hb2) (w.heap.size + 1 + 1 + 1) hd2 ?_; intro v6 w6 ho6 hg6 ha6; obtain ⟨A6, c6, rfl, _, _⟩ := own_form ho6; have hRP := row_gr (row_ad RD (.cells #[] 68)) hg6 n12; have hbP : w.heap.size + 1 + 1 ≤ w6.heap.size := Nat.le_trans hb2 hg6.size) | (refine step_append_slice _ (by rfl) _ _ 47 (by rfl) (w.heap.size + 1 + 1) 68 i0 _ 2 16 Try.underlying47 hi hz0 hz1 hz2 rfl (Nat.zero_lt_succ 1) _ _ _ (by rfl) (own_ad (lit_new hsW le2 68 2) (.cells #[] 3)) E m d (prc x.pairs) (by rfl) hPl (slI_some HP.out) (slP_cells (HP.out.on RP.keeps (And.left (by assumption)))) (prc_one _) hP63 hPb (hb21) (w.heap.size + 1 + 1 + 1 + 1) hd21 ?_; intro v6 w6 ho6 hg6 ha6; obtain ⟨A6, c6, rfl, _, _⟩ := own_form ho6; have hE := own_grown (lit_new hsW2 le3 3 1) hg6 (lit_ne n32); have hn5 := first_ne ha6 n23 n43; have hRP := row_gr (row_ad (row_ad RD (.cells #[] 68)) (.cells #[] 3)) hg6 n12; have hbP : w.heap.size + 1 + 1 ≤ w6.heap.size := Nat.le_trans hb21 hg6.size) | (refine step_append_slice _ (by rfl) _ _ 47 (by rfl) (w.heap.size + 1 + 1) 68 i0 _ 2 16 Try.underlying47 hi hz0 hz1 hz2 rfl (Nat.zero_lt_succ 1) _ _ _ (by rfl) (lit_new hsW1 le3 68 2) E m d (prc x.pairs) (by rfl) hPl (slI_some HP.out) (slP_cells (HP.out.on RP.keeps (And.left (by assumption)))) (prc_one _) hP63 hPb (hb12) (w.heap.size + 1 + 1 + 1 + 1) hd12 ?_; intro v6 w6 ho6 hg6 ha6; obtain ⟨A6, c6, rfl, _, _⟩ := own_form ho6; have hE := own_grown (own_ad (lit_new hsW le2 3 1) (.cells #[] 68)) hg6 (lit_ne n23); have hn5 := first_ne ha6 n32 n42; have hRP := row_gr (row_ad (row_ad RD (.cells #[] 3)) (.cells #[] 68)) hg6 n13; have hbP : w.heap.size + 1 + 1 ≤ w6.heap.size := Nat.le_trans hb12 hg6.size) | (refine step_append_slice _ (by rfl) _ _ 47 (by rfl) (w.heap.size + 1 + 1) 68 i0 _ 2 16 Try.underlying47 hi hz0 hz1 hz2 rfl (Nat.zero_lt_succ 1) _ _ _ (by rfl) (own_mono (own_emptyS w5 68 2) hbI) E m d (prc x.pairs) (by rfl) hPl (slI_some HP.out) (slP_cells (HP.out.on RP.keeps (And.left (by assumption)))) (prc_one _) hP63 hPb (Nat.le_trans hbI (size_le_alloc _ _)) _ rfl ?_; intro v6 w6 ho6 hg6 ha6; obtain ⟨A6, c6, rfl, _, _⟩ := own_form ho6; have F := second_new ho5 hg6 ha6 rfl; have hR := row_gr (hRI.alloc (.cells #[] 68)) hg6 (Nat.ne_of_lt (hRI.lt)); obtain ⟨q0, q1, q2, q3, q4⟩ := cells5 hR; have k0 := hR.free 0; have k1 := hR.free 1; have k2 := hR.free 2; have k3 := hR.free 3; have k4 := hR.free 4; have hRl := hR.lt) | (refine step_append_slice _ (by rfl) _ _ 47 (by rfl) (w.heap.size + 1 + 1) 68 i0 _ 2 16 Try.underlying47 hi hz0 hz1 hz2 rfl (Nat.zero_lt_succ 1) _ _ _ (by rfl) (hE) E m d (prc x.pairs) (by rfl) hPl (slI_some HP.out) (slP_cells (HP.out.on RP.keeps (And.left (by assumption)))) (prc_one _) hP63 hPb (hbI) _ rfl ?_; intro v6 w6 ho6 hg6 ha6; obtain ⟨A6, c6, rfl, _, _⟩ := own_form ho6; have F := second_old ho5 hn5 hg6 ha6 rfl; have hR := row_gr hRI hg6 (by first | exact n12 | exact n13); obtain ⟨q0, q1, q2, q3, q4⟩ := cells5 hR; have k0 := hR.free 0; have k1 := hR.free 1; have k2 := hR.free 2; have k3 := hR.free 3; have k4 := hR.free 4; have hRl := hR.lt) | fail)
  all_goals
    go_wp2
    refine bodyPost_ret (v := .agg #[.int .i64 x.kind, .int .i64 x.field, .int .i64 x.value, .slice A5 n c5, .slice A6 m c6]) (by simp [results, Try.results44, go_sem, q0, q1, q2, q3, q4]) rfl ?_
    refine ⟨_, _, rfl, OwnW.mono (lo := w.heap.size + 1 + 1) ?_ (by omega), ?_⟩
    · repeat (refine OwnW.far ?_ (by first | (simp; done) | (simp; omega)) _)
      first
        | exact fin2 F.1 ho6 F.2 nl ml
        | exact fin2 ho5 F.1 (far_swap F.2) nl ml
    · first
        | exact And.left (by assumption)
        | (repeat (refine Below.setCell ?_ (by first | (simp; done) | (simp; omega)) _)
           first
             | exact And.left (by assumption)
             | exact (s5_gr (by assumption) hg6 l02).1
             | exact (s5_gr (by assumption) hg6 l03).1
             | exact (s5_gr (by assumption) hg5 l02).1
             | exact (s5_gr (by assumption) hg5 l03).1)

end Go.Proofs.Yteinbnjkiebfaaa.Wk
