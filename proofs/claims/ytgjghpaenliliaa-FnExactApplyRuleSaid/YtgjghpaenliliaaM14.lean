/-
  append of a whole slice onto a row of the call's own. No program stands here.
  Conditions: none.
-/
import Derived.Test.YtgjghpaenliliaaM13
import Derived.Laws.AppendOwnNone
namespace Go.Proofs.Ytgjghpaenliliaa.M
open Go Go.RowKit

section
variable {P : Program} {w : World} {ops : Array Oper} {rest : List Oper} {o : Oper} {a : Act} {Q : Exit → Act → World → Prop}
theorem run_append_none (base : Nat) (t ty e : TypeId) (i : TypeInfo) (size : Nat) (ht : P.underlying t = some (.slice e)) (hi : P.info? e = some i)
    (v : Value) (n c : Nat) (xs : List Value) (hown : w.ownsRow base e size v n xs) :
    (Builtin.append_ #[t, t] ty #[v, .slice none 0 c]).run P w = .ok v w := by
  rcases hown.2 with ⟨rfl, rfl⟩ | ⟨g, cap, cur, rfl, _, _, hnc, _⟩
  · simp [Builtin.append_, run_underlying ht, sizeOf, typeInfo, hi, Builtin.lenOf, Builtin.firstCells]
  · simp [Builtin.append_, run_underlying ht, sizeOf, typeInfo, hi, Builtin.lenOf, Builtin.firstCells, hnc, storeCells]
theorem wpList_append_none (hgd : o.guard = none) (s x : Operand) (t : TypeId)
    (ho : o.op = .call { callee := .builtin .append, args := #[s, x], argTypes := #[t, t] })
    (base : Nat) (e : TypeId) (i : TypeInfo) (size : Nat) (ht : P.underlying t = some (.slice e)) (hi : P.info? e = some i)
    (v : Value) (n c : Nat) (xs : List Value) (hs : a.eval s = v) (hown : w.ownsRow base e size v n xs) (hx : a.eval x = .slice none 0 c)
    (h : wpList P ops Q rest (a.put o.dst v) w) : wpList P ops Q (o :: rest) a w := by
  refine wpList_plain hgd fun K hK => ?_
  have hrun := run_append_none (P := P) (w := w) base t o.type e i size ht hi v n c xs hown
  unfold Oper.wp
  simp [execOp, ho, resolve, invoke, builtin, hs, hx, hrun, Result.andThen]
  exact hK _ _ h
/-- The source is any slice whose cells are known. -/
theorem append_slice (hgd : o.guard = none) (s x : Operand) (t : TypeId)
    (ho : o.op = .call { callee := .builtin .append, args := #[s, x], argTypes := #[t, t] })
    (base : Nat) (e : TypeId) (i : TypeInfo) (z : Value) (size bytes : Nat) (ht : P.underlying t = some (.slice e)) (hi : P.info? e = some i) (hz : i.zero = some z)
    (hsize : i.size = size) (hby : i.bytes = bytes) (hzs : z.cells.size = size) (hsz : 0 < size)
    (v : Value) (n : Nat) (xs : List Value) (hs : a.eval s = v) (hown : w.ownsRow base e size v n xs)
    (A : Option Addr) (m c : Nat) (news : List Value) (hx : a.eval x = .slice A m c) (hl : news.length = m * size) (hA : 0 < m → A ≠ none) (hnews : ∀ ad, A = some ad → ∀ j u, news[j]? = some u → w.cell? (ad.add j) = some u) (h1 : ∀ u ∈ news, u.oneCell' = true)
    (h63 : n + m ≤ maxLen) (hbytes : (n + m) * bytes ≤ 140737488355328) (hbase : base ≤ w.heap.size)
    (h : ∀ v' w', w'.ownsRow base e size v' (n + m) (xs ++ news) → w.grownBy w' v.ownBlock → wpList P ops Q rest (a.put o.dst v') w') : wpList P ops Q (o :: rest) a w := by
  cases A with
  | some ad => exact wpList_append_own w hgd s x t ho base e i z size bytes ht hi hz hsize hby hzs hsz v n xs hs hown ad m c news hx hl (hnews ad rfl) h1 h63 hbytes hbase fun v' w' h2 h3 _ => h v' w' h2 h3
  | none =>
    have hm : m = 0 := by
      rcases Nat.eq_zero_or_pos m with h0 | h0
      · exact h0
      · exact absurd rfl (hA h0)
    subst hm
    have hn0 : news = [] := List.eq_nil_of_length_eq_zero (by omega)
    subst hn0
    exact wpList_append_none hgd s x t ho base e i size ht hi v n c xs hs hown hx (h v w (by simpa using hown) ⟨rfl, rfl, rfl, Nat.le_refl _, fun _ _ _ => rfl⟩)
end
section
variable {w : World} {B n c : Nat} {A : Option Addr}
theorem slI_some {α : Type} {R : Rep α} {sz : Nat} {l : List α} (h : Sl R sz w B A n c l) : 0 < n → A ≠ none := fun hn => by
  obtain ⟨b, o, e, _⟩ := h.at_ hn
  rw [e]; simp
theorem slI_cells {xs : List Int} (h : Sl RI 1 w B A n c xs) : ∀ ad, A = some ad → ∀ j u, (xs.map (Value.int .i64))[j]? = some u → w.cell? (ad.add j) = some u := by
  intro ad hA j u hu
  rw [List.getElem?_map] at hu
  cases hx : xs[j]? with
  | none => rw [hx] at hu; cases hu
  | some x =>
    rw [hx] at hu
    simp at hu
    subst hu
    have hj : j < n := by have := (List.getElem?_eq_some_iff.1 hx).1; have := h.len; omega
    obtain ⟨b, o, y, e, _, hy, _, hc⟩ := h.int hj
    rw [hx] at hy
    injection hy with hy
    subst hy
    rw [e] at hA
    injection hA with hA
    subst hA
    have e0 : (⟨b, o, none⟩ : Addr).add j = ⟨b, o + j, none⟩ := by by_cases h0 : j = 0 <;> simp [Addr.add, h0]
    rw [e0]; exact hc
theorem slP_cells {l : List (Int × Int)} (h : Sl RP 2 w B A n c l) : ∀ ad, A = some ad → ∀ j u, (prc l)[j]? = some u → w.cell? (ad.add j) = some u := by
  intro ad hA j u hu
  have hjl : j < l.length * 2 := by have := (List.getElem?_eq_some_iff.1 hu).1; rw [prc_len] at this; exact this
  have hk : j / 2 < n := by have := h.len; omega
  obtain ⟨b, o, p, e, _, hp, _, _, c0, c1⟩ := pairAt h hk
  rw [e] at hA
  injection hA with hA
  subst hA
  have e0 : (⟨b, o, none⟩ : Addr).add j = ⟨b, o + j, none⟩ := by by_cases h0 : j = 0 <;> simp [Addr.add, h0]
  rw [e0]
  obtain ⟨p0, p1⟩ := prc_at l _ _ hp
  rcases Nat.mod_two_eq_zero_or_one j with h0 | h0
  · rw [show j / 2 * 2 = j by omega] at p0 c0
    rw [p0] at hu
    injection hu with hu
    rw [← hu]; exact c0
  · rw [show j / 2 * 2 + 1 = j by omega] at p1
    rw [show o + j / 2 * 2 + 1 = o + j by omega] at c1
    rw [p1] at hu
    injection hu with hu
    rw [← hu]; exact c1
theorem ints_one (xs : List Int) : ∀ u ∈ xs.map (Value.int .i64), u.oneCell' = true := by
  intro u hu
  obtain ⟨x, _, rfl⟩ := List.mem_map.1 hu
  rfl
theorem prc_one (l : List (Int × Int)) : ∀ u ∈ prc l, u.oneCell' = true := by
  intro u hu
  unfold prc itc at hu
  obtain ⟨p, hp, hup⟩ := List.mem_flatMap.1 hu
  obtain ⟨q, _, rfl⟩ := List.mem_map.1 hp
  simp [p2] at hup
  rcases hup with rfl | rfl <;> rfl
end
end Go.Proofs.Ytgjghpaenliliaa.M
