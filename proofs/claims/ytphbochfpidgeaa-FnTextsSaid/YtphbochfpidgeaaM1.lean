/-
  Words for memory: a slice that reads as a list of numbers, pairs, items, wishes, nodes or texts. No program stands here.
  Conditions: none.
-/
import Derived.Below
import Derived.Laws.OwnMore
import Derived.Laws.Rows
import Derived.Deep.Draws
namespace Go.Proofs.Ytphbochfpidgeaa.M
open Go Go.RowKit

/-- An int of the machine. -/
def Fit (x : Int) : Prop := -9223372036854775808 ≤ x ∧ x ≤ 9223372036854775807
theorem fit_wf {x : Int} (h : (Lit.int .i64 x).wf = true) : Fit x := by
  simp [Lit.wf, IntKind.min, IntKind.max, IntKind.signed, IntKind.bits] at h
  unfold Fit; omega

/-- What is told of an element: the world, a bound on its blocks, the element, its cells. -/
abbrev Rep (α : Type) := World → Nat → α → List Value → Prop

/-- The slice value '.slice A n c' reads as the list l, an element sz cells, each told by R; it lies below block number B. -/
structure Sl {α : Type} (R : Rep α) (sz : Nat) (w : World) (B : Nat) (A : Option Addr) (n c : Nat) (l : List α) : Prop where
  len : l.length = n
  le : n ≤ c
  max : c ≤ maxLen
  at_ : 0 < n → ∃ b o, A = some ⟨b, o, none⟩ ∧ b < B ∧ ∀ i x, l[i]? = some x → ∃ cs : List Value, cs.length = sz ∧ R w B x cs ∧ ∀ j u, cs[j]? = some u → w.cell? ⟨b, o + (i * sz + j), none⟩ = some u

/-- R stands while nothing below B turns, and at a greater bound. -/
structure Keeps {α : Type} (R : Rep α) : Prop where
  below : ∀ {w w' : World} {B : Nat} {x : α} {cs : List Value}, R w B x cs → Below B w w' → R w' B x cs
  more : ∀ {w : World} {B B' : Nat} {x : α} {cs : List Value}, R w B x cs → B ≤ B' → R w B' x cs

section
variable {α : Type} {R : Rep α} {sz : Nat} {w w' : World} {B B' : Nat} {A : Option Addr} {n c : Nat} {l : List α}
theorem Sl.below (K : Keeps R) (h : Sl R sz w B A n c l) (hb : Below B w w') : Sl R sz w' B A n c l :=
  ⟨h.len, h.le, h.max, fun hn => by
    obtain ⟨b, o, e, hlt, hc⟩ := h.at_ hn
    refine ⟨b, o, e, hlt, fun i x hx => ?_⟩
    obtain ⟨cs, h1, h2, h3⟩ := hc i x hx
    exact ⟨cs, h1, K.below h2 hb, fun j u hu => (hb.cell (p := ⟨b, _, none⟩) hlt).trans (h3 j u hu)⟩⟩
theorem Sl.more (K : Keeps R) (h : Sl R sz w B A n c l) (hB : B ≤ B') : Sl R sz w B' A n c l :=
  ⟨h.len, h.le, h.max, fun hn => by
    obtain ⟨b, o, e, hlt, hc⟩ := h.at_ hn
    refine ⟨b, o, e, by omega, fun i x hx => ?_⟩
    obtain ⟨cs, h1, h2, h3⟩ := hc i x hx
    exact ⟨cs, h1, K.more h2 hB, h3⟩⟩
theorem Sl.nil (w : World) (B : Nat) : Sl R sz w B none 0 0 [] := ⟨rfl, Nat.le_refl _, Nat.zero_le _, fun h => absurd h (Nat.lt_irrefl 0)⟩
theorem Sl.get (h : Sl R sz w B A n c l) {k : Nat} (hk : k < n) : ∃ b o x cs, A = some ⟨b, o, none⟩ ∧ b < B ∧ l[k]? = some x ∧ cs.length = sz ∧ R w B x cs ∧ ∀ j u, cs[j]? = some u → w.cell? ⟨b, o + (k * sz + j), none⟩ = some u := by
  obtain ⟨b, o, e, hlt, hc⟩ := h.at_ (by omega)
  have hl : k < l.length := by have := h.len; omega
  obtain ⟨cs, h1, h2, h3⟩ := hc k l[k] (List.getElem?_eq_getElem hl)
  exact ⟨b, o, l[k], cs, e, hlt, List.getElem?_eq_getElem hl, h1, h2, h3⟩
/-- A part of it. -/
theorem Sl.part (h : Sl R sz w B A n c l) {lo hi : Nat} (h1 : lo ≤ hi) (h2 : hi ≤ n) :
    Sl R sz w B (if c = lo then A else A.map (·.add (lo * sz))) (hi - lo) (c - lo) ((l.drop lo).take (hi - lo)) := by
  refine ⟨by have := h.len; simp; omega, by have := h.le; omega, by have := h.max; omega, fun hn => ?_⟩
  obtain ⟨b, o, rfl, hlt, hc⟩ := h.at_ (by omega)
  have hle := h.le
  rw [if_neg (by omega)]
  refine ⟨b, o + lo * sz, by by_cases h0 : lo * sz = 0 <;> simp [Addr.add, h0], hlt, fun i x hx => ?_⟩
  have hi' : i < hi - lo := by
    have := (List.getElem?_eq_some_iff.1 hx).1
    simp at this; omega
  rw [List.getElem?_take, if_pos hi', List.getElem?_drop] at hx
  obtain ⟨cs, g1, g2, g3⟩ := hc (lo + i) x hx
  refine ⟨cs, g1, g2, fun j u hu => ?_⟩
  have := g3 j u hu
  rw [Nat.add_mul] at this
  rwa [show o + lo * sz + (i * sz + j) = o + (lo * sz + i * sz + j) by omega]
end

/-- An int. -/
def RI : Rep Int := fun _ _ x cs => cs = [.int .i64 x] ∧ Fit x
theorem RI.keeps : Keeps RI := ⟨fun h _ => h, fun h _ => h⟩
/-- A byte. -/
def RB : Rep UInt8 := fun _ _ x cs => cs = [.int .u8 (x.toNat : Int)]
theorem RB.keeps : Keeps RB := ⟨fun h _ => h, fun h _ => h⟩
/-- A text. -/
def RS : Rep ByteArray := fun _ _ x cs => cs = [.string x] ∧ x.size ≤ maxLen
theorem RS.keeps : Keeps RS := ⟨fun h _ => h, fun h _ => h⟩
/-- A pair. -/
def RP : Rep (Int × Int) := fun _ _ x cs => cs = [.int .i64 x.1, .int .i64 x.2] ∧ Fit x.1 ∧ Fit x.2
theorem RP.keeps : Keeps RP := ⟨fun h _ => h, fun h _ => h⟩

/-- A slice as a value. -/
def V {α : Type} (R : Rep α) (sz : Nat) (w : World) (B : Nat) (v : Value) (l : List α) : Prop := ∃ A n c, v = .slice A n c ∧ Sl R sz w B A n c l
section
variable {α : Type} {R : Rep α} {sz : Nat} {w w' : World} {B B' : Nat} {v : Value} {l : List α}
theorem V.below (K : Keeps R) (h : V R sz w B v l) (hb : Below B w w') : V R sz w' B v l := by
  obtain ⟨A, n, c, e, h⟩ := h; exact ⟨A, n, c, e, h.below K hb⟩
theorem V.more (K : Keeps R) (h : V R sz w B v l) (hB : B ≤ B') : V R sz w B' v l := by
  obtain ⟨A, n, c, e, h⟩ := h; exact ⟨A, n, c, e, h.more K hB⟩
end

/-- An item. -/
structure It where
  id : Int
  vals : List Int
def RIt : Rep It := fun w B x cs => ∃ v, cs = [.int .i64 x.id, v] ∧ Fit x.id ∧ V RI 1 w B v x.vals
theorem RIt.keeps : Keeps RIt := ⟨fun ⟨v, e, f, h⟩ hb => ⟨v, e, f, h.below RI.keeps hb⟩, fun ⟨v, e, f, h⟩ hB => ⟨v, e, f, h.more RI.keeps hB⟩⟩
/-- A wish. -/
structure Wi where
  kind : Int
  field : Int
  value : Int
  list : List Int
  pairs : List (Int × Int)
def RW : Rep Wi := fun w B x cs => ∃ v u, cs = [.int .i64 x.kind, .int .i64 x.field, .int .i64 x.value, v, u] ∧ Fit x.kind ∧ Fit x.field ∧ Fit x.value ∧ V RI 1 w B v x.list ∧ V RP 2 w B u x.pairs
theorem RW.keeps : Keeps RW :=
  ⟨fun ⟨v, u, e, f, g, k, h, h'⟩ hb => ⟨v, u, e, f, g, k, h.below RI.keeps hb, h'.below RP.keeps hb⟩, fun ⟨v, u, e, f, g, k, h, h'⟩ hB => ⟨v, u, e, f, g, k, h.more RI.keeps hB, h'.more RP.keeps hB⟩⟩
/-- A node. -/
structure Nd where
  op : Int
  wish : Wi
def RN : Rep Nd := fun w B x cs => ∃ cw, cs = .int .i64 x.op :: cw ∧ Fit x.op ∧ RW w B x.wish cw
theorem RN.keeps : Keeps RN := ⟨fun ⟨c, e, f, h⟩ hb => ⟨c, e, f, RW.keeps.below h hb⟩, fun ⟨c, e, f, h⟩ hB => ⟨c, e, f, RW.keeps.more h hB⟩⟩
end Go.Proofs.Ytphbochfpidgeaa.M
