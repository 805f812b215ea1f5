/-
  Plain functions on texts: texts joined by another one. No program stands here.
  Conditions: none.
-/
namespace Go.Proofs.Ytgjghpaenliliaa.P

/-- The first k texts with another one between. -/
def glueTo (by_ : ByteArray) (l : List ByteArray) : Nat → ByteArray
  | 0 => ⟨#[]⟩
  | k + 1 => (if k = 0 then glueTo by_ l k else glueTo by_ l k ++ by_) ++ l.getD k ⟨#[]⟩
def glue (by_ : ByteArray) (l : List ByteArray) : ByteArray := glueTo by_ l l.length
theorem glueTo_one {b : ByteArray} {l : List ByteArray} {x : ByteArray} {k : Nat} (h0 : k = 0) (hx : l[k]? = some x) : glueTo b l (k + 1) = glueTo b l k ++ x := by
  rw [glueTo, if_pos h0]; simp [List.getD, hx]
theorem glueTo_more {b : ByteArray} {l : List ByteArray} {x : ByteArray} {k : Nat} (h0 : ¬ k = 0) (hx : l[k]? = some x) : glueTo b l (k + 1) = glueTo b l k ++ b ++ x := by
  rw [glueTo, if_neg h0]; simp [List.getD, hx]
theorem glueTo_size {b : ByteArray} {l : List ByteArray} (hb : b.size ≤ 16) (hl : ∀ x ∈ l, x.size ≤ 4096) : ∀ k, (glueTo b l k).size ≤ 4112 * k
  | 0 => by simp [glueTo, ByteArray.size]
  | k + 1 => by
    have ih := glueTo_size hb hl k
    have hx : (l.getD k ⟨#[]⟩).size ≤ 4096 := by
      simp only [List.getD]
      cases e : l[k]? with
      | none => simp [ByteArray.size]
      | some x => exact hl x (List.mem_of_getElem? e)
    rw [glueTo]
    split <;> simp only [ByteArray.size_append] <;> omega
theorem glue_at {b : ByteArray} {l : List ByteArray} {k n : Nat} (hl : l.length = n) (hk : k = n) : glue b l = glueTo b l k := by subst hl hk; rfl
end Go.Proofs.Ytgjghpaenliliaa.P
