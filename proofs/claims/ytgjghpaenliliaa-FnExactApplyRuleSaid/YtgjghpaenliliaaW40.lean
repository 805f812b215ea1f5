/-
  Walks of chapter 4: a wish measured, copied, compared.
  Conditions: none beyond the bounds that each states.
-/
import Derived.Test.YtgjghpaenliliaaW12
import Derived.Test.YtgjghpaenliliaaW30
import Derived.Test.YtgjghpaenliliaaU1
import Derived.Test.YtgjghpaenliliaaO2
import Derived.Test.YtgjghpaenliliaaM12
namespace Go.Proofs.Ytgjghpaenliliaa.Wk
open Go.RowKit Go.Proofs.Ytgjghpaenliliaa.M
set_option linter.unusedVariables false
attribute [local go_sem] cell_grow

theorem V_sl {α : Type} {R : Rep α} {sz B n c : Nat} {w : World} {A : Option Addr} {l : List α} (h : V R sz w B (.slice A n c) l) : Sl R sz w B A n c l := by
  obtain ⟨A', n', c', e, hs⟩ := h
  injection e with e1 e2 e3
  subst e1 e2 e3
  exact hs
/-- It returns a wish by value that reads as x. -/
abbrev RetW (w : World) (x : Wi) (e : Ending) (w' : World) : Prop :=
  ∃ A n c E m d, e = .returned (.agg #[.int .i64 x.kind, .int .i64 x.field, .int .i64 x.value, .slice A n c, .slice E m d]) ∧ Sl RI 1 w' w'.heap.size A n c x.list ∧ Sl RP 2 w' w'.heap.size E m d x.pairs ∧ Below w.heap.size w w'
/-- It returns a wish by value, whose rows are the call's own. -/
def RetWO (w : World) (x : Wi) (e : Ending) (w' : World) : Prop :=
  ∃ u v, e = .returned (.agg #[.int .i64 x.kind, .int .i64 x.field, .int .i64 x.value, u, v]) ∧ OwnW w' w.heap.size 3 92 x u v ∧ Below w.heap.size w w'
set_option maxHeartbeats 800000 in
theorem sz_wish {A E : Option Addr} {n c m d : Nat} {x : Wi} {left : Int} (w : World) (h : Sl RI 1 w w.heap.size A n c x.list) (h' : Sl RP 2 w w.heap.size E m d x.pairs) (h0 : 0 ≤ left) (h1 : left ≤ 1048576) :
    Calls Try.prog 55 #[.agg #[.int .i64 x.kind, .int .i64 x.field, .int .i64 x.value, .slice A n c, .slice E m d], .int .i64 left] w fun e w' => e = .returned (.int .i64 (less left (x.list.length + x.pairs.length))) ∧ Below w.heap.size w w' := by
  have hn := Nat.le_trans h.le h.max
  have B1 := (Below.refl w.heap.size w).alloc (Nat.le_refl _) (.cells #[.int .i64 x.kind, .int .i64 x.field, .int .i64 x.value, .slice A n c, .slice E m d] 47)
  have H' := Lib.hid (h'.on RP.keeps B1)
  have HL := Lib.hid h.len
  by_cases h2 : left < n
  · have hv : less left n = -1 := less_no h2
    have HE : Hid (less left (x.list.length + x.pairs.length) = -1) := less_no (by have := HL.out; omega)
    clear h h'
    go_enter Try.func55, Try.ntmps55
    go_wp2_with (go_at_call 32; refine (szIntS A n c left h0 h1 hn _).mono ?_; rintro e w' ⟨rfl, rfl⟩; rw [hv])
    go_ret
    exact ⟨ret_int HE.out.symm, B1⟩
  · have hv : less left n = left - n := less_fit (by omega)
    clear h h'
    by_cases h3 : left - n < x.pairs.length
    · have hv2 : less (left - n) x.pairs.length = -1 := less_no h3
      have HE : Hid (less left (x.list.length + x.pairs.length) = -1) := less_no (by have := HL.out; omega)
      go_enter Try.func55, Try.ntmps55
      go_wp2_with (first | (go_at_call 32; refine (szIntS A n c left h0 h1 hn _).mono ?_; rintro e w' ⟨rfl, rfl⟩; rw [hv]) | (go_at_call 85; refine (sz_pairs _ H'.out (by omega) (by omega)).mono ?_; rintro e w2 ⟨rfl, b2⟩; rw [hv2]))
      go_ret
      exact ⟨ret_int HE.out.symm, B1.trans (b2.mono B1.size)⟩
    · have hv2 : less (left - n) x.pairs.length = left - n - x.pairs.length := less_fit (by omega)
      have HE : Hid (less left (x.list.length + x.pairs.length) = left - n - x.pairs.length) := by
        show _ = _
        rw [less_fit (by have := HL.out; omega)]
        have := HL.out; omega
      go_enter Try.func55, Try.ntmps55
      go_wp2_with (first | (go_at_call 32; refine (szIntS A n c left h0 h1 hn _).mono ?_; rintro e w' ⟨rfl, rfl⟩; rw [hv]) | (go_at_call 85; refine (sz_pairs _ H'.out (by omega) (by omega)).mono ?_; rintro e w2 ⟨rfl, b2⟩; rw [hv2]))
      go_ret
      exact ⟨ret_int HE.out.symm, B1.trans (b2.mono B1.size)⟩
theorem eqInts_same {A A' : Option Addr} {n n' c c' : Nat} {xs : List Int} (w : World) (h : Sl RI 1 w w.heap.size A n c xs) (h' : Sl RI 1 w w.heap.size A' n' c' xs) :
    Calls Try.prog 38 #[.slice A n c, .slice A' n' c'] w fun e w' => e = .returned (.bool true) ∧ Below w.heap.size w w' :=
  (eqIntS w h h').mono fun e w' hh => by
    obtain ⟨he, hb⟩ := hh.below
    exact ⟨by rw [he]; simp, hb⟩
set_option maxHeartbeats 800000 in
theorem eq_wish {A E A' E' : Option Addr} {n c m d n' c' m' d' : Nat} {x : Wi} (w : World) (h : Sl RI 1 w w.heap.size A n c x.list) (g : Sl RP 2 w w.heap.size E m d x.pairs) (h' : Sl RI 1 w w.heap.size A' n' c' x.list) (g' : Sl RP 2 w w.heap.size E' m' d' x.pairs) :
    Calls Try.prog 68 #[.agg #[.int .i64 x.kind, .int .i64 x.field, .int .i64 x.value, .slice A n c, .slice E m d], .agg #[.int .i64 x.kind, .int .i64 x.field, .int .i64 x.value, .slice A' n' c', .slice E' m' d']] w fun e w' => e = .returned (.bool true) ∧ Below w.heap.size w w' := by
  have B2 := ((Below.refl w.heap.size w).alloc (Nat.le_refl _) (.cells #[.int .i64 x.kind, .int .i64 x.field, .int .i64 x.value, .slice A n c, .slice E m d] 53)).alloc (by simp) (.cells #[.int .i64 x.kind, .int .i64 x.field, .int .i64 x.value, .slice A' n' c', .slice E' m' d'] 53)
  have H := Lib.hid (h.on RI.keeps B2)
  have H' := Lib.hid (h'.on RI.keeps B2)
  have G := Lib.hid (g.on RP.keeps B2)
  have G' := Lib.hid (g'.on RP.keeps B2)
  have q1 : (x.kind != x.kind) = false := by simp
  have q2 : (x.field != x.field) = false := by simp
  have q3 : (x.value != x.value) = false := by simp
  clear h h' g g'
  go_enter Try.func68, Try.ntmps68
  go_wp2_with fail
  refine (eqInts_same _ H.out H'.out).mono ?_
  rintro e w2 ⟨rfl, b2⟩
  have K := G.out.on RP.keeps b2
  have K' := G'.out.on RP.keeps b2
  have hC := cell_of b2
  have z1 : w.heap.size < w2.heap.size := by have := b2.size; simp at this; omega
  have z2 : w.heap.size + 1 < w2.heap.size := by have := b2.size; simp at this; omega
  go_wp2_with fail
  refine (eq_pairs _ K K').mono ?_
  rintro e w3 ⟨rfl, b3⟩
  have B3 := (B2.trans (b2.mono B2.size)).trans (b3.mono (B2.trans (b2.mono B2.size)).size)
  clear K K' hC b2 b3 B2
  go_wp2_with fail
  go_ret
  exact ⟨rfl, B3⟩
set_option maxHeartbeats 1600000 in
theorem toWish {A E : Option Addr} {n c m d : Nat} {x : Wi} (w : World) (h : Sl RI 1 w w.heap.size A n c x.list) (g : Sl RP 2 w w.heap.size E m d x.pairs) (ht : x.list.length + x.pairs.length ≤ 1048576) :
    Calls Try.prog 61 #[.agg #[.int .i64 x.kind, .int .i64 x.field, .int .i64 x.value, .slice A n c, .slice E m d]] w (RetWO w x) := by
  have hn : n ≤ 1048576 := by have := h.len; omega
  have hb3 : ∀ o1 o2 o3, Below w.heap.size w (((w.alloc o1).alloc o2).alloc o3) := fun o1 o2 o3 => (((Below.refl _ _).alloc (Nat.le_refl _) _).alloc (by simp) _).alloc (by simp; omega) _
  go_enter Try.func61, Try.ntmps61
  go_wp2_with fail
  refine (toIntS _ (h.on RI.keeps (hb3 _ _ _)) hn).mono ?_
  rintro e w1 ⟨v1, rfl, ho1, b1⟩
  obtain ⟨A1, c1, rfl, _, _⟩ := own_form ho1
  have B0 := hb3 (.cells [Value.int .i64 x.kind, .int .i64 x.field, .int .i64 x.value, .slice A n c, .slice E m d].toArray 47) (.cells [Value.int .i64 0, .int .i64 0, .int .i64 0, .slice none 0 0, .slice none 0 0].toArray 53) (.cells [Value.int .i64 x.kind, .int .i64 x.field, .int .i64 x.value, .slice none 0 0, .slice none 0 0].toArray 53)
  have R0 := (((Row.new w 47 [.int .i64 x.kind, .int .i64 x.field, .int .i64 x.value, .slice A n c, .slice E m d]).alloc (.cells [Value.int .i64 0, .int .i64 0, .int .i64 0, .slice none 0 0, .slice none 0 0].toArray 53)).alloc (.cells [Value.int .i64 x.kind, .int .i64 x.field, .int .i64 x.value, .slice none 0 0, .slice none 0 0].toArray 53)).below b1 (by simp; omega)
  have R1 := ((Row.new (w.alloc (.cells [Value.int .i64 x.kind, .int .i64 x.field, .int .i64 x.value, .slice A n c, .slice E m d].toArray 47)) 53 [.int .i64 0, .int .i64 0, .int .i64 0, .slice none 0 0, .slice none 0 0]).alloc (.cells [Value.int .i64 x.kind, .int .i64 x.field, .int .i64 x.value, .slice none 0 0, .slice none 0 0].toArray 53)).below b1 (by simp)
  have R2 := (Row.new ((w.alloc (.cells [Value.int .i64 x.kind, .int .i64 x.field, .int .i64 x.value, .slice A n c, .slice E m d].toArray 47)).alloc (.cells [Value.int .i64 0, .int .i64 0, .int .i64 0, .slice none 0 0, .slice none 0 0].toArray 53)) 53 [.int .i64 x.kind, .int .i64 x.field, .int .i64 x.value, .slice none 0 0, .slice none 0 0]).below b1 (by simp)
  have BB := B0.trans (b1.mono B0.size)
  simp only [World.size_alloc] at R1 R2 ho1
  have K0 := Lib.hid (R0.far (p := ⟨w.heap.size + 1 + 1, 3, none⟩) (by simp; omega) (.slice A1 x.list.length c1))
  have K1 := Lib.hid (R1.far (p := ⟨w.heap.size + 1 + 1, 3, none⟩) (by simp) (.slice A1 x.list.length c1))
  have K2 := Lib.hid (R2.set 3 (.slice A1 x.list.length c1))
  have KO := Lib.hid (ownsRow_setCell_below ho1 (a := ⟨w.heap.size + 1 + 1, 3, none⟩) (by simp) (.slice A1 x.list.length c1))
  have KB := Lib.hid (BB.setCell (p := ⟨w.heap.size + 1 + 1, 3, none⟩) (by simp; omega) (.slice A1 x.list.length c1))
  have c23 := R2.cell 3
  have f23 := R2.free 3
  have c04 := R0.cell 4
  simp at c23 c04
  have z2 := R2.lt
  have z0 := R0.lt
  have K := Lib.hid (g.on RP.keeps KB.out)
  clear R0 R1 R2 b1 ho1 B0 BB hb3 h g
  go_wp2_with fail
  refine (toPairS _ K.out (by omega)).mono ?_
  rintro e w3 ⟨v2, rfl, ho2, b3⟩
  obtain ⟨E2, d2, rfl, _, _⟩ := own_form ho2
  have BB := KB.out.trans (b3.mono KB.out.size)
  have R1 := K1.out.below b3 K1.out.lt
  have R2 := K2.out.below b3 K2.out.lt
  have HFar : Hid (Far (.slice A1 x.list.length c1) (.slice E2 x.pairs.length d2)) := by
    cases hv : (Value.slice A1 x.list.length c1).ownBlock with
    | none => exact .inl hv
    | some g =>
      refine .inr fun hh => ?_
      rw [hv] at hh
      have g1 := (KO.out.lt g hv).2
      have g2 := (ho2.lt g hh.symm).1
      omega
  have O1 := Lib.hid (own_below KO.out b3)
  have O2 := Lib.hid ho2
  have c13 := R2.cell 0
  have c20 := R2.cell 0
  have c21 := R2.cell 1
  have c22 := R2.cell 2
  have c23' := R2.cell 3
  have c24 := R2.cell 4
  have f24 := R2.free 4
  have c10 := R1.cell 0
  have c11 := R1.cell 1
  have c12 := R1.cell 2
  have c13 := R1.cell 3
  have c14 := R1.cell 4
  have f10 := R1.free 0
  have f11 := R1.free 1
  have f12 := R1.free 2
  have f13 := R1.free 3
  have f14 := R1.free 4
  simp at c20 c21 c22 c23' c24 c10 c11 c12 c13 c14
  have z3 := R2.lt
  have z4 := R1.lt
  have HBB := Lib.hid BB
  have hbase : w.heap.size + 1 + 1 < (w1.setCell ⟨w.heap.size + 1 + 1, 3, none⟩ (.slice A1 x.list.length c1)).heap.size := by simpa using z2
  clear K0 K1 K2 KO KB K b3 ho2 BB R1 R2 c23 f23 c04 z2 z0
  go_wp2
  refine bodyPost_ret (v := .agg #[.int .i64 x.kind, .int .i64 x.field, .int .i64 x.value, .slice A1 x.list.length c1, .slice E2 x.pairs.length d2]) (by simp [results, Try.results61, go_sem, c10, c11, c12, c13, c14]) rfl ?_
  refine ⟨_, _, rfl, OwnW.mono (lo := w.heap.size + 1 + 1 + 1) ⟨?_, ?_, HFar.out⟩ (by omega), ?_⟩
  · exact ownsRow_setCell_below (ownsRow_setCell_below (ownsRow_setCell_below (ownsRow_setCell_below (ownsRow_setCell_below (ownsRow_setCell_below O1.out (by simp) _) (by simp) _) (by simp) _) (by simp) _) (by simp) _) (by simp) _
  · exact ownsRow_setCell_below (ownsRow_setCell_below (ownsRow_setCell_below (ownsRow_setCell_below (ownsRow_setCell_below (ownsRow_setCell_below (own_mono O2.out (by omega)) (by simp) _) (by simp) _) (by simp) _) (by simp) _) (by simp) _) (by simp) _
  · exact (((((HBB.out.setCell (p := ⟨w.heap.size + 1 + 1, 4, none⟩) (by simp; omega) _).setCell (p := ⟨w.heap.size + 1, 0, none⟩) (by simp) _).setCell (p := ⟨w.heap.size + 1, 1, none⟩) (by simp) _).setCell (p := ⟨w.heap.size + 1, 2, none⟩) (by simp) _).setCell (p := ⟨w.heap.size + 1, 3, none⟩) (by simp) _).setCell (p := ⟨w.heap.size + 1, 4, none⟩) (by simp) _
theorem to_wish {A E : Option Addr} {n c m d : Nat} {x : Wi} (w : World) (h : Sl RI 1 w w.heap.size A n c x.list) (g : Sl RP 2 w w.heap.size E m d x.pairs) (ht : x.list.length + x.pairs.length ≤ 1048576) :
    Calls Try.prog 61 #[.agg #[.int .i64 x.kind, .int .i64 x.field, .int .i64 x.value, .slice A n c, .slice E m d]] w (RetW w x) :=
  (toWish w h g ht).mono fun e w' ⟨u, v, he, ho, hb⟩ => by
    obtain ⟨⟨A', n', c', rfl, r1⟩, ⟨E', m', d', rfl, r2⟩⟩ := ho.read ⟨V.fit ⟨A, n, c, rfl, h⟩, fitPairs g⟩
    exact ⟨A', n', c', E', m', d', he, r1, r2, hb⟩
end Go.Proofs.Ytgjghpaenliliaa.Wk
