/-
  Lists of items that a call laid, between two block numbers: carried on, marked, read.
  Conditions: none beyond the bounds that each states.
-/
import Derived.Test.YtncaamjmidmmdaaU5
import Derived.Test.YtncaamjmidmmdaaU1
namespace Go.Proofs.Ytncaamjmidmmdaa.Wk
open Go.RowKit Go.Proofs.Ytncaamjmidmmdaa.M
set_option linter.unusedVariables false

theorem itc_set1 (ps : List (Int × Value)) : ∀ (k : Nat) (p : Int × Value) (a : Int), ps[k]? = some p → (itc ps).set (k * 2) (.int .i64 a) = itc (ps.set k (a, p.2)) := by
  induction ps with
  | nil => intro k p a h; simp at h
  | cons b t ih =>
    intro k p a h
    cases k with
    | zero => simp at h; subst h; simp [itc]
    | succ k =>
      have := ih k p a (by simpa using h)
      simp only [itc, List.flatMap_cons, List.set_cons_succ] at this ⊢
      rw [show (k + 1) * 2 = k * 2 + 1 + 1 by omega, List.cons_append, List.cons_append, List.nil_append, List.set_cons_succ, List.set_cons_succ, this]
      rfl
theorem set_same {α : Type} {l : List α} {i : Nat} {x : α} (h : l[i]? = some x) : l.set i x = l := by
  apply List.ext_getElem?
  intro t
  rw [List.getElem?_set]
  by_cases e : i = t
  · subst e
    rw [if_pos rfl, if_pos (List.getElem?_eq_some_iff.1 h).1, h]
  · rw [if_neg e]
/-- Rows that share no block: what turns one of them leaves the others. -/
theorem apart_ne {vs : List Value} (h : Apart vs) {i j : Nat} {a b : Value} (hij : i ≠ j) (ha : vs[i]? = some a) (hb : vs[j]? = some b) : ∀ g, b.ownBlock = some g → ¬ (a.ownBlock = some g) := by
  intro g hg hh
  rcases Nat.lt_or_ge i j with hlt | hge
  · rcases h i j a b hlt ha hb with h1 | h1
    · rw [hh] at h1; cases h1
    · exact h1 (hh.trans hg.symm)
  · rcases h j i b a (by omega) hb ha with h1 | h1
    · rw [hg] at h1; cases h1
    · exact h1 (hg.trans hh.symm)
def OwnIs (w : World) (lo hi : Nat) (v : Value) (l : List It) : Prop :=
  ∃ ps : List (Int × Value), ps.length = l.length ∧ (∀ (i : Nat) (x : It), l[i]? = some x → ∃ u, ps[i]? = some (x.id, u) ∧ w.ownsRow lo 3 1 u x.vals.length (x.vals.map (Value.int .i64)) ∧ Und u hi) ∧ Apart (ps.map (·.2)) ∧
    w.ownsRow lo 27 2 v l.length (itc ps) ∧ Und v hi ∧ ∀ u ∈ ps.map (·.2), u.ownBlock = none ∨ u.ownBlock ≠ v.ownBlock
def RetIts2 (w : World) (l : List It) (e : Ending) (w' : World) : Prop := ∃ v, e = .returned v ∧ OwnIs w' w.heap.size w'.heap.size v l ∧ Below w.heap.size w w'
section
variable {w w' : World} {lo hi lo' hi' : Nat} {v : Value} {l : List It}
theorem OwnIs.of (h : OwnIts w lo 27 3 v l) : OwnIs w lo w.heap.size v l := by
  obtain ⟨ps, ⟨h1, h2, h3⟩, h4, h5⟩ := h
  refine ⟨ps, h1, fun i x hx => ?_, h3, h4, own_und h4, h5⟩
  obtain ⟨u, e, ho⟩ := h2 i x hx
  exact ⟨u, e, own_mono ho (by omega), own_und ho⟩
theorem OwnIs.below (h : OwnIs w lo hi v l) (hb : Below w.heap.size w w') : OwnIs w' lo hi v l := by
  obtain ⟨ps, h1, h2, h3, h4, h5, h6⟩ := h
  refine ⟨ps, h1, fun i x hx => ?_, h3, own_below h4 hb, h5, h6⟩
  obtain ⟨u, e, ho, hu⟩ := h2 i x hx
  exact ⟨u, e, own_below ho hb, hu⟩
theorem OwnIs.rng (h : OwnIs w lo hi v l) (hc : Chg (Rng lo' hi') w w') (hd : hi' ≤ lo ∨ hi ≤ lo') : OwnIs w' lo hi v l := by
  obtain ⟨ps, h1, h2, h3, h4, h5, h6⟩ := h
  refine ⟨ps, h1, fun i x hx => ?_, h3, own_rng h4 h5 hc hd, h5, h6⟩
  obtain ⟨u, e, ho, hu⟩ := h2 i x hx
  exact ⟨u, e, own_rng ho hu hc hd, hu⟩
theorem OwnIs.read (h : OwnIs w lo hi v l) (hf : ∀ x ∈ l, Fit x.id ∧ ∀ y ∈ x.vals, Fit y) : V RIt 2 w w.heap.size v l := by
  obtain ⟨ps, h1, h2, _, ho, _⟩ := h
  have e : (ps.map fun p => [Value.int .i64 p.1, p.2]).flatten = itc ps := by unfold itc; rw [List.flatMap_def]
  refine own_V (css := ps.map fun p => [Value.int .i64 p.1, p.2]) (by rw [e]; exact ho) (by simp [h1]) (fun i x cs hx hc => ?_)
  obtain ⟨u, hu, hr, _⟩ := h2 i x hx
  rw [List.getElem?_map, hu] at hc
  simp at hc
  subst hc
  obtain ⟨f1, f2⟩ := hf x (List.mem_of_getElem? hx)
  exact ⟨rfl, u, rfl, f1, own_ints hr f2⟩
end
theorem fitItsV {w : World} {B : Nat} {v : Value} {l : List It} (h : V RIt 2 w B v l) : ∀ x ∈ l, Fit x.id ∧ ∀ y ∈ x.vals, Fit y := by
  obtain ⟨A, n, c, rfl, hs⟩ := h
  exact fitIts hs
theorem toO_items {v : Value} {l : List It} (w : World) (h : V RIt 2 w w.heap.size v l) (ht : totI l ≤ 1048576) : Calls Try.prog 17 #[v] w (RetIts2 w l) := by
  obtain ⟨A, n, c, rfl, hs⟩ := h
  exact (toItemS w hs ht).mono fun e w' ⟨v, he, ho, hb⟩ => ⟨v, he, OwnIs.of ho, hb⟩
theorem szV_items {v : Value} {l : List It} {left : Int} (w : World) (h : V RIt 2 w w.heap.size v l) (h0 : 0 ≤ left) (h1 : left ≤ 1048576) :
    Calls Try.prog 15 #[v, .int .i64 left] w fun e w' => e = .returned (.int .i64 (less left (totI l))) ∧ Below w.heap.size w w' := by
  obtain ⟨A, n, c, rfl, hs⟩ := h
  exact sz_items w hs h0 h1
theorem eqO_items {lo hi B : Nat} {v u : Value} {l : List It} (w : World) (h : OwnIs w lo hi v l) (hf : ∀ x ∈ l, Fit x.id ∧ ∀ y ∈ x.vals, Fit y) (h' : V RIt 2 w B u l) (hB : B ≤ w.heap.size) :
    Calls Try.prog 19 #[v, u] w fun e w' => e = .returned (.bool true) ∧ Below w.heap.size w w' := by
  obtain ⟨A, n, c, rfl, hs⟩ := h.read hf
  obtain ⟨A', n', c', rfl, hs'⟩ := h'
  exact eq_items w hs (hs'.more RIt.keeps hB)
set_option maxHeartbeats 1600000 in
set_option maxRecDepth 100000 in
theorem mark_items {lo hi : Nat} {v : Value} {l : List It} {k : Int} (w : World) (h : OwnIs w lo hi v l) (h0 : 0 ≤ k) (h1 : k + totI l ≤ 4611686018427387904) :
    Calls Try.prog 25 #[v, .int .i64 k] w fun e w' => e = .returned (.int .i64 (k + totI l)) ∧ True ∧ Chg (Rng lo hi) w w' := by
  obtain ⟨ps, hpl, hin, hap, hout, huv, hfar⟩ := h
  have HT := Lib.hid (totI_eq l)
  have HV := Lib.hid (valsOf_le l)
  obtain ⟨n, hn⟩ : ∃ n, l.length = n := ⟨_, rfl⟩
  have HN := Lib.hid hn
  rw [hn] at hout
  obtain ⟨A, c, rfl, hle, hmx⟩ := own_form hout
  have HIN : Hid (∀ (j : Nat) (x : It) (u : Value), l[j]? = some x → (ps.map (fun p : Int × Value => p.2))[j]? = some u → ∃ ys : List Int, ys.length = x.vals.length ∧ w.ownsRow lo 3 1 u x.vals.length (ys.map (Value.int .i64))) := by
    intro j x u hx hu
    obtain ⟨u', e, ho, _⟩ := hin j x hx
    rw [List.getElem?_map, e] at hu
    simp at hu
    subst hu
    exact ⟨x.vals, rfl, ho⟩
  have HUS : Hid (∀ (j : Nat) (x : It), l[j]? = some x → ∃ u, (ps.map (fun p : Int × Value => p.2))[j]? = some u ∧ Und u hi) := by
    intro j x hx
    obtain ⟨u', e, _, hu⟩ := hin j x hx
    exact ⟨u', by rw [List.getElem?_map, e]; rfl, hu⟩
  have HAP := Lib.hid hap
  have HFAR := Lib.hid hfar
  have HPL : Hid (ps.length = n) := hpl.trans hn
  obtain ⟨us, hus⟩ : ∃ us, ps.map (·.2) = us := ⟨_, rfl⟩
  have HQ : Hid (ps.map (·.2) = us) := hus
  rw [hus] at HIN HUS HAP HFAR
  clear hin hap hfar hpl hn hus
  go_enter Try.func25, Try.ntmps25
  go_wp2
  go_loopw [1, 5] (fun vk vi wr => ∃ (i : Nat) (qs : List (Int × Value)), i ≤ n ∧ vi = .int .i64 i ∧ vk = .int .i64 (k + i + valsOf l i) ∧ Hid (qs.map (·.2) = us) ∧ Hid (qs.length = n) ∧ wr.ownsRow lo 27 2 (.slice A n c) n (itc qs) ∧
    Hid (∀ (j : Nat) (x : It) (u : Value), l[j]? = some x → us[j]? = some u → ∃ ys : List Int, ys.length = x.vals.length ∧ wr.ownsRow lo 3 1 u x.vals.length (ys.map (Value.int .i64))) ∧ Chg (Rng lo hi) w wr) (fun _ vi _ => n - (intOf vi).toNat)
  case atStart => exact ⟨0, ps, Nat.zero_le _, rfl, vint (by simp [valsOf]), HQ, HPL, hout, HIN, Chg.refl _ _⟩
  case round =>
    clear hout HIN HPL HQ
    obtain ⟨i, qs, hi', rfl, rfl, HQ, HPL, hown, HIN, hch⟩ := hrel
    have hvi := HV.out i
    have htl := HT.out
    rw [HN.out] at htl hvi
    by_cases hlt : i < n
    · obtain ⟨g, c', cs, e, hb, hn1, hn2, hR, hL⟩ := own_row hown (by omega)
      injection e with e1 e2 e3
      subst e1 e3
      obtain ⟨x, hx⟩ : ∃ x, l[i]? = some x := ⟨_, List.getElem?_eq_getElem (by have := HN.out; omega)⟩
      obtain ⟨u, hu, huh⟩ := HUS.out i x hx
      obtain ⟨ys, hyl, hyo⟩ := HIN.out i x u hx hu
      obtain ⟨q, hq⟩ : ∃ q, qs[i]? = some q := ⟨_, List.getElem?_eq_getElem (by have := HPL.out; omega)⟩
      obtain rfl : q.2 = u := by
        have := HQ.out
        rw [← this, List.getElem?_map, hq] at hu
        simpa using hu
      have hgh : g < hi := huv g rfl
      have hug : ¬ (q.2.ownBlock = some g) := fun hh => by
        rcases HFAR.out q.2 (List.mem_of_getElem? hu) with h2 | h2
        · rw [hh] at h2; cases h2
        · exact h2 hh
      obtain ⟨i0', i1'⟩ := itc_at _ _ _ hq
      have hil := itc_len qs
      have hpl := HPL.out
      have hc0 : wr.cell? ⟨g, i * 2, none⟩ = some (.int .i64 q.1) := by
        rw [hR.cell, List.getElem?_append_left (by omega)]; exact i0'
      have hc1 : wr.cell? ⟨g, i * 2 + 1, none⟩ = some q.2 := by
        rw [hR.cell, List.getElem?_append_left (by omega)]; exact i1'
      have hf0 := hR.free (i * 2)
      have hlw := hR.lt
      have R2 : Row (wr.setCell ⟨g, i * 2, none⟩ (.int .i64 (k + i + valsOf l i))) g 27 (itc (qs.set i (k + i + valsOf l i, q.2)) ++ cs) := by
        have := hR.set (i * 2) (.int .i64 (k + i + valsOf l i))
        rwa [set_app (by omega), itc_set1 _ _ _ _ hq] at this
      have CH1 := Lib.hid ((Chg.refl (fun b => b = g) wr).setCell (p := ⟨g, i * 2, none⟩) rfl (.int .i64 (k + i + valsOf l i)))
      have hyo1 := own_chg hyo CH1.out (fun b hb2 hh => by subst hh; exact hug hb2)
      have CH2 := Lib.hid (hch.setCell (p := ⟨g, i * 2, none⟩) ⟨hb, hgh⟩ (.int .i64 (k + i + valsOf l i)))
      have HR2 := Lib.hid R2
      have HQ2 : Hid ((qs.set i (k + i + valsOf l i, q.2)).map (·.2) = us) := by
        show _ = _
        rw [List.map_set, HQ.out]
        exact set_same hu
      have HVS := Lib.hid (valsOf_succ hx)
      have HVS2 := HV.out (i + 1)
      rw [HN.out] at HVS2
      have HX := Lib.hid hx
      have HU := Lib.hid hu
      have hn2' := hn2
      unfold maxLen at hn2'
      obtain ⟨A', c'', hv', _, _⟩ := own_form hyo1
      rw [hv'] at hc1
      go_wp2_with fail
      rw [← hv']
      refine (markIntS (xs := ys) _ (by rw [hyl]; exact hyo1) (by omega) (by rw [hyl]; have := HVS.out; omega)).mono ?_
      rintro e w2 ⟨rfl, ho2, c2⟩
      rw [hyl] at ho2 ⊢
      have R3 := HR2.out.chg c2 hug
      have C3 := CH2.out.trans (blk_rng (lo := lo) hyo1 huh c2)
      have O3 := Lib.hid (row_own (base := lo) (n := n) (sz := 2) R3 (by rw [itc_len, List.length_set, HPL.out]) hb hn1 hn2 (by rw [List.length_append, itc_len] at hL ⊢; rw [List.length_set]; exact hL))
      have HIN3 : Hid (∀ (j : Nat) (x : It) (u : Value), l[j]? = some x → us[j]? = some u → ∃ ys : List Int, ys.length = x.vals.length ∧ w2.ownsRow lo 3 1 u x.vals.length (ys.map (Value.int .i64))) := by
        intro j y z hy hz
        by_cases hij : j = i
        · subst hij
          rw [HX.out] at hy
          rw [HU.out] at hz
          injection hy with hy
          injection hz with hz
          subst hy hz
          exact ⟨_, by rw [allI_len], ho2⟩
        · obtain ⟨zs, hzl, hzo⟩ := HIN.out j y z hy hz
          refine ⟨zs, hzl, own_chg (own_chg hzo CH1.out (fun b hb2 hh => ?_)) c2 (apart_ne HAP.out (fun e => hij e.symm) HU.out hz)⟩
          subst hh
          rcases HFAR.out z (List.mem_of_getElem? hz) with h2 | h2
          · rw [hb2] at h2; cases h2
          · exact h2 hb2
      have HPL3 : Hid ((qs.set i (k + i + valsOf l i, q.2)).length = n) := by show _ = _; rw [List.length_set]; exact HPL.out
      clear hR R2 hown hch hu hx hq hyo hyo1 ho2 hL R3 c2 HIN hc0 hc1 i0' i1'
      go_wp2
      go_roundw
      case rel => exact ⟨i + 1, _, by omega, by go_num, vint (by have := HVS.out; omega), HQ2, HPL3, O3.out, HIN3, C3⟩
      case measure => simp [intOf]; omega
    · have hin : i = n := by omega
      have HE : Hid (k + i + (valsOf l i : Int) = k + totI l) := by
        show _ = _
        have := HT.out
        rw [HN.out] at this
        rw [hin]; omega
      unfold maxLen at hmx
      clear hown
      go_wp2
      go_ret
      exact ⟨ret_int HE.out, trivial, hch⟩
end Go.Proofs.Ytncaamjmidmmdaa.Wk
