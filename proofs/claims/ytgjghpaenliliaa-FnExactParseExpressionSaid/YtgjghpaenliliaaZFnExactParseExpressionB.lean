/-
  The given statement on laws.FnExactParseExpression: for every input that the row speaks of, the call returns true and the arguments read as before.
  Conditions: none beyond the row's own.
-/
import Derived.Test.YtgjghpaenliliaaZFnExactParseExpressionA
import Derived.Test.YtgjghpaenliliaaP4
import Derived.Test.YtgjghpaenliliaaW16
import Derived.Test.YtgjghpaenliliaaM7
import Derived.Test.YtgjghpaenliliaaP7
import Derived.Test.YtgjghpaenliliaaO1
import Derived.Test.YtgjghpaenliliaaW12
import Derived.Test.YtgjghpaenliliaaW30
import Derived.Test.YtgjghpaenliliaaU1
namespace Go.Proofs.Ytgjghpaenliliaa.Wk
open Go.RowKit Go.Proofs.Ytgjghpaenliliaa.M
set_option linter.unusedVariables false
set_option linter.unusedSimpArgs false
attribute [local go_sem] cell_grow

/-- It returns a wish by value, its rows the call's own, and a truth value. -/
def RetWB (w : World) (x : Wi) (b : Bool) (e : Ending) (w' : World) : Prop := ∃ u v, e = .returned (.tuple #[.agg #[.int .i64 x.kind, .int .i64 x.field, .int .i64 x.value, u, v], .bool b]) ∧ OwnW w' w.heap.size 3 92 x u v ∧ Below w.heap.size w w'
theorem ownW_nil (w : World) (lo : Nat) : OwnW w lo 3 92 zeroW (.slice none 0 0) (.slice none 0 0) := ⟨World.ownsRow_nil _ _ _ _, World.ownsRow_nil _ _ _ _, .inl rfl⟩
theorem far_nilR (u : Value) : Far u (.slice none 0 0) := by
  cases h : u.ownBlock with
  | none => exact .inl h
  | some g => exact .inr (by rw [h]; intro e; cases e)
theorem ret_wb {x y : Wi} {b c : Bool} {u v : Value} (h : x = y ∧ b = c) : Ending.returned (.tuple #[.agg #[.int .i64 x.kind, .int .i64 x.field, .int .i64 x.value, u, v], .bool b]) = .returned (.tuple #[.agg #[.int .i64 y.kind, .int .i64 y.field, .int .i64 y.value, u, v], .bool c]) := by rw [h.1, h.2]
theorem below_dr76 {W w8 : World} (h : Below W.drew.heap.size W.drew w8) : Below W.heap.size W w8 := (Below.refl W.heap.size W).drew.trans h
section
variable {w w' : World} {v : Value} {b o : Nat}
theorem celA (h : w.cell? ⟨b, o, none⟩ = some v) (x : Obj) : (w.alloc x).cell? ⟨b, o, none⟩ = some v := by
  rw [World.cell?_alloc_lt _ _ _ (World.block_lt_of_cell? w _ h)]; exact h
theorem celB {B : Nat} (h : w.cell? ⟨b, o, none⟩ = some v) (hb : Below B w w') (hlt : b < B) : w'.cell? ⟨b, o, none⟩ = some v := ((cell_of hb) b o hlt).trans h
theorem celS {p : Addr} (h : w.cell? ⟨b, o, none⟩ = some v) (hne : p.block ≠ b) (u : Value) : (w.setCell p u).cell? ⟨b, o, none⟩ = some v := by
  rw [World.cell?_setCell_far _ _ _ _ hne]; exact h
end
theorem lit_yes {a : ByteArray} {l : List UInt8} (h : a = ⟨l.toArray⟩) : (a.toList == l) = true := by rw [h, ByteArray.toList_eq]; simp
theorem lit_no {a : ByteArray} {l : List UInt8} (h : a ≠ ⟨l.toArray⟩) : (a.toList == l) = false := by
  cases e : (a.toList == l) with
  | false => rfl
  | true =>
    rw [ByteArray.toList_eq, beq_iff_eq] at e
    exact absurd (P.ba_ext (by rw [e])) h
theorem l4Field (w : World) {b : ByteArray} (hs : b.size ≤ 1048576) : Calls Try.prog 102 #[.string b] w fun e w' => e = .returned (.int .i64 (fldS b)) ∧ Below w.heap.size w w' := by
  by_cases h2 : b.size < 2
  · have q : (b.size : Int) < 2 := by omega
    have HE : Hid (fldS b = -1) := by show _ = _; unfold fldS; rw [if_pos (.inl h2)]
    go_enter Try.func102, Try.ntmps102
    go_wp2
    go_ret
    exact ⟨ret_int HE.out.symm, Below.refl _ _⟩
  · have q : ¬ (b.size : Int) < 2 := by omega
    have h0 : 0 < b.size := by omega
    have hg := getD_of h0
    by_cases e : b[0].toNat = 102
    · have t : ((b[0].toNat : Int) != 102) = false := by rw [e]; simp
      have HE : Hid (fldS b = l2N (b.extract 1 b.size)) := by
        show _ = _
        unfold fldS
        rw [if_neg]
        rintro (h | h)
        · exact h2 h
        · exact h (by rw [hg]; exact UInt8.toNat_inj.1 e)
      have hxs : (b.extract 1 b.size).size ≤ maxLen := by rw [ByteArray.size_extract]; unfold maxLen; omega
      have q1 : (1 : Int) ≤ (b.size : Int) := by omega
      clear e hg
      go_enter Try.func102, Try.ntmps102
      go_wp2_with fail
      refine (l2Num _ hxs).mono ?_
      rintro e w2 ⟨rfl, b2⟩
      go_wp2
      go_ret
      exact ⟨ret_int HE.out.symm, b2⟩
    · have t : ((b[0].toNat : Int) != 102) = true := by simp; omega
      have HE : Hid (fldS b = -1) := by
        show _ = _
        unfold fldS
        rw [if_pos (.inr fun h => e (by rw [hg] at h; rw [h]; rfl))]
      clear e hg
      go_enter Try.func102, Try.ntmps102
      go_wp2
      go_ret
      exact ⟨ret_int HE.out.symm, Below.refl _ _⟩
set_option maxHeartbeats 1600000 in
set_option maxRecDepth 100000 in
theorem indexStrs {g n c : Nat} {E : TypeId} {ws : List ByteArray} {v : ByteArray} (w : World) (hr : Row w g E (ws.map Value.string)) (hn : ws.length = n) (hc : n ≤ c) (hb : n ≤ 100) :
    Calls Try.prog 53 #[.slice (some ⟨g, 0, none⟩) n c, .string v] w fun e w' => (∃ k : Int, e = .returned (.int .i64 k) ∧ ((∃ j : Nat, k = j ∧ ws[j]? = some v ∧ ∀ i, i < j → ws[i]? ≠ some v) ∨ (k = -1 ∧ v ∉ ws))) ∧ w = w' := by
  have HR := Lib.hid hr
  have hg := hr.lt
  go_enter Try.func53, Try.ntmps53
  go_wp2
  go_loop [5, 8] (fun _ vi => ∃ k : Nat, k ≤ n ∧ vi = .int .i64 k ∧ Hid (∀ i, i < k → ws[i]? ≠ some v)) (fun _ vi => n - (intOf vi).toNat)
  case atStart => exact ⟨0, Nat.zero_le _, rfl, fun i hi => absurd hi (Nat.not_lt_zero _)⟩
  case round =>
    obtain ⟨k, hk, rfl, HK⟩ := hrel
    by_cases hlt : k < n
    · have q1 : (k : Int) < (n : Int) := by omega
      have q2 : (n : Int) ≤ (c : Int) := by omega
      obtain ⟨t, ht⟩ : ∃ t, ws[k]? = some t := ⟨_, List.getElem?_eq_getElem (by omega)⟩
      have c0 : w.cell? ⟨g, k, none⟩ = some (.string t) := by rw [HR.out.cell, List.getElem?_map, ht]; rfl
      by_cases e : v = t
      · have HE : Hid (ws[k]? = some v) := by show _ = _; rw [ht, e]
        have q3 := ba_yes e
        clear e ht hr
        go_wp2
        go_ret
        exact ⟨⟨k, rfl, .inl ⟨k, rfl, HE.out, HK.out⟩⟩, rfl⟩
      · have HK2 : Hid (∀ i, i < k + 1 → ws[i]? ≠ some v) := by
          intro i hi h
          by_cases hik : i = k
          · subst hik; rw [ht] at h; injection h with h; exact e h.symm
          · exact HK.out i (by omega) h
        have q3 := ba_no e
        clear e ht hr
        go_wp2
        go_round
        case rel => exact ⟨k + 1, by omega, by go_num, HK2⟩
        case measure => simp [intOf]; omega
    · have hkn : k = n := by omega
      have q1 : ¬ (k : Int) < (n : Int) := by omega
      have HN : Hid (v ∉ ws) := by
        intro hm
        obtain ⟨i, hi⟩ := List.getElem?_of_mem hm
        exact HK.out i (by have := (List.getElem?_eq_some_iff.1 hi).1; omega) hi
      clear hr
      go_wp2
      go_ret
      exact ⟨⟨-1, rfl, .inr ⟨rfl, HN.out⟩⟩, rfl⟩
theorem idx5 {k : Int} {a : ByteArray} (h : (∃ j : Nat, k = j ∧ [kindW 0, kindW 1, kindW 2, kindW 3, kindW 4][j]? = some a ∧ ∀ i, i < j → [kindW 0, kindW 1, kindW 2, kindW 3, kindW 4][i]? ≠ some a) ∨ (k = -1 ∧ a ∉ [kindW 0, kindW 1, kindW 2, kindW 3, kindW 4])) : k = kindI a := by
  rcases h with ⟨j, rfl, h1, h2⟩ | ⟨rfl, h1⟩
  · have hj : j < 5 := (List.getElem?_eq_some_iff.1 h1).1
    rcases (by omega : j = 0 ∨ j = 1 ∨ j = 2 ∨ j = 3 ∨ j = 4) with rfl | rfl | rfl | rfl | rfl
    all_goals
      simp at h1
      subst h1
      rw [kindI_back (by omega)]
      rfl
  · simp only [List.mem_cons, List.not_mem_nil, or_false, not_or] at h1
    obtain ⟨a0, a1, a2, a3, a4⟩ := h1
    unfold kindI
    rw [if_neg a0, if_neg a1, if_neg a2, if_neg a3, if_neg a4]
theorem kindI_bd (a : ByteArray) : -1 ≤ kindI a ∧ kindI a ≤ 4 := by
  unfold kindI
  repeat' split
  all_goals omega
set_option maxHeartbeats 6400000 in
set_option maxRecDepth 100000 in
theorem specParseWish (w : World) {s : ByteArray} (hs : s.size ≤ 1048576) : Calls Try.prog 81 #[.string s] w (RetWB w (parW s) (parWB s)) := by
  obtain ⟨i0, hi, hz0, hz1, hz2⟩ := info_parts info_i2
  have HX := Lib.hid (P.cut_size s ⟨#[32]⟩)
  go_enter Try.func81, Try.ntmps81
  go_wp2_with fail
  refine (l2Cut _ (b := 32) hs).mono ?_
  rintro e w2 ⟨vp, rfl, hP, b2⟩
  have B2 := ((Below.refl w.heap.size w).alloc (Nat.le_refl _) (.cells #[.int .i64 0, .int .i64 0, .int .i64 0, .slice none 0 0, .slice none 0 0] 53)).trans (b2.mono (by simp))
  have R2 := (Row.new w 53 [.int .i64 0, .int .i64 0, .int .i64 0, .slice none 0 0, .slice none 0 0]).below b2 (by simp)
  obtain ⟨A, c, rfl, _, _⟩ := own_form hP.1
  obtain ⟨A', n', c', e', hS⟩ := own_strs hP.1 (fun x hx => by have := HX.out x hx; unfold maxLen; omega)
  injection e' with e1 e2 e3
  subst e1 e3
  have hsz2 := b2.size
  simp at hsz2
  have hnc := hS.le
  clear hP b2
  by_cases hl : (P.cut s ⟨#[32]⟩).length < 2 ∨ 3 < (P.cut s ⟨#[32]⟩).length
  · have HP : Hid (parW s = zeroW ∧ parWB s = false) := parW_bad (by rcases hl with h | h; exact .inl h; exact .inr (.inl h))
    obtain ⟨m, hm⟩ : ∃ m, (P.cut s ⟨#[32]⟩).length = m := ⟨_, rfl⟩
    rw [hm] at hl ⊢
    rcases hl with hl | hl
    · have q0 : (m : Int) < 2 := by omega
      have f0 := R2.free 0
      have f1 := R2.free 1
      have f2 := R2.free 2
      have f3 := R2.free 3
      have f4 := R2.free 4
      have hlt := R2.lt
      have c0 : w2.cell? ⟨w.heap.size, 0, none⟩ = some (.int .i64 0) := R2.cell 0
      have c1 : w2.cell? ⟨w.heap.size, 1, none⟩ = some (.int .i64 0) := R2.cell 1
      have c2 : w2.cell? ⟨w.heap.size, 2, none⟩ = some (.int .i64 0) := R2.cell 2
      have c3 : w2.cell? ⟨w.heap.size, 3, none⟩ = some (.slice none 0 0) := R2.cell 3
      have c4 : w2.cell? ⟨w.heap.size, 4, none⟩ = some (.slice none 0 0) := R2.cell 4
      have BN := Lib.hid (((((B2.setCell (p := ⟨w.heap.size, 0, none⟩) (Nat.le_refl _) (.int .i64 0)).setCell (p := ⟨w.heap.size, 1, none⟩) (Nat.le_refl _) (.int .i64 0)).setCell (p := ⟨w.heap.size, 2, none⟩) (Nat.le_refl _) (.int .i64 0)).setCell (p := ⟨w.heap.size, 3, none⟩) (Nat.le_refl _) (.slice none 0 0)).setCell (p := ⟨w.heap.size, 4, none⟩) (Nat.le_refl _) (.slice none 0 0))
      go_wp2
      refine bodyPost_ret (v := .tuple #[.agg #[.int .i64 0, .int .i64 0, .int .i64 0, .slice none 0 0, .slice none 0 0], .bool false]) (by simp [results, Try.results81, go_sem, c0, c1, c2, c3, c4]) rfl ?_
      refine ⟨_, _, ret_wb (x := zeroW) (u := .slice none 0 0) (v := .slice none 0 0) (b := false) ⟨HP.out.1.symm, HP.out.2.symm⟩, ?_, BN.out⟩
      rw [HP.out.1]; exact ownW_nil _ _
    · have q0 : ¬ (m : Int) < 2 := by omega
      have q1 : 3 < (m : Int) := by omega
      have f0 := R2.free 0
      have f1 := R2.free 1
      have f2 := R2.free 2
      have f3 := R2.free 3
      have f4 := R2.free 4
      have hlt := R2.lt
      have c0 : w2.cell? ⟨w.heap.size, 0, none⟩ = some (.int .i64 0) := R2.cell 0
      have c1 : w2.cell? ⟨w.heap.size, 1, none⟩ = some (.int .i64 0) := R2.cell 1
      have c2 : w2.cell? ⟨w.heap.size, 2, none⟩ = some (.int .i64 0) := R2.cell 2
      have c3 : w2.cell? ⟨w.heap.size, 3, none⟩ = some (.slice none 0 0) := R2.cell 3
      have c4 : w2.cell? ⟨w.heap.size, 4, none⟩ = some (.slice none 0 0) := R2.cell 4
      have BN := Lib.hid (((((B2.setCell (p := ⟨w.heap.size, 0, none⟩) (Nat.le_refl _) (.int .i64 0)).setCell (p := ⟨w.heap.size, 1, none⟩) (Nat.le_refl _) (.int .i64 0)).setCell (p := ⟨w.heap.size, 2, none⟩) (Nat.le_refl _) (.int .i64 0)).setCell (p := ⟨w.heap.size, 3, none⟩) (Nat.le_refl _) (.slice none 0 0)).setCell (p := ⟨w.heap.size, 4, none⟩) (Nat.le_refl _) (.slice none 0 0))
      go_wp2
      refine bodyPost_ret (v := .tuple #[.agg #[.int .i64 0, .int .i64 0, .int .i64 0, .slice none 0 0, .slice none 0 0], .bool false]) (by simp [results, Try.results81, go_sem, c0, c1, c2, c3, c4]) rfl ?_
      refine ⟨_, _, ret_wb (x := zeroW) (u := .slice none 0 0) (v := .slice none 0 0) (b := false) ⟨HP.out.1.symm, HP.out.2.symm⟩, ?_, BN.out⟩
      rw [HP.out.1]; exact ownW_nil _ _
  · have h2 : 2 ≤ (P.cut s ⟨#[32]⟩).length := by omega
    have HE := Lib.hid (fun (y : Wi) hb => parW_end (s := s) (y := y) h2 hb)
    obtain ⟨a, b, rest, hab, hrl⟩ : ∃ a b rest, P.cut s ⟨#[32]⟩ = a :: b :: rest ∧ rest.length ≤ 1 := by
      match hc : P.cut s ⟨#[32]⟩, hl, h2 with
      | a :: b :: rest, hl, _ => exact ⟨a, b, rest, rfl, by simp at hl; omega⟩
    rw [hab] at HE
    have has : a.size ≤ 1048576 := Nat.le_trans (HX.out a (by rw [hab]; simp)) hs
    have hbs : b.size ≤ 1048576 := Nat.le_trans (HX.out b (by rw [hab]; simp)) hs
    obtain ⟨m, hm⟩ : ∃ m, rest.length + 1 + 1 = m := ⟨_, rfl⟩
    have hlen : (P.cut s ⟨#[32]⟩).length = m := by rw [hab]; exact hm
    rw [hlen] at e2 ⊢
    subst e2
    have hm2 : 2 ≤ m := by omega
    have hm3 : m ≤ 3 := by omega
    obtain ⟨bb, o, x, rfl, hbb, hx0, _, hc0⟩ := hS.str (k := 0) (by omega)
    obtain ⟨bb1, o1, x1, hbe, _, hx1, _, hc1⟩ := hS.str (k := 1) (by omega)
    injection hbe with hbe
    injection hbe with hbe1 hbe2 _
    subst hbe1 hbe2
    rw [hab] at hx0 hx1
    simp at hx0 hx1
    subst hx0 hx1
    rw [Nat.add_zero] at hc0
    have HC2 : Hid (∀ c, rest = [c] → w2.cell? ⟨bb, o + 2, none⟩ = some (.string c)) := by
      rintro c rfl
      obtain ⟨bb2, o2, x2, hbe, _, hx2, _, hc2⟩ := hS.str (k := 2) (by simp at hm; omega)
      injection hbe with hbe
      injection hbe with hbe1 hbe2 _
      subst hbe1 hbe2
      rw [hab] at hx2
      simp at hx2
      subst hx2
      exact hc2
    have HAB := Lib.hid hab
    have HRC : Hid (∀ c, rest = [c] → c.size ≤ 1048576) := fun c hc => Nat.le_trans (HX.out c (by rw [HAB.out, hc]; simp)) hs
    clear hl h2 hab hS
    have p2 : (2 : Int) ≤ (m : Int) := by omega
    have p3 : (m : Int) ≤ 3 := by omega
    have p1 : (1 : Int) < (m : Int) := by omega
    have p0 : (0 : Int) < (m : Int) := by omega
    have p4 : (m : Int) ≤ (c : Int) := by omega
    have q0 : ¬ (m : Int) < 2 := by omega
    have q1 : ¬ 3 < (m : Int) := by omega
    go_wp2_with fail
    refine (l4Field _ hbs).mono ?_
    rintro e w3 ⟨rfl, b3⟩
    obtain ⟨fl, hfl⟩ : ∃ fl, fldS b = fl := ⟨_, rfl⟩
    have FL : Fit fl := by
      rw [← hfl]
      unfold fldS
      split
      · unfold Fit; omega
      · exact l2N_fit _
    rw [hfl]
    have hsz3 := b3.size
    have R3 := Lib.hid (R2.below b3 (by omega))
    have X3 := Lib.hid (Row.new w3 53 [.int .i64 0, .int .i64 fl, .int .i64 0, .slice none 0 0, .slice none 0 0])
    have B3 := Lib.hid (B2.trans (b3.mono (by omega)))
    have hlw : w.heap.size ≤ w3.heap.size := by omega
    have k0 := celB hc0 b3 hbb
    have HK2 : Hid (∀ c, rest = [c] → w3.cell? ⟨bb, o + 2, none⟩ = some (.string c)) := fun c hc => celB (HC2.out c hc) b3 hbb
    have hbb3 : bb < w3.heap.size := by omega
    have hlo : w.heap.size < w3.heap.size + 1 := by omega
    clear hc0 hc1 HC2 b3 R2 B2
    have x0' : (w3.alloc (.cells #[.int .i64 0, .int .i64 fl, .int .i64 0, .slice none 0 0, .slice none 0 0] 53)).cell? ⟨w3.heap.size, 0, none⟩ = some (.int .i64 0) := X3.out.cell 0
    by_cases hr0 : rest = []
    · have hm9 : m = 2 := by rw [hr0] at hm; simpa using hm.symm
      have t0 : ((m : Int) == 3) = false := by rw [hm9]; rfl
      have HCAND : Hid (∀ x, P.okW x = true → kindW x.kind :: fldW x.field :: argW x = a :: b :: rest → candS a b ⟨#[]⟩ = x) := fun x hx h => candS_two hx (by rw [h, hr0]) _
      have hargs : (⟨#[]⟩ : ByteArray).size ≤ maxLen := Nat.zero_le _
      have hargs2 : (⟨#[]⟩ : ByteArray).size ≤ 1048576 := Nat.zero_le _
      clear hm9
      by_cases n1 : a = kindW 1
      · have t1 : (a.toList == [104, 105, 103, 104]) = true := lit_yes n1
        have HC : Hid (candS a b ⟨#[]⟩ = ⟨1, fl, 0, [], []⟩) := by show _ = _; unfold candS; rw [if_pos n1, hfl]
        have HEND : Hid ((wishS ⟨1, fl, 0, [], []⟩ = s → parW s = ⟨1, fl, 0, [], []⟩ ∧ parWB s = true) ∧ (wishS ⟨1, fl, 0, [], []⟩ ≠ s → parW s = zeroW ∧ parWB s = false)) := by
          have h9 := HE.out _ HCAND.out
          rw [HC.out] at h9
          exact h9
        have FF : Hid (FitW ⟨1, fl, 0, [], []⟩) := ⟨by unfold Fit; simp, FL, by unfold Fit; simp, by simp, by simp⟩
        have XX := Row.new w3 53 [.int .i64 1, .int .i64 fl, .int .i64 0, .slice none 0 0, .slice none 0 0]
        have RX := R3.out.alloc (.cells #[.int .i64 1, .int .i64 fl, .int .i64 0, .slice none 0 0, .slice none 0 0] 53)
        have BB := B3.out.alloc hlw (.cells #[.int .i64 1, .int .i64 fl, .int .i64 0, .slice none 0 0, .slice none 0 0] 53)
        have fr0 := X3.out.free 0
        have xlt := X3.out.lt
        have OL : ((w3.alloc (.cells #[.int .i64 1, .int .i64 fl, .int .i64 0, .slice none 0 0, .slice none 0 0] 53))).ownsRow (w3.heap.size + 1) 3 1 (.slice none 0 0) 0 (([] : List Int).map (Value.int .i64)) := World.ownsRow_nil _ _ _ _
        have S1 : Sl RI 1 ((w3.alloc (.cells #[.int .i64 1, .int .i64 fl, .int .i64 0, .slice none 0 0, .slice none 0 0] 53))) ((w3.alloc (.cells #[.int .i64 1, .int .i64 fl, .int .i64 0, .slice none 0 0, .slice none 0 0] 53))).heap.size none 0 0 [] := Sl.nil _ _
        have OP : ((w3.alloc (.cells #[.int .i64 1, .int .i64 fl, .int .i64 0, .slice none 0 0, .slice none 0 0] 53))).ownsRow (w3.heap.size + 1) 92 2 (.slice none 0 0) 0 (prc []) := World.ownsRow_nil _ _ _ _
        have S2 : Sl RP 2 ((w3.alloc (.cells #[.int .i64 1, .int .i64 fl, .int .i64 0, .slice none 0 0, .slice none 0 0] 53))) ((w3.alloc (.cells #[.int .i64 1, .int .i64 fl, .int .i64 0, .slice none 0 0, .slice none 0 0] 53))).heap.size none 0 0 [] := Sl.nil _ _
        clear n1 hfl HK2
        have y0 : (w3.alloc (.cells #[.int .i64 1, .int .i64 fl, .int .i64 0, .slice none 0 0, .slice none 0 0] 53)).cell? ⟨w3.heap.size, 0, none⟩ = some (.int .i64 1) := XX.cell 0
        have y1 : (w3.alloc (.cells #[.int .i64 1, .int .i64 fl, .int .i64 0, .slice none 0 0, .slice none 0 0] 53)).cell? ⟨w3.heap.size, 1, none⟩ = some (.int .i64 fl) := XX.cell 1
        have y2 : (w3.alloc (.cells #[.int .i64 1, .int .i64 fl, .int .i64 0, .slice none 0 0, .slice none 0 0] 53)).cell? ⟨w3.heap.size, 2, none⟩ = some (.int .i64 0) := XX.cell 2
        have y3 : (w3.alloc (.cells #[.int .i64 1, .int .i64 fl, .int .i64 0, .slice none 0 0, .slice none 0 0] 53)).cell? ⟨w3.heap.size, 3, none⟩ = some (.slice none 0 0) := XX.cell 3
        have y4 : (w3.alloc (.cells #[.int .i64 1, .int .i64 fl, .int .i64 0, .slice none 0 0, .slice none 0 0] 53)).cell? ⟨w3.heap.size, 4, none⟩ = some (.slice none 0 0) := XX.cell 4
        have hltx := XX.lt
        have hltr := RX.lt
        have XH := Lib.hid XX
        have RH := Lib.hid RX
        have OLH := Lib.hid OL
        have OPH := Lib.hid OP
        have BH := Lib.hid BB
        clear XX RX OL OP BB
        go_wp2_with fail
        refine (specFormatWish (x := ⟨1, fl, 0, [], []⟩) _ S1 S2 FF.out.1 FF.out.2.1 FF.out.2.2.1).mono ?_
        rintro e w6 ⟨rfl, b6⟩
        clear y0 y1 y2 y3 y4 S1 S2
        have R6 := RH.out.below b6 hltr
        have X6 := XH.out.below b6 hltx
        have O6 := own_below OLH.out b6
        have P6 := own_below OPH.out b6
        have B6 := BH.out.trans (b6.mono BH.out.size)
        have f0 := R6.free 0
        have f1 := R6.free 1
        have f2 := R6.free 2
        have f3 := R6.free 3
        have f4 := R6.free 4
        have hlt := R6.lt
        have hlty := X6.lt
        have c0 : w6.cell? ⟨w.heap.size, 0, none⟩ = some (.int .i64 0) := R6.cell 0
        have c1 : w6.cell? ⟨w.heap.size, 1, none⟩ = some (.int .i64 0) := R6.cell 1
        have c2 : w6.cell? ⟨w.heap.size, 2, none⟩ = some (.int .i64 0) := R6.cell 2
        have c3 : w6.cell? ⟨w.heap.size, 3, none⟩ = some (.slice none 0 0) := R6.cell 3
        have c4 : w6.cell? ⟨w.heap.size, 4, none⟩ = some (.slice none 0 0) := R6.cell 4
        have y0 : w6.cell? ⟨w3.heap.size, 0, none⟩ = some (.int .i64 1) := X6.cell 0
        have y1 : w6.cell? ⟨w3.heap.size, 1, none⟩ = some (.int .i64 fl) := X6.cell 1
        have y2 : w6.cell? ⟨w3.heap.size, 2, none⟩ = some (.int .i64 0) := X6.cell 2
        have y3 : w6.cell? ⟨w3.heap.size, 3, none⟩ = some (.slice none 0 0) := X6.cell 3
        have y4 : w6.cell? ⟨w3.heap.size, 4, none⟩ = some (.slice none 0 0) := X6.cell 4
        have BF := Lib.hid (((((B6.setCell (p := ⟨w.heap.size, 0, none⟩) (Nat.le_refl _) (.int .i64 1)).setCell (p := ⟨w.heap.size, 1, none⟩) (Nat.le_refl _) (.int .i64 fl)).setCell (p := ⟨w.heap.size, 2, none⟩) (Nat.le_refl _) (.int .i64 0)).setCell (p := ⟨w.heap.size, 3, none⟩) (Nat.le_refl _) (.slice none 0 0)).setCell (p := ⟨w.heap.size, 4, none⟩) (Nat.le_refl _) (.slice none 0 0))
        have BN := Lib.hid (((((B6.setCell (p := ⟨w.heap.size, 0, none⟩) (Nat.le_refl _) (.int .i64 0)).setCell (p := ⟨w.heap.size, 1, none⟩) (Nat.le_refl _) (.int .i64 0)).setCell (p := ⟨w.heap.size, 2, none⟩) (Nat.le_refl _) (.int .i64 0)).setCell (p := ⟨w.heap.size, 3, none⟩) (Nat.le_refl _) (.slice none 0 0)).setCell (p := ⟨w.heap.size, 4, none⟩) (Nat.le_refl _) (.slice none 0 0))
        have OF := Lib.hid (own_mono (b' := w.heap.size) (ownsRow_setCell_below (ownsRow_setCell_below (ownsRow_setCell_below (ownsRow_setCell_below (ownsRow_setCell_below O6 (a := ⟨w.heap.size, 0, none⟩) hlo (.int .i64 1)) (a := ⟨w.heap.size, 1, none⟩) hlo (.int .i64 fl)) (a := ⟨w.heap.size, 2, none⟩) hlo (.int .i64 0)) (a := ⟨w.heap.size, 3, none⟩) hlo (.slice none 0 0)) (a := ⟨w.heap.size, 4, none⟩) hlo (.slice none 0 0)) (Nat.le_of_lt hlo))
        have PF := Lib.hid (own_mono (b' := w.heap.size) (ownsRow_setCell_below (ownsRow_setCell_below (ownsRow_setCell_below (ownsRow_setCell_below (ownsRow_setCell_below P6 (a := ⟨w.heap.size, 0, none⟩) hlo (.int .i64 1)) (a := ⟨w.heap.size, 1, none⟩) hlo (.int .i64 fl)) (a := ⟨w.heap.size, 2, none⟩) hlo (.int .i64 0)) (a := ⟨w.heap.size, 3, none⟩) hlo (.slice none 0 0)) (a := ⟨w.heap.size, 4, none⟩) hlo (.slice none 0 0)) (Nat.le_of_lt hlo))
        clear R6 X6 O6 P6 B6 b6
        by_cases e : wishS ⟨1, fl, 0, [], []⟩ = s
        · have HP := Lib.hid (HEND.out.1 e)
          have q9 := ba_yes e
          clear e HEND
          go_wp2
          refine bodyPost_ret (v := .tuple #[.agg #[.int .i64 1, .int .i64 fl, .int .i64 0, .slice none 0 0, .slice none 0 0], .bool true]) (by simp [results, Try.results81, go_sem, c0, c1, c2, c3, c4]) rfl ?_
          refine ⟨_, _, ret_wb (x := ⟨1, fl, 0, [], []⟩) (b := true) ⟨HP.out.1.symm, HP.out.2.symm⟩, ?_, BF.out⟩
          rw [HP.out.1]
          exact ⟨OF.out, PF.out, far_nilR _⟩
        · have HP := Lib.hid (HEND.out.2 e)
          have q9 := ba_no e
          clear e HEND
          go_wp2
          refine bodyPost_ret (v := .tuple #[.agg #[.int .i64 0, .int .i64 0, .int .i64 0, .slice none 0 0, .slice none 0 0], .bool false]) (by simp [results, Try.results81, go_sem, c0, c1, c2, c3, c4]) rfl ?_
          refine ⟨_, _, ret_wb (x := zeroW) (u := .slice none 0 0) (v := .slice none 0 0) (b := false) ⟨HP.out.1.symm, HP.out.2.symm⟩, ?_, BN.out⟩
          rw [HP.out.1]; exact ownW_nil _ _
      have t1 : (a.toList == [104, 105, 103, 104]) = false := lit_no n1
      by_cases n2 : a = kindW 2
      · have t2 : (a.toList == [110, 101, 97, 114]) = true := lit_yes n2
        have X4 := Row.new w3 53 [.int .i64 2, .int .i64 fl, .int .i64 0, .slice none 0 0, .slice none 0 0]
        have R4 := R3.out.alloc (.cells #[.int .i64 2, .int .i64 fl, .int .i64 0, .slice none 0 0, .slice none 0 0] 53)
        have B4 := B3.out.alloc hlw (.cells #[.int .i64 2, .int .i64 fl, .int .i64 0, .slice none 0 0, .slice none 0 0] 53)
        have fr0 := X3.out.free 0
        have xlt := X3.out.lt
        have zW : ((w3.alloc (.cells #[.int .i64 2, .int .i64 fl, .int .i64 0, .slice none 0 0, .slice none 0 0] 53))).heap.size = w3.heap.size + 1 := by simp
        have HC0 : Hid (candS a b ⟨#[]⟩ = ⟨2, fl, l2N ⟨#[]⟩, [], []⟩) := by show _ = _; unfold candS; rw [if_neg n1, if_pos n2, hfl]
        clear n1 n2 hfl HK2
        go_wp2_with fail
        refine (l2Num _ hargs).mono ?_
        rintro e w5 ⟨rfl, b5⟩
        obtain ⟨nv, hnv⟩ : ∃ nv, l2N ⟨#[]⟩ = nv := ⟨_, rfl⟩
        have FN : Fit nv := by rw [← hnv]; exact l2N_fit _
        rw [hnv] at HC0 ⊢
        have HC := HC0
        have z5 := b5.size
        rw [zW] at z5
        have X5 := X4.below b5 X4.lt
        have R5 := R4.below b5 R4.lt
        have B5 := B4.trans (b5.mono B4.size)
        have fr2 := X5.free 2
        have xc2 : w5.cell? ⟨w3.heap.size, 2, none⟩ = some (.int .i64 0) := X5.cell 2
        have xlt5 := X5.lt
        have XX : Row (w5.setCell ⟨w3.heap.size, 2, none⟩ (.int .i64 nv)) w3.heap.size 53 [.int .i64 2, .int .i64 fl, .int .i64 nv, .slice none 0 0, .slice none 0 0] := X5.set 2 (.int .i64 nv)
        have RX := R5.far (p := ⟨w3.heap.size, 2, none⟩) (by show w.heap.size ≠ w3.heap.size; omega) (.int .i64 nv)
        have BB := B5.setCell (p := ⟨w3.heap.size, 2, none⟩) (by show w.heap.size ≤ w3.heap.size; omega) (.int .i64 nv)
        have HEND : Hid ((wishS ⟨2, fl, nv, [], []⟩ = s → parW s = ⟨2, fl, nv, [], []⟩ ∧ parWB s = true) ∧ (wishS ⟨2, fl, nv, [], []⟩ ≠ s → parW s = zeroW ∧ parWB s = false)) := by
          have h9 := HE.out _ HCAND.out
          rw [HC.out] at h9
          exact h9
        have FF : Hid (FitW ⟨2, fl, nv, [], []⟩) := ⟨by unfold Fit; simp, FL, FN, by simp, by simp⟩
        have OL : ((w5.setCell ⟨w3.heap.size, 2, none⟩ (.int .i64 nv))).ownsRow (w3.heap.size + 1) 3 1 (.slice none 0 0) 0 (([] : List Int).map (Value.int .i64)) := World.ownsRow_nil _ _ _ _
        have S1 : Sl RI 1 ((w5.setCell ⟨w3.heap.size, 2, none⟩ (.int .i64 nv))) ((w5.setCell ⟨w3.heap.size, 2, none⟩ (.int .i64 nv))).heap.size none 0 0 [] := Sl.nil _ _
        have OP : ((w5.setCell ⟨w3.heap.size, 2, none⟩ (.int .i64 nv))).ownsRow (w3.heap.size + 1) 92 2 (.slice none 0 0) 0 (prc []) := World.ownsRow_nil _ _ _ _
        have S2 : Sl RP 2 ((w5.setCell ⟨w3.heap.size, 2, none⟩ (.int .i64 nv))) ((w5.setCell ⟨w3.heap.size, 2, none⟩ (.int .i64 nv))).heap.size none 0 0 [] := Sl.nil _ _
        clear X5 R5 B5 b5 X4 R4 B4 hnv
        have y0 : (w5.setCell ⟨w3.heap.size, 2, none⟩ (.int .i64 nv)).cell? ⟨w3.heap.size, 0, none⟩ = some (.int .i64 2) := XX.cell 0
        have y1 : (w5.setCell ⟨w3.heap.size, 2, none⟩ (.int .i64 nv)).cell? ⟨w3.heap.size, 1, none⟩ = some (.int .i64 fl) := XX.cell 1
        have y2 : (w5.setCell ⟨w3.heap.size, 2, none⟩ (.int .i64 nv)).cell? ⟨w3.heap.size, 2, none⟩ = some (.int .i64 nv) := XX.cell 2
        have y3 : (w5.setCell ⟨w3.heap.size, 2, none⟩ (.int .i64 nv)).cell? ⟨w3.heap.size, 3, none⟩ = some (.slice none 0 0) := XX.cell 3
        have y4 : (w5.setCell ⟨w3.heap.size, 2, none⟩ (.int .i64 nv)).cell? ⟨w3.heap.size, 4, none⟩ = some (.slice none 0 0) := XX.cell 4
        have hltx := XX.lt
        have hltr := RX.lt
        have XH := Lib.hid XX
        have RH := Lib.hid RX
        have OLH := Lib.hid OL
        have OPH := Lib.hid OP
        have BH := Lib.hid BB
        clear XX RX OL OP BB
        go_wp2_with fail
        refine (specFormatWish (x := ⟨2, fl, nv, [], []⟩) _ S1 S2 FF.out.1 FF.out.2.1 FF.out.2.2.1).mono ?_
        rintro e w6 ⟨rfl, b6⟩
        clear y0 y1 y2 y3 y4 S1 S2
        have R6 := RH.out.below b6 hltr
        have X6 := XH.out.below b6 hltx
        have O6 := own_below OLH.out b6
        have P6 := own_below OPH.out b6
        have B6 := BH.out.trans (b6.mono BH.out.size)
        have f0 := R6.free 0
        have f1 := R6.free 1
        have f2 := R6.free 2
        have f3 := R6.free 3
        have f4 := R6.free 4
        have hlt := R6.lt
        have hlty := X6.lt
        have c0 : w6.cell? ⟨w.heap.size, 0, none⟩ = some (.int .i64 0) := R6.cell 0
        have c1 : w6.cell? ⟨w.heap.size, 1, none⟩ = some (.int .i64 0) := R6.cell 1
        have c2 : w6.cell? ⟨w.heap.size, 2, none⟩ = some (.int .i64 0) := R6.cell 2
        have c3 : w6.cell? ⟨w.heap.size, 3, none⟩ = some (.slice none 0 0) := R6.cell 3
        have c4 : w6.cell? ⟨w.heap.size, 4, none⟩ = some (.slice none 0 0) := R6.cell 4
        have y0 : w6.cell? ⟨w3.heap.size, 0, none⟩ = some (.int .i64 2) := X6.cell 0
        have y1 : w6.cell? ⟨w3.heap.size, 1, none⟩ = some (.int .i64 fl) := X6.cell 1
        have y2 : w6.cell? ⟨w3.heap.size, 2, none⟩ = some (.int .i64 nv) := X6.cell 2
        have y3 : w6.cell? ⟨w3.heap.size, 3, none⟩ = some (.slice none 0 0) := X6.cell 3
        have y4 : w6.cell? ⟨w3.heap.size, 4, none⟩ = some (.slice none 0 0) := X6.cell 4
        have BF := Lib.hid (((((B6.setCell (p := ⟨w.heap.size, 0, none⟩) (Nat.le_refl _) (.int .i64 2)).setCell (p := ⟨w.heap.size, 1, none⟩) (Nat.le_refl _) (.int .i64 fl)).setCell (p := ⟨w.heap.size, 2, none⟩) (Nat.le_refl _) (.int .i64 nv)).setCell (p := ⟨w.heap.size, 3, none⟩) (Nat.le_refl _) (.slice none 0 0)).setCell (p := ⟨w.heap.size, 4, none⟩) (Nat.le_refl _) (.slice none 0 0))
        have BN := Lib.hid (((((B6.setCell (p := ⟨w.heap.size, 0, none⟩) (Nat.le_refl _) (.int .i64 0)).setCell (p := ⟨w.heap.size, 1, none⟩) (Nat.le_refl _) (.int .i64 0)).setCell (p := ⟨w.heap.size, 2, none⟩) (Nat.le_refl _) (.int .i64 0)).setCell (p := ⟨w.heap.size, 3, none⟩) (Nat.le_refl _) (.slice none 0 0)).setCell (p := ⟨w.heap.size, 4, none⟩) (Nat.le_refl _) (.slice none 0 0))
        have OF := Lib.hid (own_mono (b' := w.heap.size) (ownsRow_setCell_below (ownsRow_setCell_below (ownsRow_setCell_below (ownsRow_setCell_below (ownsRow_setCell_below O6 (a := ⟨w.heap.size, 0, none⟩) hlo (.int .i64 2)) (a := ⟨w.heap.size, 1, none⟩) hlo (.int .i64 fl)) (a := ⟨w.heap.size, 2, none⟩) hlo (.int .i64 nv)) (a := ⟨w.heap.size, 3, none⟩) hlo (.slice none 0 0)) (a := ⟨w.heap.size, 4, none⟩) hlo (.slice none 0 0)) (Nat.le_of_lt hlo))
        have PF := Lib.hid (own_mono (b' := w.heap.size) (ownsRow_setCell_below (ownsRow_setCell_below (ownsRow_setCell_below (ownsRow_setCell_below (ownsRow_setCell_below P6 (a := ⟨w.heap.size, 0, none⟩) hlo (.int .i64 2)) (a := ⟨w.heap.size, 1, none⟩) hlo (.int .i64 fl)) (a := ⟨w.heap.size, 2, none⟩) hlo (.int .i64 nv)) (a := ⟨w.heap.size, 3, none⟩) hlo (.slice none 0 0)) (a := ⟨w.heap.size, 4, none⟩) hlo (.slice none 0 0)) (Nat.le_of_lt hlo))
        clear R6 X6 O6 P6 B6 b6
        by_cases e : wishS ⟨2, fl, nv, [], []⟩ = s
        · have HP := Lib.hid (HEND.out.1 e)
          have q9 := ba_yes e
          clear e HEND
          go_wp2
          refine bodyPost_ret (v := .tuple #[.agg #[.int .i64 2, .int .i64 fl, .int .i64 nv, .slice none 0 0, .slice none 0 0], .bool true]) (by simp [results, Try.results81, go_sem, c0, c1, c2, c3, c4]) rfl ?_
          refine ⟨_, _, ret_wb (x := ⟨2, fl, nv, [], []⟩) (b := true) ⟨HP.out.1.symm, HP.out.2.symm⟩, ?_, BF.out⟩
          rw [HP.out.1]
          exact ⟨OF.out, PF.out, far_nilR _⟩
        · have HP := Lib.hid (HEND.out.2 e)
          have q9 := ba_no e
          clear e HEND
          go_wp2
          refine bodyPost_ret (v := .tuple #[.agg #[.int .i64 0, .int .i64 0, .int .i64 0, .slice none 0 0, .slice none 0 0], .bool false]) (by simp [results, Try.results81, go_sem, c0, c1, c2, c3, c4]) rfl ?_
          refine ⟨_, _, ret_wb (x := zeroW) (u := .slice none 0 0) (v := .slice none 0 0) (b := false) ⟨HP.out.1.symm, HP.out.2.symm⟩, ?_, BN.out⟩
          rw [HP.out.1]; exact ownW_nil _ _
      have t2 : (a.toList == [110, 101, 97, 114]) = false := lit_no n2
      by_cases n3 : a = kindW 3
      · have t3 : (a.toList == [97, 109, 111, 110, 103]) = true := lit_yes n3
        have X4 := Row.new w3 53 [.int .i64 3, .int .i64 fl, .int .i64 0, .slice none 0 0, .slice none 0 0]
        have R4 := R3.out.alloc (.cells #[.int .i64 3, .int .i64 fl, .int .i64 0, .slice none 0 0, .slice none 0 0] 53)
        have B4 := B3.out.alloc hlw (.cells #[.int .i64 3, .int .i64 fl, .int .i64 0, .slice none 0 0, .slice none 0 0] 53)
        have fr0 := X3.out.free 0
        have xlt := X3.out.lt
        have zW : ((w3.alloc (.cells #[.int .i64 3, .int .i64 fl, .int .i64 0, .slice none 0 0, .slice none 0 0] 53))).heap.size = w3.heap.size + 1 := by simp
        have HC0 : Hid (candS a b ⟨#[]⟩ = ⟨3, fl, 0, rdL ⟨#[]⟩, []⟩) := by show _ = _; unfold candS; rw [if_neg n1, if_neg n2, if_pos n3, hfl]
        clear n1 n2 n3 hfl HK2
        have HCL := Lib.hid (P.cut_len ⟨#[]⟩ ⟨#[44]⟩)
        have HX1 := Lib.hid (P.cut_size ⟨#[]⟩ ⟨#[44]⟩)
        go_wp2_with fail
        refine (l2Cut _ (b := 44) hargs2).mono ?_
        rintro e w4 ⟨vp, rfl, hP, b4⟩
        have z4 := b4.size
        rw [zW] at z4
        have X5 := X4.below b4 X4.lt
        have R5 := R4.below b4 R4.lt
        have B5 := B4.trans (b4.mono B4.size)
        have hP1 := hP.1
        rw [zW] at hP1
        have hP1 := Lib.hid hP1
        have hP2 := Lib.hid hP.2
        obtain ⟨A2, c2, rfl, _, _⟩ := own_form hP.1
        obtain ⟨n, hn⟩ : ∃ n, (P.cut ⟨#[]⟩ ⟨#[44]⟩).length = n := ⟨_, rfl⟩
        have HL := Lib.hid hn
        have hn1 : n ≤ 1048577 := by have := HL.out; have := HCL.out; omega
        obtain ⟨rl, hrl9⟩ : ∃ rl, Hid (rdL ⟨#[]⟩ = rl) := ⟨_, rfl⟩
        have HRL : Hid (rl.length = n) := by show _ = _; rw [← hrl9.out]; unfold rdL; rw [List.length_map, HL.out]
        have HRF : Hid (∀ y ∈ rl, Fit y) := by
          show ∀ y ∈ rl, Fit y
          rw [← hrl9.out]
          intro y hy
          unfold rdL at hy
          obtain ⟨t, _, rfl⟩ := List.mem_map.1 hy
          exact l2N_fit _
        have XR4 := Lib.hid X5
        have RR4 := Lib.hid R5
        have BR4 := Lib.hid B5
        clear hP b4 X5 R5 B5 X4 R4 B4
        rw [hn]
        rw [hn] at hP1 hP2
        go_wp2
        go_loopw [8] (fun vi wr => ∃ (k : Nat) (A5 : Option Addr) (c5 : Nat), k ≤ n ∧ vi = .int .i64 k ∧ Hid (wr.ownsRow w4.heap.size 3 1 (.slice A5 k c5) k ((rl.take k).map (Value.int .i64))) ∧ Hid (wr.ownsRow (w3.heap.size + 1) 9 1 (.slice A2 n c2) n ((P.cut ⟨#[]⟩ ⟨#[44]⟩).map Value.string)) ∧ Hid (Row wr w3.heap.size 53 [.int .i64 3, .int .i64 fl, .int .i64 0, .slice A5 k c5, .slice none 0 0]) ∧ Hid (Row wr w.heap.size 53 [.int .i64 0, .int .i64 0, .int .i64 0, .slice none 0 0, .slice none 0 0]) ∧ w4.heap.size ≤ wr.heap.size ∧ Below w.heap.size w wr) (fun vi _ => n - (intOf vi).toNat)
        case atStart => exact ⟨0, none, 0, Nat.zero_le _, rfl, World.ownsRow_nil _ _ _ _, hP1, XR4, RR4, Nat.le_refl _, BR4.out⟩
        case round =>
          clear hP1 XR4 RR4 BR4
          obtain ⟨k, A5, c5, hk, rfl, hown, hpr, hXr, hRr, hw4, hbw⟩ := hrel
          by_cases hlt : k < n
          · obtain ⟨A', n', c', e', hS⟩ := own_strs (xs := P.cut ⟨#[]⟩ ⟨#[44]⟩) (by rw [HL.out]; exact hpr.out) (fun x hx => by have := HX1.out x hx; unfold maxLen; omega)
            injection e' with e1 e2 e3
            subst e1 e2 e3
            obtain ⟨bt, ot, t, rfl, hbt, hxt, _, hct⟩ := hS.str hlt
            have hnc3 := hS.le
            have q1' : (k : Int) < (n : Int) := by omega
            have q2' : (n : Int) ≤ (c2 : Int) := by omega
            have hts : t.size ≤ maxLen := by have := HX1.out t (List.mem_of_getElem? hxt); unfold maxLen; omega
            have HT : Hid (rl[k]? = some (l2N t)) := by show _ = _; rw [← hrl9.out]; unfold rdL; rw [List.getElem?_map, hxt]; rfl
            obtain ⟨hbtl, hbth⟩ : w3.heap.size + 1 ≤ bt ∧ bt < w4.heap.size := ⟨(hpr.out.lt bt rfl).1, hP2.out bt rfl⟩
            have C0 : wr.drew.cell? ⟨bt, ot + k, none⟩ = some (.string t) := hct
            have xl := hXr.out.lt
            have x1c : wr.drew.cell? ⟨w3.heap.size, 3, none⟩ = some (.slice A5 k c5) := hXr.out.cell 3
            have hrow : ∀ q, (Value.slice A5 k c5).ownBlock = some q → w4.heap.size ≤ q := fun q hq => (hown.out.lt q hq).1
            have h63 : k + 1 ≤ maxLen := by unfold maxLen; omega
            have hby : (k + 1) * 8 ≤ 140737488355328 := by omega
            clear hS hxt hct
            go_wp2_with fail
            refine wp_region_T 8 (fun w' => w'.cell? ⟨w3.heap.size, 3, none⟩ = some (.slice A5 k c5) ∧ w'.cell? ⟨bt, ot + k, none⟩ = some (.string t)) (by kernel_rfl) ⟨x1c, C0⟩ (fun hC => ?_)
            refine wpAnyT_take (i := 0) (v := ?v9_0n) rfl (by kernel_rfl) (fun _ _ _ h => h) (Or.inl ⟨by rfl, ?h9_0n⟩) (by assumption) ?r9_0n; (case h9_0n => (intro w9 hC9; (try dsimp only at hC9); go_simp; (try with_reducible rfl))); (try simp only [Act.put, List.setIfInBounds_toArray, List.set_cons_zero, List.set_cons_succ])
            refine wpAnyT_take (i := 1) (v := ?v9_1n) rfl (by kernel_rfl) (fun _ _ _ h => h) (Or.inl ⟨by rfl, ?h9_1n⟩) (by assumption) ?r9_1n; (case h9_1n => (intro w9 hC9; (try dsimp only at hC9); go_simp; (try with_reducible rfl))); (try simp only [Act.put, List.setIfInBounds_toArray, List.set_cons_zero, List.set_cons_succ])
            refine wpAnyT_take (i := 2) (v := ?v9_2n) rfl (by kernel_rfl) (fun _ _ _ h => h) (Or.inl ⟨by rfl, ?h9_2n⟩) (by assumption) ?r9_2n; (case h9_2n => (intro w9 hC9; (try dsimp only at hC9); go_simp; (try with_reducible rfl))); (try simp only [Act.put, List.setIfInBounds_toArray, List.set_cons_zero, List.set_cons_succ])
            refine wpAnyT_take (i := 3) (v := ?v9_3n) rfl (by kernel_rfl) (fun _ _ _ h => h) (Or.inl ⟨by rfl, ?h9_3n⟩) (by assumption) ?r9_3n; (case h9_3n => (intro w9 hC9; (try dsimp only at hC9); go_simp; (try with_reducible rfl))); (try simp only [Act.put, List.setIfInBounds_toArray, List.set_cons_zero, List.set_cons_succ])
            refine wpAnyT_take (i := 4) (v := ?v9_4n) rfl (by kernel_rfl) (fun _ _ _ h => h) (Or.inl ⟨by rfl, ?h9_4n⟩) (by assumption) ?r9_4n; (case h9_4n => (intro w9 hC9; (try dsimp only at hC9); go_simp; (try with_reducible rfl))); (try simp only [Act.put, List.setIfInBounds_toArray, List.set_cons_zero, List.set_cons_succ])
            refine wpAnyT_take (i := 5) (v := ?v9_5n) rfl (by kernel_rfl) (fun _ _ _ h => h) (Or.inl ⟨by rfl, ?h9_5n⟩) (by assumption) ?r9_5n; (case h9_5n => (intro w9 hC9; (try dsimp only at hC9); go_simp; (try with_reducible rfl))); (try simp only [Act.put, List.setIfInBounds_toArray, List.set_cons_zero, List.set_cons_succ])
            refine wpAnyT_rest 6 (by kernel_rfl) ?_; simp only [List.drop_succ_cons, List.drop_zero]
            refine wpListT_step rfl ?_
            go_wp2_with fail
            refine (l2Num _ hts).mono ?_
            rintro e w8 ⟨rfl, b8⟩
            have x8 := celB x1c b8 (by simp; omega)
            have C8 := celB C0 b8 (by simp; omega)
            have s8 := b8.size
            go_wp2
            refine ⟨fun _ => ⟨x8, C8⟩, ?_⟩
            refine wpListT_step rfl ?_
            go_wp2
            refine ⟨fun _ => ⟨celA x8 _, celA C8 _⟩, ?_⟩
            refine wpListT_end (by decide) rfl ?_
            have b8' := below_dr76 b8
            have hwr8 := b8'.size
            have hown8 := Lib.hid (own_below hown.out b8')
            have hpr8 := Lib.hid (own_below hpr.out b8')
            have hX8 := Lib.hid ((hXr.out.below b8' xl).alloc (.cells #[.int .i64 (l2N t)] 3))
            have hR8 := Lib.hid ((hRr.out.below b8' hRr.out.lt).alloc (.cells #[.int .i64 (l2N t)] 3))
            have hbw8 := Lib.hid ((hbw.trans (b8'.mono hbw.size)).alloc (by have := hbw.size; omega) (.cells #[.int .i64 (l2N t)] 3))
            clear b8 x8 C8
            go_wp2_with (at_builtin; refine wpList_append_own _ rfl _ _ 29 rfl w4.heap.size 3 i0 (.int .i64 0) 1 8 Try.underlying29 hi hz0 hz1 hz2 rfl (by decide) _ _ _ rfl (hown8.out.alloc _) ⟨w8.heap.size, 0, none⟩ 1 1 [_] rfl rfl (one_new _ _ _) (by simp [Value.oneCell']) (by unfold maxLen; omega) (by omega) (by simp; omega) ?_)
            intro v' w9 hown9 hgrow _
            obtain ⟨A9, c9, rfl, _, _⟩ := own_form hown9
            have hX9 := hX8.out.grown hgrow (fun e => by have := hrow _ e.symm; omega)
            have hR9 := hR8.out.grown hgrow (fun e => by have := hrow _ e.symm; have := hRr.out.lt; have := hbw.size; omega)
            have hpr9 := own_grown (hpr8.out.alloc _) hgrow (fun g hg e => by have := hrow g e.symm; have := hP2.out g hg; omega)
            have hB9 := Lib.hid (hbw8.out.grown hgrow (by have := hbw.size; simp; omega) (fun q hq => by have := hrow q hq; have := hbw.size; omega))
            have f1 := hX9.free 3
            have y1 : w9.cell? ⟨w3.heap.size, 3, none⟩ = some (.slice A5 k c5) := hX9.cell 3
            have hlt9 := hX9.lt
            have hs9 := hgrow.size
            simp at hs9
            have X10 : Hid (Row (w9.setCell ⟨w3.heap.size, 3, none⟩ (.slice A9 (k + 1) c9)) w3.heap.size 53 [.int .i64 3, .int .i64 fl, .int .i64 0, .slice A9 (k + 1) c9, .slice none 0 0]) := hX9.set 3 _
            have R10 : Hid (Row (w9.setCell ⟨w3.heap.size, 3, none⟩ (.slice A9 (k + 1) c9)) w.heap.size 53 [.int .i64 0, .int .i64 0, .int .i64 0, .slice none 0 0, .slice none 0 0]) := hR9.far (by show w.heap.size ≠ w3.heap.size; omega) _
            have P10 := Lib.hid (ownsRow_setCell_below hpr9 (a := ⟨w3.heap.size, 3, none⟩) (by show w3.heap.size < _; omega) (.slice A9 (k + 1) c9))
            have O10 : Hid ((w9.setCell ⟨w3.heap.size, 3, none⟩ (.slice A9 (k + 1) c9)).ownsRow w4.heap.size 3 1 (.slice A9 (k + 1) c9) (k + 1) ((rl.take (k + 1)).map (Value.int .i64))) := by
              have := ownsRow_setCell_below hown9 (a := ⟨w3.heap.size, 3, none⟩) (by show w3.heap.size < _; omega) (.slice A9 (k + 1) c9)
              obtain ⟨hl9, e9⟩ := List.getElem?_eq_some_iff.1 HT.out
              show World.ownsRow _ _ _ _ _ _ _
              rw [List.take_succ_eq_append_getElem hl9, e9, List.map_append, List.map_take]
              exact this
            have B10 := Lib.hid (hB9.out.setCell (p := ⟨w3.heap.size, 3, none⟩) (by show w.heap.size ≤ w3.heap.size; omega) (.slice A9 (k + 1) c9))
            clear hX9 hR9 hpr9 hown9 hgrow hbw
            go_wp2
            go_roundw
            case rel => exact ⟨k + 1, A9, c9, by omega, by go_num, O10.out, P10.out, X10.out, R10.out, by simp; omega, B10.out⟩
            case measure => simp [intOf]; omega
          · have hkn : k = n := by omega
            subst hkn
            have q1' : ¬ (k : Int) < (k : Int) := by omega
            have OL := hown.out
            have HR9 := HRL.out
            rw [List.take_of_length_le (by omega)] at OL
            have XX := hXr.out
            have RX := hRr.out
            have BB := hbw
            have hlo4 : w3.heap.size + 1 ≤ w4.heap.size := z4
            have OL := own_mono (b' := w3.heap.size + 1) OL hlo4
            rw [← HR9] at OL XX
            have HC : Hid (candS a b ⟨#[]⟩ = ⟨3, fl, 0, rl, []⟩) := by show _ = _; rw [HC0.out, hrl9.out]
            have S1 : Sl RI 1 wr wr.heap.size A5 rl.length c5 rl := by
              obtain ⟨A', n', c', e', hS⟩ := own_ints OL HRF.out
              injection e' with e1 e2 e3
              subst e1 e2 e3
              exact hS
            have FF : Hid (FitW ⟨3, fl, 0, rl, []⟩) := ⟨by unfold Fit; simp, FL, by unfold Fit; simp, HRF.out, by simp⟩
            have HKL : Hid (k = rl.length) := HR9.symm
            clear hown hXr hRr hpr hbw HR9
            have HEND : Hid ((wishS ⟨3, fl, 0, rl, []⟩ = s → parW s = ⟨3, fl, 0, rl, []⟩ ∧ parWB s = true) ∧ (wishS ⟨3, fl, 0, rl, []⟩ ≠ s → parW s = zeroW ∧ parWB s = false)) := by
              have h9 := HE.out _ HCAND.out
              rw [HC.out] at h9
              exact h9
            have OP : (wr).ownsRow (w3.heap.size + 1) 92 2 (.slice none 0 0) 0 (prc []) := World.ownsRow_nil _ _ _ _
            have S2 : Sl RP 2 (wr) (wr).heap.size none 0 0 [] := Sl.nil _ _
            have y0 : wr.cell? ⟨w3.heap.size, 0, none⟩ = some (.int .i64 3) := XX.cell 0
            have y1 : wr.cell? ⟨w3.heap.size, 1, none⟩ = some (.int .i64 fl) := XX.cell 1
            have y2 : wr.cell? ⟨w3.heap.size, 2, none⟩ = some (.int .i64 0) := XX.cell 2
            have y3 : wr.cell? ⟨w3.heap.size, 3, none⟩ = some (.slice A5 rl.length c5) := XX.cell 3
            have y4 : wr.cell? ⟨w3.heap.size, 4, none⟩ = some (.slice none 0 0) := XX.cell 4
            have hltx := XX.lt
            have hltr := RX.lt
            have XH := Lib.hid XX
            have RH := Lib.hid RX
            have OLH := Lib.hid OL
            have OPH := Lib.hid OP
            have BH := Lib.hid BB
            clear XX RX OL OP BB
            go_wp2_with fail
            refine (specFormatWish (x := ⟨3, fl, 0, rl, []⟩) _ S1 S2 FF.out.1 FF.out.2.1 FF.out.2.2.1).mono ?_
            rintro e w6 ⟨rfl, b6⟩
            clear y0 y1 y2 y3 y4 S1 S2
            have R6 := RH.out.below b6 hltr
            have X6 := XH.out.below b6 hltx
            have O6 := own_below OLH.out b6
            have P6 := own_below OPH.out b6
            have B6 := BH.out.trans (b6.mono BH.out.size)
            have f0 := R6.free 0
            have f1 := R6.free 1
            have f2 := R6.free 2
            have f3 := R6.free 3
            have f4 := R6.free 4
            have hlt := R6.lt
            have hlty := X6.lt
            have c0 : w6.cell? ⟨w.heap.size, 0, none⟩ = some (.int .i64 0) := R6.cell 0
            have c1 : w6.cell? ⟨w.heap.size, 1, none⟩ = some (.int .i64 0) := R6.cell 1
            have c2 : w6.cell? ⟨w.heap.size, 2, none⟩ = some (.int .i64 0) := R6.cell 2
            have c3 : w6.cell? ⟨w.heap.size, 3, none⟩ = some (.slice none 0 0) := R6.cell 3
            have c4 : w6.cell? ⟨w.heap.size, 4, none⟩ = some (.slice none 0 0) := R6.cell 4
            have y0 : w6.cell? ⟨w3.heap.size, 0, none⟩ = some (.int .i64 3) := X6.cell 0
            have y1 : w6.cell? ⟨w3.heap.size, 1, none⟩ = some (.int .i64 fl) := X6.cell 1
            have y2 : w6.cell? ⟨w3.heap.size, 2, none⟩ = some (.int .i64 0) := X6.cell 2
            have y3 : w6.cell? ⟨w3.heap.size, 3, none⟩ = some (.slice A5 rl.length c5) := X6.cell 3
            have y4 : w6.cell? ⟨w3.heap.size, 4, none⟩ = some (.slice none 0 0) := X6.cell 4
            have BF := Lib.hid (((((B6.setCell (p := ⟨w.heap.size, 0, none⟩) (Nat.le_refl _) (.int .i64 3)).setCell (p := ⟨w.heap.size, 1, none⟩) (Nat.le_refl _) (.int .i64 fl)).setCell (p := ⟨w.heap.size, 2, none⟩) (Nat.le_refl _) (.int .i64 0)).setCell (p := ⟨w.heap.size, 3, none⟩) (Nat.le_refl _) (.slice A5 rl.length c5)).setCell (p := ⟨w.heap.size, 4, none⟩) (Nat.le_refl _) (.slice none 0 0))
            have BN := Lib.hid (((((B6.setCell (p := ⟨w.heap.size, 0, none⟩) (Nat.le_refl _) (.int .i64 0)).setCell (p := ⟨w.heap.size, 1, none⟩) (Nat.le_refl _) (.int .i64 0)).setCell (p := ⟨w.heap.size, 2, none⟩) (Nat.le_refl _) (.int .i64 0)).setCell (p := ⟨w.heap.size, 3, none⟩) (Nat.le_refl _) (.slice none 0 0)).setCell (p := ⟨w.heap.size, 4, none⟩) (Nat.le_refl _) (.slice none 0 0))
            have OF := Lib.hid (own_mono (b' := w.heap.size) (ownsRow_setCell_below (ownsRow_setCell_below (ownsRow_setCell_below (ownsRow_setCell_below (ownsRow_setCell_below O6 (a := ⟨w.heap.size, 0, none⟩) hlo (.int .i64 3)) (a := ⟨w.heap.size, 1, none⟩) hlo (.int .i64 fl)) (a := ⟨w.heap.size, 2, none⟩) hlo (.int .i64 0)) (a := ⟨w.heap.size, 3, none⟩) hlo (.slice A5 rl.length c5)) (a := ⟨w.heap.size, 4, none⟩) hlo (.slice none 0 0)) (Nat.le_of_lt hlo))
            have PF := Lib.hid (own_mono (b' := w.heap.size) (ownsRow_setCell_below (ownsRow_setCell_below (ownsRow_setCell_below (ownsRow_setCell_below (ownsRow_setCell_below P6 (a := ⟨w.heap.size, 0, none⟩) hlo (.int .i64 3)) (a := ⟨w.heap.size, 1, none⟩) hlo (.int .i64 fl)) (a := ⟨w.heap.size, 2, none⟩) hlo (.int .i64 0)) (a := ⟨w.heap.size, 3, none⟩) hlo (.slice A5 rl.length c5)) (a := ⟨w.heap.size, 4, none⟩) hlo (.slice none 0 0)) (Nat.le_of_lt hlo))
            clear R6 X6 O6 P6 B6 b6
            by_cases e : wishS ⟨3, fl, 0, rl, []⟩ = s
            · have HP := Lib.hid (HEND.out.1 e)
              have q9 := ba_yes e
              clear e HEND
              go_wp2
              refine bodyPost_ret (v := .tuple #[.agg #[.int .i64 3, .int .i64 fl, .int .i64 0, .slice A5 rl.length c5, .slice none 0 0], .bool true]) (by simp [results, Try.results81, go_sem, c0, c1, c2, c3, c4]) rfl ?_
              refine ⟨_, _, ret_wb (x := ⟨3, fl, 0, rl, []⟩) (b := true) ⟨HP.out.1.symm, HP.out.2.symm⟩, ?_, BF.out⟩
              rw [HP.out.1]
              exact ⟨OF.out, PF.out, far_nilR _⟩
            · have HP := Lib.hid (HEND.out.2 e)
              have q9 := ba_no e
              clear e HEND
              go_wp2
              refine bodyPost_ret (v := .tuple #[.agg #[.int .i64 0, .int .i64 0, .int .i64 0, .slice none 0 0, .slice none 0 0], .bool false]) (by simp [results, Try.results81, go_sem, c0, c1, c2, c3, c4]) rfl ?_
              refine ⟨_, _, ret_wb (x := zeroW) (u := .slice none 0 0) (v := .slice none 0 0) (b := false) ⟨HP.out.1.symm, HP.out.2.symm⟩, ?_, BN.out⟩
              rw [HP.out.1]; exact ownW_nil _ _
      have t3 : (a.toList == [97, 109, 111, 110, 103]) = false := lit_no n3
      by_cases n4 : a = kindW 4
      · have t4 : (a.toList == [111, 114, 100, 101, 114]) = true := lit_yes n4
        have X4 := Row.new w3 53 [.int .i64 4, .int .i64 fl, .int .i64 0, .slice none 0 0, .slice none 0 0]
        have R4 := R3.out.alloc (.cells #[.int .i64 4, .int .i64 fl, .int .i64 0, .slice none 0 0, .slice none 0 0] 53)
        have B4 := B3.out.alloc hlw (.cells #[.int .i64 4, .int .i64 fl, .int .i64 0, .slice none 0 0, .slice none 0 0] 53)
        have fr0 := X3.out.free 0
        have xlt := X3.out.lt
        have zW : ((w3.alloc (.cells #[.int .i64 4, .int .i64 fl, .int .i64 0, .slice none 0 0, .slice none 0 0] 53))).heap.size = w3.heap.size + 1 := by simp
        have HC0 : Hid (candS a b ⟨#[]⟩ = ⟨4, fl, 0, [], parP ⟨#[]⟩⟩) := by show _ = _; unfold candS; rw [if_neg n1, if_neg n2, if_neg n3, if_pos n4, hfl]
        clear n1 n2 n3 n4 hfl HK2
        go_wp2_with fail
        refine (specParsePairs _ hargs2).mono ?_
        rintro e w5 ⟨vq, rfl, Oq, b5⟩
        have FQ := Lib.hid (parP_fit ⟨#[]⟩)
        obtain ⟨ps, hps⟩ : ∃ ps, parP ⟨#[]⟩ = ps := ⟨_, rfl⟩
        rw [hps] at HC0 Oq FQ
        have HC := HC0
        obtain ⟨E5, d5, rfl, _, _⟩ := own_form Oq.1
        have z5 := b5.size
        rw [zW] at z5
        have X5 := X4.below b5 X4.lt
        have R5 := R4.below b5 R4.lt
        have B5 := B4.trans (b5.mono B4.size)
        have O5 := Oq.1
        rw [zW] at O5
        have fr4 := X5.free 4
        have xc4 : w5.cell? ⟨w3.heap.size, 4, none⟩ = some (.slice none 0 0) := X5.cell 4
        have xlt5 := X5.lt
        have XX : Row (w5.setCell ⟨w3.heap.size, 4, none⟩ (.slice E5 ps.length d5)) w3.heap.size 53 [.int .i64 4, .int .i64 fl, .int .i64 0, .slice none 0 0, .slice E5 ps.length d5] := X5.set 4 (.slice E5 ps.length d5)
        have RX := R5.far (p := ⟨w3.heap.size, 4, none⟩) (by show w.heap.size ≠ w3.heap.size; omega) (.slice E5 ps.length d5)
        have BB := B5.setCell (p := ⟨w3.heap.size, 4, none⟩) (by show w.heap.size ≤ w3.heap.size; omega) (.slice E5 ps.length d5)
        have OP := ownsRow_setCell_below O5 (a := ⟨w3.heap.size, 4, none⟩) (by show w3.heap.size < w3.heap.size + 1; omega) (.slice E5 ps.length d5)
        have S2 : Sl RP 2 (w5.setCell ⟨w3.heap.size, 4, none⟩ (.slice E5 ps.length d5)) (w5.setCell ⟨w3.heap.size, 4, none⟩ (.slice E5 ps.length d5)).heap.size E5 ps.length d5 ps := by
          obtain ⟨A', n', c', e', hS⟩ := own_pairs OP FQ.out
          injection e' with e1 e2 e3
          subst e1 e2 e3
          exact hS
        have HEND : Hid ((wishS ⟨4, fl, 0, [], ps⟩ = s → parW s = ⟨4, fl, 0, [], ps⟩ ∧ parWB s = true) ∧ (wishS ⟨4, fl, 0, [], ps⟩ ≠ s → parW s = zeroW ∧ parWB s = false)) := by
          have h9 := HE.out _ HCAND.out
          rw [HC.out] at h9
          exact h9
        have FF : Hid (FitW ⟨4, fl, 0, [], ps⟩) := ⟨by unfold Fit; simp, FL, by unfold Fit; simp, by simp, FQ.out⟩
        have OL : ((w5.setCell ⟨w3.heap.size, 4, none⟩ (.slice E5 ps.length d5))).ownsRow (w3.heap.size + 1) 3 1 (.slice none 0 0) 0 (([] : List Int).map (Value.int .i64)) := World.ownsRow_nil _ _ _ _
        have S1 : Sl RI 1 ((w5.setCell ⟨w3.heap.size, 4, none⟩ (.slice E5 ps.length d5))) ((w5.setCell ⟨w3.heap.size, 4, none⟩ (.slice E5 ps.length d5))).heap.size none 0 0 [] := Sl.nil _ _
        clear X5 R5 B5 b5 X4 R4 B4 hps O5 Oq
        have y0 : (w5.setCell ⟨w3.heap.size, 4, none⟩ (.slice E5 ps.length d5)).cell? ⟨w3.heap.size, 0, none⟩ = some (.int .i64 4) := XX.cell 0
        have y1 : (w5.setCell ⟨w3.heap.size, 4, none⟩ (.slice E5 ps.length d5)).cell? ⟨w3.heap.size, 1, none⟩ = some (.int .i64 fl) := XX.cell 1
        have y2 : (w5.setCell ⟨w3.heap.size, 4, none⟩ (.slice E5 ps.length d5)).cell? ⟨w3.heap.size, 2, none⟩ = some (.int .i64 0) := XX.cell 2
        have y3 : (w5.setCell ⟨w3.heap.size, 4, none⟩ (.slice E5 ps.length d5)).cell? ⟨w3.heap.size, 3, none⟩ = some (.slice none 0 0) := XX.cell 3
        have y4 : (w5.setCell ⟨w3.heap.size, 4, none⟩ (.slice E5 ps.length d5)).cell? ⟨w3.heap.size, 4, none⟩ = some (.slice E5 ps.length d5) := XX.cell 4
        have hltx := XX.lt
        have hltr := RX.lt
        have XH := Lib.hid XX
        have RH := Lib.hid RX
        have OLH := Lib.hid OL
        have OPH := Lib.hid OP
        have BH := Lib.hid BB
        clear XX RX OL OP BB
        go_wp2_with fail
        refine (specFormatWish (x := ⟨4, fl, 0, [], ps⟩) _ S1 S2 FF.out.1 FF.out.2.1 FF.out.2.2.1).mono ?_
        rintro e w6 ⟨rfl, b6⟩
        clear y0 y1 y2 y3 y4 S1 S2
        have R6 := RH.out.below b6 hltr
        have X6 := XH.out.below b6 hltx
        have O6 := own_below OLH.out b6
        have P6 := own_below OPH.out b6
        have B6 := BH.out.trans (b6.mono BH.out.size)
        have f0 := R6.free 0
        have f1 := R6.free 1
        have f2 := R6.free 2
        have f3 := R6.free 3
        have f4 := R6.free 4
        have hlt := R6.lt
        have hlty := X6.lt
        have c0 : w6.cell? ⟨w.heap.size, 0, none⟩ = some (.int .i64 0) := R6.cell 0
        have c1 : w6.cell? ⟨w.heap.size, 1, none⟩ = some (.int .i64 0) := R6.cell 1
        have c2 : w6.cell? ⟨w.heap.size, 2, none⟩ = some (.int .i64 0) := R6.cell 2
        have c3 : w6.cell? ⟨w.heap.size, 3, none⟩ = some (.slice none 0 0) := R6.cell 3
        have c4 : w6.cell? ⟨w.heap.size, 4, none⟩ = some (.slice none 0 0) := R6.cell 4
        have y0 : w6.cell? ⟨w3.heap.size, 0, none⟩ = some (.int .i64 4) := X6.cell 0
        have y1 : w6.cell? ⟨w3.heap.size, 1, none⟩ = some (.int .i64 fl) := X6.cell 1
        have y2 : w6.cell? ⟨w3.heap.size, 2, none⟩ = some (.int .i64 0) := X6.cell 2
        have y3 : w6.cell? ⟨w3.heap.size, 3, none⟩ = some (.slice none 0 0) := X6.cell 3
        have y4 : w6.cell? ⟨w3.heap.size, 4, none⟩ = some (.slice E5 ps.length d5) := X6.cell 4
        have BF := Lib.hid (((((B6.setCell (p := ⟨w.heap.size, 0, none⟩) (Nat.le_refl _) (.int .i64 4)).setCell (p := ⟨w.heap.size, 1, none⟩) (Nat.le_refl _) (.int .i64 fl)).setCell (p := ⟨w.heap.size, 2, none⟩) (Nat.le_refl _) (.int .i64 0)).setCell (p := ⟨w.heap.size, 3, none⟩) (Nat.le_refl _) (.slice none 0 0)).setCell (p := ⟨w.heap.size, 4, none⟩) (Nat.le_refl _) (.slice E5 ps.length d5))
        have BN := Lib.hid (((((B6.setCell (p := ⟨w.heap.size, 0, none⟩) (Nat.le_refl _) (.int .i64 0)).setCell (p := ⟨w.heap.size, 1, none⟩) (Nat.le_refl _) (.int .i64 0)).setCell (p := ⟨w.heap.size, 2, none⟩) (Nat.le_refl _) (.int .i64 0)).setCell (p := ⟨w.heap.size, 3, none⟩) (Nat.le_refl _) (.slice none 0 0)).setCell (p := ⟨w.heap.size, 4, none⟩) (Nat.le_refl _) (.slice none 0 0))
        have OF := Lib.hid (own_mono (b' := w.heap.size) (ownsRow_setCell_below (ownsRow_setCell_below (ownsRow_setCell_below (ownsRow_setCell_below (ownsRow_setCell_below O6 (a := ⟨w.heap.size, 0, none⟩) hlo (.int .i64 4)) (a := ⟨w.heap.size, 1, none⟩) hlo (.int .i64 fl)) (a := ⟨w.heap.size, 2, none⟩) hlo (.int .i64 0)) (a := ⟨w.heap.size, 3, none⟩) hlo (.slice none 0 0)) (a := ⟨w.heap.size, 4, none⟩) hlo (.slice E5 ps.length d5)) (Nat.le_of_lt hlo))
        have PF := Lib.hid (own_mono (b' := w.heap.size) (ownsRow_setCell_below (ownsRow_setCell_below (ownsRow_setCell_below (ownsRow_setCell_below (ownsRow_setCell_below P6 (a := ⟨w.heap.size, 0, none⟩) hlo (.int .i64 4)) (a := ⟨w.heap.size, 1, none⟩) hlo (.int .i64 fl)) (a := ⟨w.heap.size, 2, none⟩) hlo (.int .i64 0)) (a := ⟨w.heap.size, 3, none⟩) hlo (.slice none 0 0)) (a := ⟨w.heap.size, 4, none⟩) hlo (.slice E5 ps.length d5)) (Nat.le_of_lt hlo))
        clear R6 X6 O6 P6 B6 b6
        by_cases e : wishS ⟨4, fl, 0, [], ps⟩ = s
        · have HP := Lib.hid (HEND.out.1 e)
          have q9 := ba_yes e
          clear e HEND
          go_wp2
          refine bodyPost_ret (v := .tuple #[.agg #[.int .i64 4, .int .i64 fl, .int .i64 0, .slice none 0 0, .slice E5 ps.length d5], .bool true]) (by simp [results, Try.results81, go_sem, c0, c1, c2, c3, c4]) rfl ?_
          refine ⟨_, _, ret_wb (x := ⟨4, fl, 0, [], ps⟩) (b := true) ⟨HP.out.1.symm, HP.out.2.symm⟩, ?_, BF.out⟩
          rw [HP.out.1]
          exact ⟨OF.out, PF.out, .inl rfl⟩
        · have HP := Lib.hid (HEND.out.2 e)
          have q9 := ba_no e
          clear e HEND
          go_wp2
          refine bodyPost_ret (v := .tuple #[.agg #[.int .i64 0, .int .i64 0, .int .i64 0, .slice none 0 0, .slice none 0 0], .bool false]) (by simp [results, Try.results81, go_sem, c0, c1, c2, c3, c4]) rfl ?_
          refine ⟨_, _, ret_wb (x := zeroW) (u := .slice none 0 0) (v := .slice none 0 0) (b := false) ⟨HP.out.1.symm, HP.out.2.symm⟩, ?_, BN.out⟩
          rw [HP.out.1]; exact ownW_nil _ _
      have t4 : (a.toList == [111, 114, 100, 101, 114]) = false := lit_no n4
      have HC : Hid (candS a b ⟨#[]⟩ = ⟨0, fl, 0, [], []⟩) := by show _ = _; unfold candS; rw [if_neg n1, if_neg n2, if_neg n3, if_neg n4, hfl]
      have HEND : Hid ((wishS ⟨0, fl, 0, [], []⟩ = s → parW s = ⟨0, fl, 0, [], []⟩ ∧ parWB s = true) ∧ (wishS ⟨0, fl, 0, [], []⟩ ≠ s → parW s = zeroW ∧ parWB s = false)) := by
        have h9 := HE.out _ HCAND.out
        rw [HC.out] at h9
        exact h9
      have FF : Hid (FitW ⟨0, fl, 0, [], []⟩) := ⟨by unfold Fit; simp, FL, by unfold Fit; simp, by simp, by simp⟩
      have XX := Row.new w3 53 [.int .i64 0, .int .i64 fl, .int .i64 0, .slice none 0 0, .slice none 0 0]
      have RX := R3.out.alloc (.cells #[.int .i64 0, .int .i64 fl, .int .i64 0, .slice none 0 0, .slice none 0 0] 53)
      have BB := B3.out.alloc hlw (.cells #[.int .i64 0, .int .i64 fl, .int .i64 0, .slice none 0 0, .slice none 0 0] 53)
      have fr0 := X3.out.free 0
      have xlt := X3.out.lt
      have OL : ((w3.alloc (.cells #[.int .i64 0, .int .i64 fl, .int .i64 0, .slice none 0 0, .slice none 0 0] 53))).ownsRow (w3.heap.size + 1) 3 1 (.slice none 0 0) 0 (([] : List Int).map (Value.int .i64)) := World.ownsRow_nil _ _ _ _
      have S1 : Sl RI 1 ((w3.alloc (.cells #[.int .i64 0, .int .i64 fl, .int .i64 0, .slice none 0 0, .slice none 0 0] 53))) ((w3.alloc (.cells #[.int .i64 0, .int .i64 fl, .int .i64 0, .slice none 0 0, .slice none 0 0] 53))).heap.size none 0 0 [] := Sl.nil _ _
      have OP : ((w3.alloc (.cells #[.int .i64 0, .int .i64 fl, .int .i64 0, .slice none 0 0, .slice none 0 0] 53))).ownsRow (w3.heap.size + 1) 92 2 (.slice none 0 0) 0 (prc []) := World.ownsRow_nil _ _ _ _
      have S2 : Sl RP 2 ((w3.alloc (.cells #[.int .i64 0, .int .i64 fl, .int .i64 0, .slice none 0 0, .slice none 0 0] 53))) ((w3.alloc (.cells #[.int .i64 0, .int .i64 fl, .int .i64 0, .slice none 0 0, .slice none 0 0] 53))).heap.size none 0 0 [] := Sl.nil _ _
      clear n1 n2 n3 n4 hfl HK2
      have y0 : (w3.alloc (.cells #[.int .i64 0, .int .i64 fl, .int .i64 0, .slice none 0 0, .slice none 0 0] 53)).cell? ⟨w3.heap.size, 0, none⟩ = some (.int .i64 0) := XX.cell 0
      have y1 : (w3.alloc (.cells #[.int .i64 0, .int .i64 fl, .int .i64 0, .slice none 0 0, .slice none 0 0] 53)).cell? ⟨w3.heap.size, 1, none⟩ = some (.int .i64 fl) := XX.cell 1
      have y2 : (w3.alloc (.cells #[.int .i64 0, .int .i64 fl, .int .i64 0, .slice none 0 0, .slice none 0 0] 53)).cell? ⟨w3.heap.size, 2, none⟩ = some (.int .i64 0) := XX.cell 2
      have y3 : (w3.alloc (.cells #[.int .i64 0, .int .i64 fl, .int .i64 0, .slice none 0 0, .slice none 0 0] 53)).cell? ⟨w3.heap.size, 3, none⟩ = some (.slice none 0 0) := XX.cell 3
      have y4 : (w3.alloc (.cells #[.int .i64 0, .int .i64 fl, .int .i64 0, .slice none 0 0, .slice none 0 0] 53)).cell? ⟨w3.heap.size, 4, none⟩ = some (.slice none 0 0) := XX.cell 4
      have hltx := XX.lt
      have hltr := RX.lt
      have XH := Lib.hid XX
      have RH := Lib.hid RX
      have OLH := Lib.hid OL
      have OPH := Lib.hid OP
      have BH := Lib.hid BB
      clear XX RX OL OP BB
      go_wp2_with fail
      refine (specFormatWish (x := ⟨0, fl, 0, [], []⟩) _ S1 S2 FF.out.1 FF.out.2.1 FF.out.2.2.1).mono ?_
      rintro e w6 ⟨rfl, b6⟩
      clear y0 y1 y2 y3 y4 S1 S2
      have R6 := RH.out.below b6 hltr
      have X6 := XH.out.below b6 hltx
      have O6 := own_below OLH.out b6
      have P6 := own_below OPH.out b6
      have B6 := BH.out.trans (b6.mono BH.out.size)
      have f0 := R6.free 0
      have f1 := R6.free 1
      have f2 := R6.free 2
      have f3 := R6.free 3
      have f4 := R6.free 4
      have hlt := R6.lt
      have hlty := X6.lt
      have c0 : w6.cell? ⟨w.heap.size, 0, none⟩ = some (.int .i64 0) := R6.cell 0
      have c1 : w6.cell? ⟨w.heap.size, 1, none⟩ = some (.int .i64 0) := R6.cell 1
      have c2 : w6.cell? ⟨w.heap.size, 2, none⟩ = some (.int .i64 0) := R6.cell 2
      have c3 : w6.cell? ⟨w.heap.size, 3, none⟩ = some (.slice none 0 0) := R6.cell 3
      have c4 : w6.cell? ⟨w.heap.size, 4, none⟩ = some (.slice none 0 0) := R6.cell 4
      have y0 : w6.cell? ⟨w3.heap.size, 0, none⟩ = some (.int .i64 0) := X6.cell 0
      have y1 : w6.cell? ⟨w3.heap.size, 1, none⟩ = some (.int .i64 fl) := X6.cell 1
      have y2 : w6.cell? ⟨w3.heap.size, 2, none⟩ = some (.int .i64 0) := X6.cell 2
      have y3 : w6.cell? ⟨w3.heap.size, 3, none⟩ = some (.slice none 0 0) := X6.cell 3
      have y4 : w6.cell? ⟨w3.heap.size, 4, none⟩ = some (.slice none 0 0) := X6.cell 4
      have BF := Lib.hid (((((B6.setCell (p := ⟨w.heap.size, 0, none⟩) (Nat.le_refl _) (.int .i64 0)).setCell (p := ⟨w.heap.size, 1, none⟩) (Nat.le_refl _) (.int .i64 fl)).setCell (p := ⟨w.heap.size, 2, none⟩) (Nat.le_refl _) (.int .i64 0)).setCell (p := ⟨w.heap.size, 3, none⟩) (Nat.le_refl _) (.slice none 0 0)).setCell (p := ⟨w.heap.size, 4, none⟩) (Nat.le_refl _) (.slice none 0 0))
      have BN := Lib.hid (((((B6.setCell (p := ⟨w.heap.size, 0, none⟩) (Nat.le_refl _) (.int .i64 0)).setCell (p := ⟨w.heap.size, 1, none⟩) (Nat.le_refl _) (.int .i64 0)).setCell (p := ⟨w.heap.size, 2, none⟩) (Nat.le_refl _) (.int .i64 0)).setCell (p := ⟨w.heap.size, 3, none⟩) (Nat.le_refl _) (.slice none 0 0)).setCell (p := ⟨w.heap.size, 4, none⟩) (Nat.le_refl _) (.slice none 0 0))
      have OF := Lib.hid (own_mono (b' := w.heap.size) (ownsRow_setCell_below (ownsRow_setCell_below (ownsRow_setCell_below (ownsRow_setCell_below (ownsRow_setCell_below O6 (a := ⟨w.heap.size, 0, none⟩) hlo (.int .i64 0)) (a := ⟨w.heap.size, 1, none⟩) hlo (.int .i64 fl)) (a := ⟨w.heap.size, 2, none⟩) hlo (.int .i64 0)) (a := ⟨w.heap.size, 3, none⟩) hlo (.slice none 0 0)) (a := ⟨w.heap.size, 4, none⟩) hlo (.slice none 0 0)) (Nat.le_of_lt hlo))
      have PF := Lib.hid (own_mono (b' := w.heap.size) (ownsRow_setCell_below (ownsRow_setCell_below (ownsRow_setCell_below (ownsRow_setCell_below (ownsRow_setCell_below P6 (a := ⟨w.heap.size, 0, none⟩) hlo (.int .i64 0)) (a := ⟨w.heap.size, 1, none⟩) hlo (.int .i64 fl)) (a := ⟨w.heap.size, 2, none⟩) hlo (.int .i64 0)) (a := ⟨w.heap.size, 3, none⟩) hlo (.slice none 0 0)) (a := ⟨w.heap.size, 4, none⟩) hlo (.slice none 0 0)) (Nat.le_of_lt hlo))
      clear R6 X6 O6 P6 B6 b6
      by_cases e : wishS ⟨0, fl, 0, [], []⟩ = s
      · have HP := Lib.hid (HEND.out.1 e)
        have q9 := ba_yes e
        clear e HEND
        go_wp2
        refine bodyPost_ret (v := .tuple #[.agg #[.int .i64 0, .int .i64 fl, .int .i64 0, .slice none 0 0, .slice none 0 0], .bool true]) (by simp [results, Try.results81, go_sem, c0, c1, c2, c3, c4]) rfl ?_
        refine ⟨_, _, ret_wb (x := ⟨0, fl, 0, [], []⟩) (b := true) ⟨HP.out.1.symm, HP.out.2.symm⟩, ?_, BF.out⟩
        rw [HP.out.1]
        exact ⟨OF.out, PF.out, far_nilR _⟩
      · have HP := Lib.hid (HEND.out.2 e)
        have q9 := ba_no e
        clear e HEND
        go_wp2
        refine bodyPost_ret (v := .tuple #[.agg #[.int .i64 0, .int .i64 0, .int .i64 0, .slice none 0 0, .slice none 0 0], .bool false]) (by simp [results, Try.results81, go_sem, c0, c1, c2, c3, c4]) rfl ?_
        refine ⟨_, _, ret_wb (x := zeroW) (u := .slice none 0 0) (v := .slice none 0 0) (b := false) ⟨HP.out.1.symm, HP.out.2.symm⟩, ?_, BN.out⟩
        rw [HP.out.1]; exact ownW_nil _ _
    · obtain ⟨c9, hr1⟩ : ∃ c9, rest = [c9] := by
        match rest, hrl, hr0 with
        | [c9], _, _ => exact ⟨c9, rfl⟩
      have hm9 : m = 3 := by rw [hr1] at hm; simpa using hm.symm
      have t0 : ((m : Int) == 3) = true := by rw [hm9]; rfl
      have p5 : (2 : Int) < (m : Int) := by omega
      have HCAND : Hid (∀ x, P.okW x = true → kindW x.kind :: fldW x.field :: argW x = a :: b :: rest → candS a b c9 = x) := fun x hx h => candS_three hx (by rw [h, hr1])
      have hargs2 : c9.size ≤ 1048576 := HRC.out c9 hr1
      have hargs : c9.size ≤ maxLen := Nat.le_trans hargs2 (by decide)
      have k2 := celA (HK2.out c9 hr1) (.cells #[.int .i64 0, .int .i64 fl, .int .i64 0, .slice none 0 0, .slice none 0 0] 53)
      clear hm9 hr0
      by_cases n1 : a = kindW 1
      · have t1 : (a.toList == [104, 105, 103, 104]) = true := lit_yes n1
        have HC : Hid (candS a b c9 = ⟨1, fl, 0, [], []⟩) := by show _ = _; unfold candS; rw [if_pos n1, hfl]
        have HEND : Hid ((wishS ⟨1, fl, 0, [], []⟩ = s → parW s = ⟨1, fl, 0, [], []⟩ ∧ parWB s = true) ∧ (wishS ⟨1, fl, 0, [], []⟩ ≠ s → parW s = zeroW ∧ parWB s = false)) := by
          have h9 := HE.out _ HCAND.out
          rw [HC.out] at h9
          exact h9
        have FF : Hid (FitW ⟨1, fl, 0, [], []⟩) := ⟨by unfold Fit; simp, FL, by unfold Fit; simp, by simp, by simp⟩
        have XX := Row.new w3 53 [.int .i64 1, .int .i64 fl, .int .i64 0, .slice none 0 0, .slice none 0 0]
        have RX := R3.out.alloc (.cells #[.int .i64 1, .int .i64 fl, .int .i64 0, .slice none 0 0, .slice none 0 0] 53)
        have BB := B3.out.alloc hlw (.cells #[.int .i64 1, .int .i64 fl, .int .i64 0, .slice none 0 0, .slice none 0 0] 53)
        have fr0 := X3.out.free 0
        have xlt := X3.out.lt
        have OL : ((w3.alloc (.cells #[.int .i64 1, .int .i64 fl, .int .i64 0, .slice none 0 0, .slice none 0 0] 53))).ownsRow (w3.heap.size + 1) 3 1 (.slice none 0 0) 0 (([] : List Int).map (Value.int .i64)) := World.ownsRow_nil _ _ _ _
        have S1 : Sl RI 1 ((w3.alloc (.cells #[.int .i64 1, .int .i64 fl, .int .i64 0, .slice none 0 0, .slice none 0 0] 53))) ((w3.alloc (.cells #[.int .i64 1, .int .i64 fl, .int .i64 0, .slice none 0 0, .slice none 0 0] 53))).heap.size none 0 0 [] := Sl.nil _ _
        have OP : ((w3.alloc (.cells #[.int .i64 1, .int .i64 fl, .int .i64 0, .slice none 0 0, .slice none 0 0] 53))).ownsRow (w3.heap.size + 1) 92 2 (.slice none 0 0) 0 (prc []) := World.ownsRow_nil _ _ _ _
        have S2 : Sl RP 2 ((w3.alloc (.cells #[.int .i64 1, .int .i64 fl, .int .i64 0, .slice none 0 0, .slice none 0 0] 53))) ((w3.alloc (.cells #[.int .i64 1, .int .i64 fl, .int .i64 0, .slice none 0 0, .slice none 0 0] 53))).heap.size none 0 0 [] := Sl.nil _ _
        clear n1 hfl HK2
        have y0 : (w3.alloc (.cells #[.int .i64 1, .int .i64 fl, .int .i64 0, .slice none 0 0, .slice none 0 0] 53)).cell? ⟨w3.heap.size, 0, none⟩ = some (.int .i64 1) := XX.cell 0
        have y1 : (w3.alloc (.cells #[.int .i64 1, .int .i64 fl, .int .i64 0, .slice none 0 0, .slice none 0 0] 53)).cell? ⟨w3.heap.size, 1, none⟩ = some (.int .i64 fl) := XX.cell 1
        have y2 : (w3.alloc (.cells #[.int .i64 1, .int .i64 fl, .int .i64 0, .slice none 0 0, .slice none 0 0] 53)).cell? ⟨w3.heap.size, 2, none⟩ = some (.int .i64 0) := XX.cell 2
        have y3 : (w3.alloc (.cells #[.int .i64 1, .int .i64 fl, .int .i64 0, .slice none 0 0, .slice none 0 0] 53)).cell? ⟨w3.heap.size, 3, none⟩ = some (.slice none 0 0) := XX.cell 3
        have y4 : (w3.alloc (.cells #[.int .i64 1, .int .i64 fl, .int .i64 0, .slice none 0 0, .slice none 0 0] 53)).cell? ⟨w3.heap.size, 4, none⟩ = some (.slice none 0 0) := XX.cell 4
        have hltx := XX.lt
        have hltr := RX.lt
        have XH := Lib.hid XX
        have RH := Lib.hid RX
        have OLH := Lib.hid OL
        have OPH := Lib.hid OP
        have BH := Lib.hid BB
        clear XX RX OL OP BB
        go_wp2_with fail
        refine (specFormatWish (x := ⟨1, fl, 0, [], []⟩) _ S1 S2 FF.out.1 FF.out.2.1 FF.out.2.2.1).mono ?_
        rintro e w6 ⟨rfl, b6⟩
        clear y0 y1 y2 y3 y4 S1 S2
        have R6 := RH.out.below b6 hltr
        have X6 := XH.out.below b6 hltx
        have O6 := own_below OLH.out b6
        have P6 := own_below OPH.out b6
        have B6 := BH.out.trans (b6.mono BH.out.size)
        have f0 := R6.free 0
        have f1 := R6.free 1
        have f2 := R6.free 2
        have f3 := R6.free 3
        have f4 := R6.free 4
        have hlt := R6.lt
        have hlty := X6.lt
        have c0 : w6.cell? ⟨w.heap.size, 0, none⟩ = some (.int .i64 0) := R6.cell 0
        have c1 : w6.cell? ⟨w.heap.size, 1, none⟩ = some (.int .i64 0) := R6.cell 1
        have c2 : w6.cell? ⟨w.heap.size, 2, none⟩ = some (.int .i64 0) := R6.cell 2
        have c3 : w6.cell? ⟨w.heap.size, 3, none⟩ = some (.slice none 0 0) := R6.cell 3
        have c4 : w6.cell? ⟨w.heap.size, 4, none⟩ = some (.slice none 0 0) := R6.cell 4
        have y0 : w6.cell? ⟨w3.heap.size, 0, none⟩ = some (.int .i64 1) := X6.cell 0
        have y1 : w6.cell? ⟨w3.heap.size, 1, none⟩ = some (.int .i64 fl) := X6.cell 1
        have y2 : w6.cell? ⟨w3.heap.size, 2, none⟩ = some (.int .i64 0) := X6.cell 2
        have y3 : w6.cell? ⟨w3.heap.size, 3, none⟩ = some (.slice none 0 0) := X6.cell 3
        have y4 : w6.cell? ⟨w3.heap.size, 4, none⟩ = some (.slice none 0 0) := X6.cell 4
        have BF := Lib.hid (((((B6.setCell (p := ⟨w.heap.size, 0, none⟩) (Nat.le_refl _) (.int .i64 1)).setCell (p := ⟨w.heap.size, 1, none⟩) (Nat.le_refl _) (.int .i64 fl)).setCell (p := ⟨w.heap.size, 2, none⟩) (Nat.le_refl _) (.int .i64 0)).setCell (p := ⟨w.heap.size, 3, none⟩) (Nat.le_refl _) (.slice none 0 0)).setCell (p := ⟨w.heap.size, 4, none⟩) (Nat.le_refl _) (.slice none 0 0))
        have BN := Lib.hid (((((B6.setCell (p := ⟨w.heap.size, 0, none⟩) (Nat.le_refl _) (.int .i64 0)).setCell (p := ⟨w.heap.size, 1, none⟩) (Nat.le_refl _) (.int .i64 0)).setCell (p := ⟨w.heap.size, 2, none⟩) (Nat.le_refl _) (.int .i64 0)).setCell (p := ⟨w.heap.size, 3, none⟩) (Nat.le_refl _) (.slice none 0 0)).setCell (p := ⟨w.heap.size, 4, none⟩) (Nat.le_refl _) (.slice none 0 0))
        have OF := Lib.hid (own_mono (b' := w.heap.size) (ownsRow_setCell_below (ownsRow_setCell_below (ownsRow_setCell_below (ownsRow_setCell_below (ownsRow_setCell_below O6 (a := ⟨w.heap.size, 0, none⟩) hlo (.int .i64 1)) (a := ⟨w.heap.size, 1, none⟩) hlo (.int .i64 fl)) (a := ⟨w.heap.size, 2, none⟩) hlo (.int .i64 0)) (a := ⟨w.heap.size, 3, none⟩) hlo (.slice none 0 0)) (a := ⟨w.heap.size, 4, none⟩) hlo (.slice none 0 0)) (Nat.le_of_lt hlo))
        have PF := Lib.hid (own_mono (b' := w.heap.size) (ownsRow_setCell_below (ownsRow_setCell_below (ownsRow_setCell_below (ownsRow_setCell_below (ownsRow_setCell_below P6 (a := ⟨w.heap.size, 0, none⟩) hlo (.int .i64 1)) (a := ⟨w.heap.size, 1, none⟩) hlo (.int .i64 fl)) (a := ⟨w.heap.size, 2, none⟩) hlo (.int .i64 0)) (a := ⟨w.heap.size, 3, none⟩) hlo (.slice none 0 0)) (a := ⟨w.heap.size, 4, none⟩) hlo (.slice none 0 0)) (Nat.le_of_lt hlo))
        clear R6 X6 O6 P6 B6 b6
        by_cases e : wishS ⟨1, fl, 0, [], []⟩ = s
        · have HP := Lib.hid (HEND.out.1 e)
          have q9 := ba_yes e
          clear e HEND
          go_wp2
          refine bodyPost_ret (v := .tuple #[.agg #[.int .i64 1, .int .i64 fl, .int .i64 0, .slice none 0 0, .slice none 0 0], .bool true]) (by simp [results, Try.results81, go_sem, c0, c1, c2, c3, c4]) rfl ?_
          refine ⟨_, _, ret_wb (x := ⟨1, fl, 0, [], []⟩) (b := true) ⟨HP.out.1.symm, HP.out.2.symm⟩, ?_, BF.out⟩
          rw [HP.out.1]
          exact ⟨OF.out, PF.out, far_nilR _⟩
        · have HP := Lib.hid (HEND.out.2 e)
          have q9 := ba_no e
          clear e HEND
          go_wp2
          refine bodyPost_ret (v := .tuple #[.agg #[.int .i64 0, .int .i64 0, .int .i64 0, .slice none 0 0, .slice none 0 0], .bool false]) (by simp [results, Try.results81, go_sem, c0, c1, c2, c3, c4]) rfl ?_
          refine ⟨_, _, ret_wb (x := zeroW) (u := .slice none 0 0) (v := .slice none 0 0) (b := false) ⟨HP.out.1.symm, HP.out.2.symm⟩, ?_, BN.out⟩
          rw [HP.out.1]; exact ownW_nil _ _
      have t1 : (a.toList == [104, 105, 103, 104]) = false := lit_no n1
      by_cases n2 : a = kindW 2
      · have t2 : (a.toList == [110, 101, 97, 114]) = true := lit_yes n2
        have X4 := Row.new w3 53 [.int .i64 2, .int .i64 fl, .int .i64 0, .slice none 0 0, .slice none 0 0]
        have R4 := R3.out.alloc (.cells #[.int .i64 2, .int .i64 fl, .int .i64 0, .slice none 0 0, .slice none 0 0] 53)
        have B4 := B3.out.alloc hlw (.cells #[.int .i64 2, .int .i64 fl, .int .i64 0, .slice none 0 0, .slice none 0 0] 53)
        have fr0 := X3.out.free 0
        have xlt := X3.out.lt
        have zW : ((w3.alloc (.cells #[.int .i64 2, .int .i64 fl, .int .i64 0, .slice none 0 0, .slice none 0 0] 53))).heap.size = w3.heap.size + 1 := by simp
        have HC0 : Hid (candS a b c9 = ⟨2, fl, l2N c9, [], []⟩) := by show _ = _; unfold candS; rw [if_neg n1, if_pos n2, hfl]
        clear n1 n2 hfl HK2
        go_wp2_with fail
        refine (l2Num _ hargs).mono ?_
        rintro e w5 ⟨rfl, b5⟩
        obtain ⟨nv, hnv⟩ : ∃ nv, l2N c9 = nv := ⟨_, rfl⟩
        have FN : Fit nv := by rw [← hnv]; exact l2N_fit _
        rw [hnv] at HC0 ⊢
        have HC := HC0
        have z5 := b5.size
        rw [zW] at z5
        have X5 := X4.below b5 X4.lt
        have R5 := R4.below b5 R4.lt
        have B5 := B4.trans (b5.mono B4.size)
        have fr2 := X5.free 2
        have xc2 : w5.cell? ⟨w3.heap.size, 2, none⟩ = some (.int .i64 0) := X5.cell 2
        have xlt5 := X5.lt
        have XX : Row (w5.setCell ⟨w3.heap.size, 2, none⟩ (.int .i64 nv)) w3.heap.size 53 [.int .i64 2, .int .i64 fl, .int .i64 nv, .slice none 0 0, .slice none 0 0] := X5.set 2 (.int .i64 nv)
        have RX := R5.far (p := ⟨w3.heap.size, 2, none⟩) (by show w.heap.size ≠ w3.heap.size; omega) (.int .i64 nv)
        have BB := B5.setCell (p := ⟨w3.heap.size, 2, none⟩) (by show w.heap.size ≤ w3.heap.size; omega) (.int .i64 nv)
        have HEND : Hid ((wishS ⟨2, fl, nv, [], []⟩ = s → parW s = ⟨2, fl, nv, [], []⟩ ∧ parWB s = true) ∧ (wishS ⟨2, fl, nv, [], []⟩ ≠ s → parW s = zeroW ∧ parWB s = false)) := by
          have h9 := HE.out _ HCAND.out
          rw [HC.out] at h9
          exact h9
        have FF : Hid (FitW ⟨2, fl, nv, [], []⟩) := ⟨by unfold Fit; simp, FL, FN, by simp, by simp⟩
        have OL : ((w5.setCell ⟨w3.heap.size, 2, none⟩ (.int .i64 nv))).ownsRow (w3.heap.size + 1) 3 1 (.slice none 0 0) 0 (([] : List Int).map (Value.int .i64)) := World.ownsRow_nil _ _ _ _
        have S1 : Sl RI 1 ((w5.setCell ⟨w3.heap.size, 2, none⟩ (.int .i64 nv))) ((w5.setCell ⟨w3.heap.size, 2, none⟩ (.int .i64 nv))).heap.size none 0 0 [] := Sl.nil _ _
        have OP : ((w5.setCell ⟨w3.heap.size, 2, none⟩ (.int .i64 nv))).ownsRow (w3.heap.size + 1) 92 2 (.slice none 0 0) 0 (prc []) := World.ownsRow_nil _ _ _ _
        have S2 : Sl RP 2 ((w5.setCell ⟨w3.heap.size, 2, none⟩ (.int .i64 nv))) ((w5.setCell ⟨w3.heap.size, 2, none⟩ (.int .i64 nv))).heap.size none 0 0 [] := Sl.nil _ _
        clear X5 R5 B5 b5 X4 R4 B4 hnv
        have y0 : (w5.setCell ⟨w3.heap.size, 2, none⟩ (.int .i64 nv)).cell? ⟨w3.heap.size, 0, none⟩ = some (.int .i64 2) := XX.cell 0
        have y1 : (w5.setCell ⟨w3.heap.size, 2, none⟩ (.int .i64 nv)).cell? ⟨w3.heap.size, 1, none⟩ = some (.int .i64 fl) := XX.cell 1
        have y2 : (w5.setCell ⟨w3.heap.size, 2, none⟩ (.int .i64 nv)).cell? ⟨w3.heap.size, 2, none⟩ = some (.int .i64 nv) := XX.cell 2
        have y3 : (w5.setCell ⟨w3.heap.size, 2, none⟩ (.int .i64 nv)).cell? ⟨w3.heap.size, 3, none⟩ = some (.slice none 0 0) := XX.cell 3
        have y4 : (w5.setCell ⟨w3.heap.size, 2, none⟩ (.int .i64 nv)).cell? ⟨w3.heap.size, 4, none⟩ = some (.slice none 0 0) := XX.cell 4
        have hltx := XX.lt
        have hltr := RX.lt
        have XH := Lib.hid XX
        have RH := Lib.hid RX
        have OLH := Lib.hid OL
        have OPH := Lib.hid OP
        have BH := Lib.hid BB
        clear XX RX OL OP BB
        go_wp2_with fail
        refine (specFormatWish (x := ⟨2, fl, nv, [], []⟩) _ S1 S2 FF.out.1 FF.out.2.1 FF.out.2.2.1).mono ?_
        rintro e w6 ⟨rfl, b6⟩
        clear y0 y1 y2 y3 y4 S1 S2
        have R6 := RH.out.below b6 hltr
        have X6 := XH.out.below b6 hltx
        have O6 := own_below OLH.out b6
        have P6 := own_below OPH.out b6
        have B6 := BH.out.trans (b6.mono BH.out.size)
        have f0 := R6.free 0
        have f1 := R6.free 1
        have f2 := R6.free 2
        have f3 := R6.free 3
        have f4 := R6.free 4
        have hlt := R6.lt
        have hlty := X6.lt
        have c0 : w6.cell? ⟨w.heap.size, 0, none⟩ = some (.int .i64 0) := R6.cell 0
        have c1 : w6.cell? ⟨w.heap.size, 1, none⟩ = some (.int .i64 0) := R6.cell 1
        have c2 : w6.cell? ⟨w.heap.size, 2, none⟩ = some (.int .i64 0) := R6.cell 2
        have c3 : w6.cell? ⟨w.heap.size, 3, none⟩ = some (.slice none 0 0) := R6.cell 3
        have c4 : w6.cell? ⟨w.heap.size, 4, none⟩ = some (.slice none 0 0) := R6.cell 4
        have y0 : w6.cell? ⟨w3.heap.size, 0, none⟩ = some (.int .i64 2) := X6.cell 0
        have y1 : w6.cell? ⟨w3.heap.size, 1, none⟩ = some (.int .i64 fl) := X6.cell 1
        have y2 : w6.cell? ⟨w3.heap.size, 2, none⟩ = some (.int .i64 nv) := X6.cell 2
        have y3 : w6.cell? ⟨w3.heap.size, 3, none⟩ = some (.slice none 0 0) := X6.cell 3
        have y4 : w6.cell? ⟨w3.heap.size, 4, none⟩ = some (.slice none 0 0) := X6.cell 4
        have BF := Lib.hid (((((B6.setCell (p := ⟨w.heap.size, 0, none⟩) (Nat.le_refl _) (.int .i64 2)).setCell (p := ⟨w.heap.size, 1, none⟩) (Nat.le_refl _) (.int .i64 fl)).setCell (p := ⟨w.heap.size, 2, none⟩) (Nat.le_refl _) (.int .i64 nv)).setCell (p := ⟨w.heap.size, 3, none⟩) (Nat.le_refl _) (.slice none 0 0)).setCell (p := ⟨w.heap.size, 4, none⟩) (Nat.le_refl _) (.slice none 0 0))
        have BN := Lib.hid (((((B6.setCell (p := ⟨w.heap.size, 0, none⟩) (Nat.le_refl _) (.int .i64 0)).setCell (p := ⟨w.heap.size, 1, none⟩) (Nat.le_refl _) (.int .i64 0)).setCell (p := ⟨w.heap.size, 2, none⟩) (Nat.le_refl _) (.int .i64 0)).setCell (p := ⟨w.heap.size, 3, none⟩) (Nat.le_refl _) (.slice none 0 0)).setCell (p := ⟨w.heap.size, 4, none⟩) (Nat.le_refl _) (.slice none 0 0))
        have OF := Lib.hid (own_mono (b' := w.heap.size) (ownsRow_setCell_below (ownsRow_setCell_below (ownsRow_setCell_below (ownsRow_setCell_below (ownsRow_setCell_below O6 (a := ⟨w.heap.size, 0, none⟩) hlo (.int .i64 2)) (a := ⟨w.heap.size, 1, none⟩) hlo (.int .i64 fl)) (a := ⟨w.heap.size, 2, none⟩) hlo (.int .i64 nv)) (a := ⟨w.heap.size, 3, none⟩) hlo (.slice none 0 0)) (a := ⟨w.heap.size, 4, none⟩) hlo (.slice none 0 0)) (Nat.le_of_lt hlo))
        have PF := Lib.hid (own_mono (b' := w.heap.size) (ownsRow_setCell_below (ownsRow_setCell_below (ownsRow_setCell_below (ownsRow_setCell_below (ownsRow_setCell_below P6 (a := ⟨w.heap.size, 0, none⟩) hlo (.int .i64 2)) (a := ⟨w.heap.size, 1, none⟩) hlo (.int .i64 fl)) (a := ⟨w.heap.size, 2, none⟩) hlo (.int .i64 nv)) (a := ⟨w.heap.size, 3, none⟩) hlo (.slice none 0 0)) (a := ⟨w.heap.size, 4, none⟩) hlo (.slice none 0 0)) (Nat.le_of_lt hlo))
        clear R6 X6 O6 P6 B6 b6
        by_cases e : wishS ⟨2, fl, nv, [], []⟩ = s
        · have HP := Lib.hid (HEND.out.1 e)
          have q9 := ba_yes e
          clear e HEND
          go_wp2
          refine bodyPost_ret (v := .tuple #[.agg #[.int .i64 2, .int .i64 fl, .int .i64 nv, .slice none 0 0, .slice none 0 0], .bool true]) (by simp [results, Try.results81, go_sem, c0, c1, c2, c3, c4]) rfl ?_
          refine ⟨_, _, ret_wb (x := ⟨2, fl, nv, [], []⟩) (b := true) ⟨HP.out.1.symm, HP.out.2.symm⟩, ?_, BF.out⟩
          rw [HP.out.1]
          exact ⟨OF.out, PF.out, far_nilR _⟩
        · have HP := Lib.hid (HEND.out.2 e)
          have q9 := ba_no e
          clear e HEND
          go_wp2
          refine bodyPost_ret (v := .tuple #[.agg #[.int .i64 0, .int .i64 0, .int .i64 0, .slice none 0 0, .slice none 0 0], .bool false]) (by simp [results, Try.results81, go_sem, c0, c1, c2, c3, c4]) rfl ?_
          refine ⟨_, _, ret_wb (x := zeroW) (u := .slice none 0 0) (v := .slice none 0 0) (b := false) ⟨HP.out.1.symm, HP.out.2.symm⟩, ?_, BN.out⟩
          rw [HP.out.1]; exact ownW_nil _ _
      have t2 : (a.toList == [110, 101, 97, 114]) = false := lit_no n2
      by_cases n3 : a = kindW 3
      · have t3 : (a.toList == [97, 109, 111, 110, 103]) = true := lit_yes n3
        have X4 := Row.new w3 53 [.int .i64 3, .int .i64 fl, .int .i64 0, .slice none 0 0, .slice none 0 0]
        have R4 := R3.out.alloc (.cells #[.int .i64 3, .int .i64 fl, .int .i64 0, .slice none 0 0, .slice none 0 0] 53)
        have B4 := B3.out.alloc hlw (.cells #[.int .i64 3, .int .i64 fl, .int .i64 0, .slice none 0 0, .slice none 0 0] 53)
        have fr0 := X3.out.free 0
        have xlt := X3.out.lt
        have zW : ((w3.alloc (.cells #[.int .i64 3, .int .i64 fl, .int .i64 0, .slice none 0 0, .slice none 0 0] 53))).heap.size = w3.heap.size + 1 := by simp
        have HC0 : Hid (candS a b c9 = ⟨3, fl, 0, rdL c9, []⟩) := by show _ = _; unfold candS; rw [if_neg n1, if_neg n2, if_pos n3, hfl]
        clear n1 n2 n3 hfl HK2
        have HCL := Lib.hid (P.cut_len c9 ⟨#[44]⟩)
        have HX1 := Lib.hid (P.cut_size c9 ⟨#[44]⟩)
        go_wp2_with fail
        refine (l2Cut _ (b := 44) hargs2).mono ?_
        rintro e w4 ⟨vp, rfl, hP, b4⟩
        have z4 := b4.size
        rw [zW] at z4
        have X5 := X4.below b4 X4.lt
        have R5 := R4.below b4 R4.lt
        have B5 := B4.trans (b4.mono B4.size)
        have hP1 := hP.1
        rw [zW] at hP1
        have hP1 := Lib.hid hP1
        have hP2 := Lib.hid hP.2
        obtain ⟨A2, c2, rfl, _, _⟩ := own_form hP.1
        obtain ⟨n, hn⟩ : ∃ n, (P.cut c9 ⟨#[44]⟩).length = n := ⟨_, rfl⟩
        have HL := Lib.hid hn
        have hn1 : n ≤ 1048577 := by have := HL.out; have := HCL.out; omega
        obtain ⟨rl, hrl9⟩ : ∃ rl, Hid (rdL c9 = rl) := ⟨_, rfl⟩
        have HRL : Hid (rl.length = n) := by show _ = _; rw [← hrl9.out]; unfold rdL; rw [List.length_map, HL.out]
        have HRF : Hid (∀ y ∈ rl, Fit y) := by
          show ∀ y ∈ rl, Fit y
          rw [← hrl9.out]
          intro y hy
          unfold rdL at hy
          obtain ⟨t, _, rfl⟩ := List.mem_map.1 hy
          exact l2N_fit _
        have XR4 := Lib.hid X5
        have RR4 := Lib.hid R5
        have BR4 := Lib.hid B5
        clear hP b4 X5 R5 B5 X4 R4 B4
        rw [hn]
        rw [hn] at hP1 hP2
        go_wp2
        go_loopw [8] (fun vi wr => ∃ (k : Nat) (A5 : Option Addr) (c5 : Nat), k ≤ n ∧ vi = .int .i64 k ∧ Hid (wr.ownsRow w4.heap.size 3 1 (.slice A5 k c5) k ((rl.take k).map (Value.int .i64))) ∧ Hid (wr.ownsRow (w3.heap.size + 1) 9 1 (.slice A2 n c2) n ((P.cut c9 ⟨#[44]⟩).map Value.string)) ∧ Hid (Row wr w3.heap.size 53 [.int .i64 3, .int .i64 fl, .int .i64 0, .slice A5 k c5, .slice none 0 0]) ∧ Hid (Row wr w.heap.size 53 [.int .i64 0, .int .i64 0, .int .i64 0, .slice none 0 0, .slice none 0 0]) ∧ w4.heap.size ≤ wr.heap.size ∧ Below w.heap.size w wr) (fun vi _ => n - (intOf vi).toNat)
        case atStart => exact ⟨0, none, 0, Nat.zero_le _, rfl, World.ownsRow_nil _ _ _ _, hP1, XR4, RR4, Nat.le_refl _, BR4.out⟩
        case round =>
          clear hP1 XR4 RR4 BR4
          obtain ⟨k, A5, c5, hk, rfl, hown, hpr, hXr, hRr, hw4, hbw⟩ := hrel
          by_cases hlt : k < n
          · obtain ⟨A', n', c', e', hS⟩ := own_strs (xs := P.cut c9 ⟨#[44]⟩) (by rw [HL.out]; exact hpr.out) (fun x hx => by have := HX1.out x hx; unfold maxLen; omega)
            injection e' with e1 e2 e3
            subst e1 e2 e3
            obtain ⟨bt, ot, t, rfl, hbt, hxt, _, hct⟩ := hS.str hlt
            have hnc3 := hS.le
            have q1' : (k : Int) < (n : Int) := by omega
            have q2' : (n : Int) ≤ (c2 : Int) := by omega
            have hts : t.size ≤ maxLen := by have := HX1.out t (List.mem_of_getElem? hxt); unfold maxLen; omega
            have HT : Hid (rl[k]? = some (l2N t)) := by show _ = _; rw [← hrl9.out]; unfold rdL; rw [List.getElem?_map, hxt]; rfl
            obtain ⟨hbtl, hbth⟩ : w3.heap.size + 1 ≤ bt ∧ bt < w4.heap.size := ⟨(hpr.out.lt bt rfl).1, hP2.out bt rfl⟩
            have C0 : wr.drew.cell? ⟨bt, ot + k, none⟩ = some (.string t) := hct
            have xl := hXr.out.lt
            have x1c : wr.drew.cell? ⟨w3.heap.size, 3, none⟩ = some (.slice A5 k c5) := hXr.out.cell 3
            have hrow : ∀ q, (Value.slice A5 k c5).ownBlock = some q → w4.heap.size ≤ q := fun q hq => (hown.out.lt q hq).1
            have h63 : k + 1 ≤ maxLen := by unfold maxLen; omega
            have hby : (k + 1) * 8 ≤ 140737488355328 := by omega
            clear hS hxt hct
            go_wp2_with fail
            refine wp_region_T 8 (fun w' => w'.cell? ⟨w3.heap.size, 3, none⟩ = some (.slice A5 k c5) ∧ w'.cell? ⟨bt, ot + k, none⟩ = some (.string t)) (by kernel_rfl) ⟨x1c, C0⟩ (fun hC => ?_)
            refine wpAnyT_take (i := 0) (v := ?v9_0y) rfl (by kernel_rfl) (fun _ _ _ h => h) (Or.inl ⟨by rfl, ?h9_0y⟩) (by assumption) ?r9_0y; (case h9_0y => (intro w9 hC9; (try dsimp only at hC9); go_simp; (try with_reducible rfl))); (try simp only [Act.put, List.setIfInBounds_toArray, List.set_cons_zero, List.set_cons_succ])
            refine wpAnyT_take (i := 1) (v := ?v9_1y) rfl (by kernel_rfl) (fun _ _ _ h => h) (Or.inl ⟨by rfl, ?h9_1y⟩) (by assumption) ?r9_1y; (case h9_1y => (intro w9 hC9; (try dsimp only at hC9); go_simp; (try with_reducible rfl))); (try simp only [Act.put, List.setIfInBounds_toArray, List.set_cons_zero, List.set_cons_succ])
            refine wpAnyT_take (i := 2) (v := ?v9_2y) rfl (by kernel_rfl) (fun _ _ _ h => h) (Or.inl ⟨by rfl, ?h9_2y⟩) (by assumption) ?r9_2y; (case h9_2y => (intro w9 hC9; (try dsimp only at hC9); go_simp; (try with_reducible rfl))); (try simp only [Act.put, List.setIfInBounds_toArray, List.set_cons_zero, List.set_cons_succ])
            refine wpAnyT_take (i := 3) (v := ?v9_3y) rfl (by kernel_rfl) (fun _ _ _ h => h) (Or.inl ⟨by rfl, ?h9_3y⟩) (by assumption) ?r9_3y; (case h9_3y => (intro w9 hC9; (try dsimp only at hC9); go_simp; (try with_reducible rfl))); (try simp only [Act.put, List.setIfInBounds_toArray, List.set_cons_zero, List.set_cons_succ])
            refine wpAnyT_take (i := 4) (v := ?v9_4y) rfl (by kernel_rfl) (fun _ _ _ h => h) (Or.inl ⟨by rfl, ?h9_4y⟩) (by assumption) ?r9_4y; (case h9_4y => (intro w9 hC9; (try dsimp only at hC9); go_simp; (try with_reducible rfl))); (try simp only [Act.put, List.setIfInBounds_toArray, List.set_cons_zero, List.set_cons_succ])
            refine wpAnyT_take (i := 5) (v := ?v9_5y) rfl (by kernel_rfl) (fun _ _ _ h => h) (Or.inl ⟨by rfl, ?h9_5y⟩) (by assumption) ?r9_5y; (case h9_5y => (intro w9 hC9; (try dsimp only at hC9); go_simp; (try with_reducible rfl))); (try simp only [Act.put, List.setIfInBounds_toArray, List.set_cons_zero, List.set_cons_succ])
            refine wpAnyT_rest 6 (by kernel_rfl) ?_; simp only [List.drop_succ_cons, List.drop_zero]
            refine wpListT_step rfl ?_
            go_wp2_with fail
            refine (l2Num _ hts).mono ?_
            rintro e w8 ⟨rfl, b8⟩
            have x8 := celB x1c b8 (by simp; omega)
            have C8 := celB C0 b8 (by simp; omega)
            have s8 := b8.size
            go_wp2
            refine ⟨fun _ => ⟨x8, C8⟩, ?_⟩
            refine wpListT_step rfl ?_
            go_wp2
            refine ⟨fun _ => ⟨celA x8 _, celA C8 _⟩, ?_⟩
            refine wpListT_end (by decide) rfl ?_
            have b8' := below_dr76 b8
            have hwr8 := b8'.size
            have hown8 := Lib.hid (own_below hown.out b8')
            have hpr8 := Lib.hid (own_below hpr.out b8')
            have hX8 := Lib.hid ((hXr.out.below b8' xl).alloc (.cells #[.int .i64 (l2N t)] 3))
            have hR8 := Lib.hid ((hRr.out.below b8' hRr.out.lt).alloc (.cells #[.int .i64 (l2N t)] 3))
            have hbw8 := Lib.hid ((hbw.trans (b8'.mono hbw.size)).alloc (by have := hbw.size; omega) (.cells #[.int .i64 (l2N t)] 3))
            clear b8 x8 C8
            go_wp2_with (at_builtin; refine wpList_append_own _ rfl _ _ 29 rfl w4.heap.size 3 i0 (.int .i64 0) 1 8 Try.underlying29 hi hz0 hz1 hz2 rfl (by decide) _ _ _ rfl (hown8.out.alloc _) ⟨w8.heap.size, 0, none⟩ 1 1 [_] rfl rfl (one_new _ _ _) (by simp [Value.oneCell']) (by unfold maxLen; omega) (by omega) (by simp; omega) ?_)
            intro v' w9 hown9 hgrow _
            obtain ⟨A9, c9, rfl, _, _⟩ := own_form hown9
            have hX9 := hX8.out.grown hgrow (fun e => by have := hrow _ e.symm; omega)
            have hR9 := hR8.out.grown hgrow (fun e => by have := hrow _ e.symm; have := hRr.out.lt; have := hbw.size; omega)
            have hpr9 := own_grown (hpr8.out.alloc _) hgrow (fun g hg e => by have := hrow g e.symm; have := hP2.out g hg; omega)
            have hB9 := Lib.hid (hbw8.out.grown hgrow (by have := hbw.size; simp; omega) (fun q hq => by have := hrow q hq; have := hbw.size; omega))
            have f1 := hX9.free 3
            have y1 : w9.cell? ⟨w3.heap.size, 3, none⟩ = some (.slice A5 k c5) := hX9.cell 3
            have hlt9 := hX9.lt
            have hs9 := hgrow.size
            simp at hs9
            have X10 : Hid (Row (w9.setCell ⟨w3.heap.size, 3, none⟩ (.slice A9 (k + 1) c9)) w3.heap.size 53 [.int .i64 3, .int .i64 fl, .int .i64 0, .slice A9 (k + 1) c9, .slice none 0 0]) := hX9.set 3 _
            have R10 : Hid (Row (w9.setCell ⟨w3.heap.size, 3, none⟩ (.slice A9 (k + 1) c9)) w.heap.size 53 [.int .i64 0, .int .i64 0, .int .i64 0, .slice none 0 0, .slice none 0 0]) := hR9.far (by show w.heap.size ≠ w3.heap.size; omega) _
            have P10 := Lib.hid (ownsRow_setCell_below hpr9 (a := ⟨w3.heap.size, 3, none⟩) (by show w3.heap.size < _; omega) (.slice A9 (k + 1) c9))
            have O10 : Hid ((w9.setCell ⟨w3.heap.size, 3, none⟩ (.slice A9 (k + 1) c9)).ownsRow w4.heap.size 3 1 (.slice A9 (k + 1) c9) (k + 1) ((rl.take (k + 1)).map (Value.int .i64))) := by
              have := ownsRow_setCell_below hown9 (a := ⟨w3.heap.size, 3, none⟩) (by show w3.heap.size < _; omega) (.slice A9 (k + 1) c9)
              obtain ⟨hl9, e9⟩ := List.getElem?_eq_some_iff.1 HT.out
              show World.ownsRow _ _ _ _ _ _ _
              rw [List.take_succ_eq_append_getElem hl9, e9, List.map_append, List.map_take]
              exact this
            have B10 := Lib.hid (hB9.out.setCell (p := ⟨w3.heap.size, 3, none⟩) (by show w.heap.size ≤ w3.heap.size; omega) (.slice A9 (k + 1) c9))
            clear hX9 hR9 hpr9 hown9 hgrow hbw
            go_wp2
            go_roundw
            case rel => exact ⟨k + 1, A9, c9, by omega, by go_num, O10.out, P10.out, X10.out, R10.out, by simp; omega, B10.out⟩
            case measure => simp [intOf]; omega
          · have hkn : k = n := by omega
            subst hkn
            have q1' : ¬ (k : Int) < (k : Int) := by omega
            have OL := hown.out
            have HR9 := HRL.out
            rw [List.take_of_length_le (by omega)] at OL
            have XX := hXr.out
            have RX := hRr.out
            have BB := hbw
            have hlo4 : w3.heap.size + 1 ≤ w4.heap.size := z4
            have OL := own_mono (b' := w3.heap.size + 1) OL hlo4
            rw [← HR9] at OL XX
            have HC : Hid (candS a b c9 = ⟨3, fl, 0, rl, []⟩) := by show _ = _; rw [HC0.out, hrl9.out]
            have S1 : Sl RI 1 wr wr.heap.size A5 rl.length c5 rl := by
              obtain ⟨A', n', c', e', hS⟩ := own_ints OL HRF.out
              injection e' with e1 e2 e3
              subst e1 e2 e3
              exact hS
            have FF : Hid (FitW ⟨3, fl, 0, rl, []⟩) := ⟨by unfold Fit; simp, FL, by unfold Fit; simp, HRF.out, by simp⟩
            have HKL : Hid (k = rl.length) := HR9.symm
            clear hown hXr hRr hpr hbw HR9
            have HEND : Hid ((wishS ⟨3, fl, 0, rl, []⟩ = s → parW s = ⟨3, fl, 0, rl, []⟩ ∧ parWB s = true) ∧ (wishS ⟨3, fl, 0, rl, []⟩ ≠ s → parW s = zeroW ∧ parWB s = false)) := by
              have h9 := HE.out _ HCAND.out
              rw [HC.out] at h9
              exact h9
            have OP : (wr).ownsRow (w3.heap.size + 1) 92 2 (.slice none 0 0) 0 (prc []) := World.ownsRow_nil _ _ _ _
            have S2 : Sl RP 2 (wr) (wr).heap.size none 0 0 [] := Sl.nil _ _
            have y0 : wr.cell? ⟨w3.heap.size, 0, none⟩ = some (.int .i64 3) := XX.cell 0
            have y1 : wr.cell? ⟨w3.heap.size, 1, none⟩ = some (.int .i64 fl) := XX.cell 1
            have y2 : wr.cell? ⟨w3.heap.size, 2, none⟩ = some (.int .i64 0) := XX.cell 2
            have y3 : wr.cell? ⟨w3.heap.size, 3, none⟩ = some (.slice A5 rl.length c5) := XX.cell 3
            have y4 : wr.cell? ⟨w3.heap.size, 4, none⟩ = some (.slice none 0 0) := XX.cell 4
            have hltx := XX.lt
            have hltr := RX.lt
            have XH := Lib.hid XX
            have RH := Lib.hid RX
            have OLH := Lib.hid OL
            have OPH := Lib.hid OP
            have BH := Lib.hid BB
            clear XX RX OL OP BB
            go_wp2_with fail
            refine (specFormatWish (x := ⟨3, fl, 0, rl, []⟩) _ S1 S2 FF.out.1 FF.out.2.1 FF.out.2.2.1).mono ?_
            rintro e w6 ⟨rfl, b6⟩
            clear y0 y1 y2 y3 y4 S1 S2
            have R6 := RH.out.below b6 hltr
            have X6 := XH.out.below b6 hltx
            have O6 := own_below OLH.out b6
            have P6 := own_below OPH.out b6
            have B6 := BH.out.trans (b6.mono BH.out.size)
            have f0 := R6.free 0
            have f1 := R6.free 1
            have f2 := R6.free 2
            have f3 := R6.free 3
            have f4 := R6.free 4
            have hlt := R6.lt
            have hlty := X6.lt
            have c0 : w6.cell? ⟨w.heap.size, 0, none⟩ = some (.int .i64 0) := R6.cell 0
            have c1 : w6.cell? ⟨w.heap.size, 1, none⟩ = some (.int .i64 0) := R6.cell 1
            have c2 : w6.cell? ⟨w.heap.size, 2, none⟩ = some (.int .i64 0) := R6.cell 2
            have c3 : w6.cell? ⟨w.heap.size, 3, none⟩ = some (.slice none 0 0) := R6.cell 3
            have c4 : w6.cell? ⟨w.heap.size, 4, none⟩ = some (.slice none 0 0) := R6.cell 4
            have y0 : w6.cell? ⟨w3.heap.size, 0, none⟩ = some (.int .i64 3) := X6.cell 0
            have y1 : w6.cell? ⟨w3.heap.size, 1, none⟩ = some (.int .i64 fl) := X6.cell 1
            have y2 : w6.cell? ⟨w3.heap.size, 2, none⟩ = some (.int .i64 0) := X6.cell 2
            have y3 : w6.cell? ⟨w3.heap.size, 3, none⟩ = some (.slice A5 rl.length c5) := X6.cell 3
            have y4 : w6.cell? ⟨w3.heap.size, 4, none⟩ = some (.slice none 0 0) := X6.cell 4
            have BF := Lib.hid (((((B6.setCell (p := ⟨w.heap.size, 0, none⟩) (Nat.le_refl _) (.int .i64 3)).setCell (p := ⟨w.heap.size, 1, none⟩) (Nat.le_refl _) (.int .i64 fl)).setCell (p := ⟨w.heap.size, 2, none⟩) (Nat.le_refl _) (.int .i64 0)).setCell (p := ⟨w.heap.size, 3, none⟩) (Nat.le_refl _) (.slice A5 rl.length c5)).setCell (p := ⟨w.heap.size, 4, none⟩) (Nat.le_refl _) (.slice none 0 0))
            have BN := Lib.hid (((((B6.setCell (p := ⟨w.heap.size, 0, none⟩) (Nat.le_refl _) (.int .i64 0)).setCell (p := ⟨w.heap.size, 1, none⟩) (Nat.le_refl _) (.int .i64 0)).setCell (p := ⟨w.heap.size, 2, none⟩) (Nat.le_refl _) (.int .i64 0)).setCell (p := ⟨w.heap.size, 3, none⟩) (Nat.le_refl _) (.slice none 0 0)).setCell (p := ⟨w.heap.size, 4, none⟩) (Nat.le_refl _) (.slice none 0 0))
            have OF := Lib.hid (own_mono (b' := w.heap.size) (ownsRow_setCell_below (ownsRow_setCell_below (ownsRow_setCell_below (ownsRow_setCell_below (ownsRow_setCell_below O6 (a := ⟨w.heap.size, 0, none⟩) hlo (.int .i64 3)) (a := ⟨w.heap.size, 1, none⟩) hlo (.int .i64 fl)) (a := ⟨w.heap.size, 2, none⟩) hlo (.int .i64 0)) (a := ⟨w.heap.size, 3, none⟩) hlo (.slice A5 rl.length c5)) (a := ⟨w.heap.size, 4, none⟩) hlo (.slice none 0 0)) (Nat.le_of_lt hlo))
            have PF := Lib.hid (own_mono (b' := w.heap.size) (ownsRow_setCell_below (ownsRow_setCell_below (ownsRow_setCell_below (ownsRow_setCell_below (ownsRow_setCell_below P6 (a := ⟨w.heap.size, 0, none⟩) hlo (.int .i64 3)) (a := ⟨w.heap.size, 1, none⟩) hlo (.int .i64 fl)) (a := ⟨w.heap.size, 2, none⟩) hlo (.int .i64 0)) (a := ⟨w.heap.size, 3, none⟩) hlo (.slice A5 rl.length c5)) (a := ⟨w.heap.size, 4, none⟩) hlo (.slice none 0 0)) (Nat.le_of_lt hlo))
            clear R6 X6 O6 P6 B6 b6
            by_cases e : wishS ⟨3, fl, 0, rl, []⟩ = s
            · have HP := Lib.hid (HEND.out.1 e)
              have q9 := ba_yes e
              clear e HEND
              go_wp2
              refine bodyPost_ret (v := .tuple #[.agg #[.int .i64 3, .int .i64 fl, .int .i64 0, .slice A5 rl.length c5, .slice none 0 0], .bool true]) (by simp [results, Try.results81, go_sem, c0, c1, c2, c3, c4]) rfl ?_
              refine ⟨_, _, ret_wb (x := ⟨3, fl, 0, rl, []⟩) (b := true) ⟨HP.out.1.symm, HP.out.2.symm⟩, ?_, BF.out⟩
              rw [HP.out.1]
              exact ⟨OF.out, PF.out, far_nilR _⟩
            · have HP := Lib.hid (HEND.out.2 e)
              have q9 := ba_no e
              clear e HEND
              go_wp2
              refine bodyPost_ret (v := .tuple #[.agg #[.int .i64 0, .int .i64 0, .int .i64 0, .slice none 0 0, .slice none 0 0], .bool false]) (by simp [results, Try.results81, go_sem, c0, c1, c2, c3, c4]) rfl ?_
              refine ⟨_, _, ret_wb (x := zeroW) (u := .slice none 0 0) (v := .slice none 0 0) (b := false) ⟨HP.out.1.symm, HP.out.2.symm⟩, ?_, BN.out⟩
              rw [HP.out.1]; exact ownW_nil _ _
      have t3 : (a.toList == [97, 109, 111, 110, 103]) = false := lit_no n3
      by_cases n4 : a = kindW 4
      · have t4 : (a.toList == [111, 114, 100, 101, 114]) = true := lit_yes n4
        have X4 := Row.new w3 53 [.int .i64 4, .int .i64 fl, .int .i64 0, .slice none 0 0, .slice none 0 0]
        have R4 := R3.out.alloc (.cells #[.int .i64 4, .int .i64 fl, .int .i64 0, .slice none 0 0, .slice none 0 0] 53)
        have B4 := B3.out.alloc hlw (.cells #[.int .i64 4, .int .i64 fl, .int .i64 0, .slice none 0 0, .slice none 0 0] 53)
        have fr0 := X3.out.free 0
        have xlt := X3.out.lt
        have zW : ((w3.alloc (.cells #[.int .i64 4, .int .i64 fl, .int .i64 0, .slice none 0 0, .slice none 0 0] 53))).heap.size = w3.heap.size + 1 := by simp
        have HC0 : Hid (candS a b c9 = ⟨4, fl, 0, [], parP c9⟩) := by show _ = _; unfold candS; rw [if_neg n1, if_neg n2, if_neg n3, if_pos n4, hfl]
        clear n1 n2 n3 n4 hfl HK2
        go_wp2_with fail
        refine (specParsePairs _ hargs2).mono ?_
        rintro e w5 ⟨vq, rfl, Oq, b5⟩
        have FQ := Lib.hid (parP_fit c9)
        obtain ⟨ps, hps⟩ : ∃ ps, parP c9 = ps := ⟨_, rfl⟩
        rw [hps] at HC0 Oq FQ
        have HC := HC0
        obtain ⟨E5, d5, rfl, _, _⟩ := own_form Oq.1
        have z5 := b5.size
        rw [zW] at z5
        have X5 := X4.below b5 X4.lt
        have R5 := R4.below b5 R4.lt
        have B5 := B4.trans (b5.mono B4.size)
        have O5 := Oq.1
        rw [zW] at O5
        have fr4 := X5.free 4
        have xc4 : w5.cell? ⟨w3.heap.size, 4, none⟩ = some (.slice none 0 0) := X5.cell 4
        have xlt5 := X5.lt
        have XX : Row (w5.setCell ⟨w3.heap.size, 4, none⟩ (.slice E5 ps.length d5)) w3.heap.size 53 [.int .i64 4, .int .i64 fl, .int .i64 0, .slice none 0 0, .slice E5 ps.length d5] := X5.set 4 (.slice E5 ps.length d5)
        have RX := R5.far (p := ⟨w3.heap.size, 4, none⟩) (by show w.heap.size ≠ w3.heap.size; omega) (.slice E5 ps.length d5)
        have BB := B5.setCell (p := ⟨w3.heap.size, 4, none⟩) (by show w.heap.size ≤ w3.heap.size; omega) (.slice E5 ps.length d5)
        have OP := ownsRow_setCell_below O5 (a := ⟨w3.heap.size, 4, none⟩) (by show w3.heap.size < w3.heap.size + 1; omega) (.slice E5 ps.length d5)
        have S2 : Sl RP 2 (w5.setCell ⟨w3.heap.size, 4, none⟩ (.slice E5 ps.length d5)) (w5.setCell ⟨w3.heap.size, 4, none⟩ (.slice E5 ps.length d5)).heap.size E5 ps.length d5 ps := by
          obtain ⟨A', n', c', e', hS⟩ := own_pairs OP FQ.out
          injection e' with e1 e2 e3
          subst e1 e2 e3
          exact hS
        have HEND : Hid ((wishS ⟨4, fl, 0, [], ps⟩ = s → parW s = ⟨4, fl, 0, [], ps⟩ ∧ parWB s = true) ∧ (wishS ⟨4, fl, 0, [], ps⟩ ≠ s → parW s = zeroW ∧ parWB s = false)) := by
          have h9 := HE.out _ HCAND.out
          rw [HC.out] at h9
          exact h9
        have FF : Hid (FitW ⟨4, fl, 0, [], ps⟩) := ⟨by unfold Fit; simp, FL, by unfold Fit; simp, by simp, FQ.out⟩
        have OL : ((w5.setCell ⟨w3.heap.size, 4, none⟩ (.slice E5 ps.length d5))).ownsRow (w3.heap.size + 1) 3 1 (.slice none 0 0) 0 (([] : List Int).map (Value.int .i64)) := World.ownsRow_nil _ _ _ _
        have S1 : Sl RI 1 ((w5.setCell ⟨w3.heap.size, 4, none⟩ (.slice E5 ps.length d5))) ((w5.setCell ⟨w3.heap.size, 4, none⟩ (.slice E5 ps.length d5))).heap.size none 0 0 [] := Sl.nil _ _
        clear X5 R5 B5 b5 X4 R4 B4 hps O5 Oq
        have y0 : (w5.setCell ⟨w3.heap.size, 4, none⟩ (.slice E5 ps.length d5)).cell? ⟨w3.heap.size, 0, none⟩ = some (.int .i64 4) := XX.cell 0
        have y1 : (w5.setCell ⟨w3.heap.size, 4, none⟩ (.slice E5 ps.length d5)).cell? ⟨w3.heap.size, 1, none⟩ = some (.int .i64 fl) := XX.cell 1
        have y2 : (w5.setCell ⟨w3.heap.size, 4, none⟩ (.slice E5 ps.length d5)).cell? ⟨w3.heap.size, 2, none⟩ = some (.int .i64 0) := XX.cell 2
        have y3 : (w5.setCell ⟨w3.heap.size, 4, none⟩ (.slice E5 ps.length d5)).cell? ⟨w3.heap.size, 3, none⟩ = some (.slice none 0 0) := XX.cell 3
        have y4 : (w5.setCell ⟨w3.heap.size, 4, none⟩ (.slice E5 ps.length d5)).cell? ⟨w3.heap.size, 4, none⟩ = some (.slice E5 ps.length d5) := XX.cell 4
        have hltx := XX.lt
        have hltr := RX.lt
        have XH := Lib.hid XX
        have RH := Lib.hid RX
        have OLH := Lib.hid OL
        have OPH := Lib.hid OP
        have BH := Lib.hid BB
        clear XX RX OL OP BB
        go_wp2_with fail
        refine (specFormatWish (x := ⟨4, fl, 0, [], ps⟩) _ S1 S2 FF.out.1 FF.out.2.1 FF.out.2.2.1).mono ?_
        rintro e w6 ⟨rfl, b6⟩
        clear y0 y1 y2 y3 y4 S1 S2
        have R6 := RH.out.below b6 hltr
        have X6 := XH.out.below b6 hltx
        have O6 := own_below OLH.out b6
        have P6 := own_below OPH.out b6
        have B6 := BH.out.trans (b6.mono BH.out.size)
        have f0 := R6.free 0
        have f1 := R6.free 1
        have f2 := R6.free 2
        have f3 := R6.free 3
        have f4 := R6.free 4
        have hlt := R6.lt
        have hlty := X6.lt
        have c0 : w6.cell? ⟨w.heap.size, 0, none⟩ = some (.int .i64 0) := R6.cell 0
        have c1 : w6.cell? ⟨w.heap.size, 1, none⟩ = some (.int .i64 0) := R6.cell 1
        have c2 : w6.cell? ⟨w.heap.size, 2, none⟩ = some (.int .i64 0) := R6.cell 2
        have c3 : w6.cell? ⟨w.heap.size, 3, none⟩ = some (.slice none 0 0) := R6.cell 3
        have c4 : w6.cell? ⟨w.heap.size, 4, none⟩ = some (.slice none 0 0) := R6.cell 4
        have y0 : w6.cell? ⟨w3.heap.size, 0, none⟩ = some (.int .i64 4) := X6.cell 0
        have y1 : w6.cell? ⟨w3.heap.size, 1, none⟩ = some (.int .i64 fl) := X6.cell 1
        have y2 : w6.cell? ⟨w3.heap.size, 2, none⟩ = some (.int .i64 0) := X6.cell 2
        have y3 : w6.cell? ⟨w3.heap.size, 3, none⟩ = some (.slice none 0 0) := X6.cell 3
        have y4 : w6.cell? ⟨w3.heap.size, 4, none⟩ = some (.slice E5 ps.length d5) := X6.cell 4
        have BF := Lib.hid (((((B6.setCell (p := ⟨w.heap.size, 0, none⟩) (Nat.le_refl _) (.int .i64 4)).setCell (p := ⟨w.heap.size, 1, none⟩) (Nat.le_refl _) (.int .i64 fl)).setCell (p := ⟨w.heap.size, 2, none⟩) (Nat.le_refl _) (.int .i64 0)).setCell (p := ⟨w.heap.size, 3, none⟩) (Nat.le_refl _) (.slice none 0 0)).setCell (p := ⟨w.heap.size, 4, none⟩) (Nat.le_refl _) (.slice E5 ps.length d5))
        have BN := Lib.hid (((((B6.setCell (p := ⟨w.heap.size, 0, none⟩) (Nat.le_refl _) (.int .i64 0)).setCell (p := ⟨w.heap.size, 1, none⟩) (Nat.le_refl _) (.int .i64 0)).setCell (p := ⟨w.heap.size, 2, none⟩) (Nat.le_refl _) (.int .i64 0)).setCell (p := ⟨w.heap.size, 3, none⟩) (Nat.le_refl _) (.slice none 0 0)).setCell (p := ⟨w.heap.size, 4, none⟩) (Nat.le_refl _) (.slice none 0 0))
        have OF := Lib.hid (own_mono (b' := w.heap.size) (ownsRow_setCell_below (ownsRow_setCell_below (ownsRow_setCell_below (ownsRow_setCell_below (ownsRow_setCell_below O6 (a := ⟨w.heap.size, 0, none⟩) hlo (.int .i64 4)) (a := ⟨w.heap.size, 1, none⟩) hlo (.int .i64 fl)) (a := ⟨w.heap.size, 2, none⟩) hlo (.int .i64 0)) (a := ⟨w.heap.size, 3, none⟩) hlo (.slice none 0 0)) (a := ⟨w.heap.size, 4, none⟩) hlo (.slice E5 ps.length d5)) (Nat.le_of_lt hlo))
        have PF := Lib.hid (own_mono (b' := w.heap.size) (ownsRow_setCell_below (ownsRow_setCell_below (ownsRow_setCell_below (ownsRow_setCell_below (ownsRow_setCell_below P6 (a := ⟨w.heap.size, 0, none⟩) hlo (.int .i64 4)) (a := ⟨w.heap.size, 1, none⟩) hlo (.int .i64 fl)) (a := ⟨w.heap.size, 2, none⟩) hlo (.int .i64 0)) (a := ⟨w.heap.size, 3, none⟩) hlo (.slice none 0 0)) (a := ⟨w.heap.size, 4, none⟩) hlo (.slice E5 ps.length d5)) (Nat.le_of_lt hlo))
        clear R6 X6 O6 P6 B6 b6
        by_cases e : wishS ⟨4, fl, 0, [], ps⟩ = s
        · have HP := Lib.hid (HEND.out.1 e)
          have q9 := ba_yes e
          clear e HEND
          go_wp2
          refine bodyPost_ret (v := .tuple #[.agg #[.int .i64 4, .int .i64 fl, .int .i64 0, .slice none 0 0, .slice E5 ps.length d5], .bool true]) (by simp [results, Try.results81, go_sem, c0, c1, c2, c3, c4]) rfl ?_
          refine ⟨_, _, ret_wb (x := ⟨4, fl, 0, [], ps⟩) (b := true) ⟨HP.out.1.symm, HP.out.2.symm⟩, ?_, BF.out⟩
          rw [HP.out.1]
          exact ⟨OF.out, PF.out, .inl rfl⟩
        · have HP := Lib.hid (HEND.out.2 e)
          have q9 := ba_no e
          clear e HEND
          go_wp2
          refine bodyPost_ret (v := .tuple #[.agg #[.int .i64 0, .int .i64 0, .int .i64 0, .slice none 0 0, .slice none 0 0], .bool false]) (by simp [results, Try.results81, go_sem, c0, c1, c2, c3, c4]) rfl ?_
          refine ⟨_, _, ret_wb (x := zeroW) (u := .slice none 0 0) (v := .slice none 0 0) (b := false) ⟨HP.out.1.symm, HP.out.2.symm⟩, ?_, BN.out⟩
          rw [HP.out.1]; exact ownW_nil _ _
      have t4 : (a.toList == [111, 114, 100, 101, 114]) = false := lit_no n4
      have HC : Hid (candS a b c9 = ⟨0, fl, 0, [], []⟩) := by show _ = _; unfold candS; rw [if_neg n1, if_neg n2, if_neg n3, if_neg n4, hfl]
      have HEND : Hid ((wishS ⟨0, fl, 0, [], []⟩ = s → parW s = ⟨0, fl, 0, [], []⟩ ∧ parWB s = true) ∧ (wishS ⟨0, fl, 0, [], []⟩ ≠ s → parW s = zeroW ∧ parWB s = false)) := by
        have h9 := HE.out _ HCAND.out
        rw [HC.out] at h9
        exact h9
      have FF : Hid (FitW ⟨0, fl, 0, [], []⟩) := ⟨by unfold Fit; simp, FL, by unfold Fit; simp, by simp, by simp⟩
      have XX := Row.new w3 53 [.int .i64 0, .int .i64 fl, .int .i64 0, .slice none 0 0, .slice none 0 0]
      have RX := R3.out.alloc (.cells #[.int .i64 0, .int .i64 fl, .int .i64 0, .slice none 0 0, .slice none 0 0] 53)
      have BB := B3.out.alloc hlw (.cells #[.int .i64 0, .int .i64 fl, .int .i64 0, .slice none 0 0, .slice none 0 0] 53)
      have fr0 := X3.out.free 0
      have xlt := X3.out.lt
      have OL : ((w3.alloc (.cells #[.int .i64 0, .int .i64 fl, .int .i64 0, .slice none 0 0, .slice none 0 0] 53))).ownsRow (w3.heap.size + 1) 3 1 (.slice none 0 0) 0 (([] : List Int).map (Value.int .i64)) := World.ownsRow_nil _ _ _ _
      have S1 : Sl RI 1 ((w3.alloc (.cells #[.int .i64 0, .int .i64 fl, .int .i64 0, .slice none 0 0, .slice none 0 0] 53))) ((w3.alloc (.cells #[.int .i64 0, .int .i64 fl, .int .i64 0, .slice none 0 0, .slice none 0 0] 53))).heap.size none 0 0 [] := Sl.nil _ _
      have OP : ((w3.alloc (.cells #[.int .i64 0, .int .i64 fl, .int .i64 0, .slice none 0 0, .slice none 0 0] 53))).ownsRow (w3.heap.size + 1) 92 2 (.slice none 0 0) 0 (prc []) := World.ownsRow_nil _ _ _ _
      have S2 : Sl RP 2 ((w3.alloc (.cells #[.int .i64 0, .int .i64 fl, .int .i64 0, .slice none 0 0, .slice none 0 0] 53))) ((w3.alloc (.cells #[.int .i64 0, .int .i64 fl, .int .i64 0, .slice none 0 0, .slice none 0 0] 53))).heap.size none 0 0 [] := Sl.nil _ _
      clear n1 n2 n3 n4 hfl HK2
      have y0 : (w3.alloc (.cells #[.int .i64 0, .int .i64 fl, .int .i64 0, .slice none 0 0, .slice none 0 0] 53)).cell? ⟨w3.heap.size, 0, none⟩ = some (.int .i64 0) := XX.cell 0
      have y1 : (w3.alloc (.cells #[.int .i64 0, .int .i64 fl, .int .i64 0, .slice none 0 0, .slice none 0 0] 53)).cell? ⟨w3.heap.size, 1, none⟩ = some (.int .i64 fl) := XX.cell 1
      have y2 : (w3.alloc (.cells #[.int .i64 0, .int .i64 fl, .int .i64 0, .slice none 0 0, .slice none 0 0] 53)).cell? ⟨w3.heap.size, 2, none⟩ = some (.int .i64 0) := XX.cell 2
      have y3 : (w3.alloc (.cells #[.int .i64 0, .int .i64 fl, .int .i64 0, .slice none 0 0, .slice none 0 0] 53)).cell? ⟨w3.heap.size, 3, none⟩ = some (.slice none 0 0) := XX.cell 3
      have y4 : (w3.alloc (.cells #[.int .i64 0, .int .i64 fl, .int .i64 0, .slice none 0 0, .slice none 0 0] 53)).cell? ⟨w3.heap.size, 4, none⟩ = some (.slice none 0 0) := XX.cell 4
      have hltx := XX.lt
      have hltr := RX.lt
      have XH := Lib.hid XX
      have RH := Lib.hid RX
      have OLH := Lib.hid OL
      have OPH := Lib.hid OP
      have BH := Lib.hid BB
      clear XX RX OL OP BB
      go_wp2_with fail
      refine (specFormatWish (x := ⟨0, fl, 0, [], []⟩) _ S1 S2 FF.out.1 FF.out.2.1 FF.out.2.2.1).mono ?_
      rintro e w6 ⟨rfl, b6⟩
      clear y0 y1 y2 y3 y4 S1 S2
      have R6 := RH.out.below b6 hltr
      have X6 := XH.out.below b6 hltx
      have O6 := own_below OLH.out b6
      have P6 := own_below OPH.out b6
      have B6 := BH.out.trans (b6.mono BH.out.size)
      have f0 := R6.free 0
      have f1 := R6.free 1
      have f2 := R6.free 2
      have f3 := R6.free 3
      have f4 := R6.free 4
      have hlt := R6.lt
      have hlty := X6.lt
      have c0 : w6.cell? ⟨w.heap.size, 0, none⟩ = some (.int .i64 0) := R6.cell 0
      have c1 : w6.cell? ⟨w.heap.size, 1, none⟩ = some (.int .i64 0) := R6.cell 1
      have c2 : w6.cell? ⟨w.heap.size, 2, none⟩ = some (.int .i64 0) := R6.cell 2
      have c3 : w6.cell? ⟨w.heap.size, 3, none⟩ = some (.slice none 0 0) := R6.cell 3
      have c4 : w6.cell? ⟨w.heap.size, 4, none⟩ = some (.slice none 0 0) := R6.cell 4
      have y0 : w6.cell? ⟨w3.heap.size, 0, none⟩ = some (.int .i64 0) := X6.cell 0
      have y1 : w6.cell? ⟨w3.heap.size, 1, none⟩ = some (.int .i64 fl) := X6.cell 1
      have y2 : w6.cell? ⟨w3.heap.size, 2, none⟩ = some (.int .i64 0) := X6.cell 2
      have y3 : w6.cell? ⟨w3.heap.size, 3, none⟩ = some (.slice none 0 0) := X6.cell 3
      have y4 : w6.cell? ⟨w3.heap.size, 4, none⟩ = some (.slice none 0 0) := X6.cell 4
      have BF := Lib.hid (((((B6.setCell (p := ⟨w.heap.size, 0, none⟩) (Nat.le_refl _) (.int .i64 0)).setCell (p := ⟨w.heap.size, 1, none⟩) (Nat.le_refl _) (.int .i64 fl)).setCell (p := ⟨w.heap.size, 2, none⟩) (Nat.le_refl _) (.int .i64 0)).setCell (p := ⟨w.heap.size, 3, none⟩) (Nat.le_refl _) (.slice none 0 0)).setCell (p := ⟨w.heap.size, 4, none⟩) (Nat.le_refl _) (.slice none 0 0))
      have BN := Lib.hid (((((B6.setCell (p := ⟨w.heap.size, 0, none⟩) (Nat.le_refl _) (.int .i64 0)).setCell (p := ⟨w.heap.size, 1, none⟩) (Nat.le_refl _) (.int .i64 0)).setCell (p := ⟨w.heap.size, 2, none⟩) (Nat.le_refl _) (.int .i64 0)).setCell (p := ⟨w.heap.size, 3, none⟩) (Nat.le_refl _) (.slice none 0 0)).setCell (p := ⟨w.heap.size, 4, none⟩) (Nat.le_refl _) (.slice none 0 0))
      have OF := Lib.hid (own_mono (b' := w.heap.size) (ownsRow_setCell_below (ownsRow_setCell_below (ownsRow_setCell_below (ownsRow_setCell_below (ownsRow_setCell_below O6 (a := ⟨w.heap.size, 0, none⟩) hlo (.int .i64 0)) (a := ⟨w.heap.size, 1, none⟩) hlo (.int .i64 fl)) (a := ⟨w.heap.size, 2, none⟩) hlo (.int .i64 0)) (a := ⟨w.heap.size, 3, none⟩) hlo (.slice none 0 0)) (a := ⟨w.heap.size, 4, none⟩) hlo (.slice none 0 0)) (Nat.le_of_lt hlo))
      have PF := Lib.hid (own_mono (b' := w.heap.size) (ownsRow_setCell_below (ownsRow_setCell_below (ownsRow_setCell_below (ownsRow_setCell_below (ownsRow_setCell_below P6 (a := ⟨w.heap.size, 0, none⟩) hlo (.int .i64 0)) (a := ⟨w.heap.size, 1, none⟩) hlo (.int .i64 fl)) (a := ⟨w.heap.size, 2, none⟩) hlo (.int .i64 0)) (a := ⟨w.heap.size, 3, none⟩) hlo (.slice none 0 0)) (a := ⟨w.heap.size, 4, none⟩) hlo (.slice none 0 0)) (Nat.le_of_lt hlo))
      clear R6 X6 O6 P6 B6 b6
      by_cases e : wishS ⟨0, fl, 0, [], []⟩ = s
      · have HP := Lib.hid (HEND.out.1 e)
        have q9 := ba_yes e
        clear e HEND
        go_wp2
        refine bodyPost_ret (v := .tuple #[.agg #[.int .i64 0, .int .i64 fl, .int .i64 0, .slice none 0 0, .slice none 0 0], .bool true]) (by simp [results, Try.results81, go_sem, c0, c1, c2, c3, c4]) rfl ?_
        refine ⟨_, _, ret_wb (x := ⟨0, fl, 0, [], []⟩) (b := true) ⟨HP.out.1.symm, HP.out.2.symm⟩, ?_, BF.out⟩
        rw [HP.out.1]
        exact ⟨OF.out, PF.out, far_nilR _⟩
      · have HP := Lib.hid (HEND.out.2 e)
        have q9 := ba_no e
        clear e HEND
        go_wp2
        refine bodyPost_ret (v := .tuple #[.agg #[.int .i64 0, .int .i64 0, .int .i64 0, .slice none 0 0, .slice none 0 0], .bool false]) (by simp [results, Try.results81, go_sem, c0, c1, c2, c3, c4]) rfl ?_
        refine ⟨_, _, ret_wb (x := zeroW) (u := .slice none 0 0) (v := .slice none 0 0) (b := false) ⟨HP.out.1.symm, HP.out.2.symm⟩, ?_, BN.out⟩
        rw [HP.out.1]; exact ownW_nil _ _
set_option maxHeartbeats 6400000 in
set_option maxRecDepth 100000 in
theorem implParseWish (w : World) {s : ByteArray} (hs : s.size ≤ 1048576) : Calls Try.prog 54 #[.string s] w (RetWB w (parW s) (parWB s)) := by
  obtain ⟨i0, hi, hz0, hz1, hz2⟩ := info_parts info_i2
  have HX := Lib.hid (P.cut_size s ⟨#[32]⟩)
  go_enter Try.func54, Try.ntmps54
  go_wp2_with fail
  refine (cut _ hs (by decide) (by decide)).mono ?_
  rintro e w2 ⟨vp, rfl, hP, b2⟩
  have B2 := ((Below.refl w.heap.size w).alloc (Nat.le_refl _) (.cells #[.int .i64 0, .int .i64 0, .int .i64 0, .slice none 0 0, .slice none 0 0] 53)).trans (b2.mono (by simp))
  have R2 := (Row.new w 53 [.int .i64 0, .int .i64 0, .int .i64 0, .slice none 0 0, .slice none 0 0]).below b2 (by simp)
  obtain ⟨A, c, rfl, _, _⟩ := own_form hP.1
  obtain ⟨A', n', c', e', hS⟩ := own_strs hP.1 (fun x hx => by have := HX.out x hx; unfold maxLen; omega)
  injection e' with e1 e2 e3
  subst e1 e3
  have hsz2 := b2.size
  simp at hsz2
  have hnc := hS.le
  clear hP b2
  by_cases hl : (P.cut s ⟨#[32]⟩).length < 2 ∨ 3 < (P.cut s ⟨#[32]⟩).length
  · have HP : Hid (parW s = zeroW ∧ parWB s = false) := parW_bad (by rcases hl with h | h; exact .inl h; exact .inr (.inl h))
    obtain ⟨m, hm⟩ : ∃ m, (P.cut s ⟨#[32]⟩).length = m := ⟨_, rfl⟩
    rw [hm] at hl ⊢
    have hw : P.inR (m : Int) 2 3 = false := P.inR_no (by omega)
    go_wp2_with fail
    refine (within _ _ _ _).mono ?_
    rintro e w9 ⟨rfl, rfl⟩
    rw [hw]
    have f0 := R2.free 0
    have f1 := R2.free 1
    have f2 := R2.free 2
    have f3 := R2.free 3
    have f4 := R2.free 4
    have hlt := R2.lt
    have c0 : w2.cell? ⟨w.heap.size, 0, none⟩ = some (.int .i64 0) := R2.cell 0
    have c1 : w2.cell? ⟨w.heap.size, 1, none⟩ = some (.int .i64 0) := R2.cell 1
    have c2 : w2.cell? ⟨w.heap.size, 2, none⟩ = some (.int .i64 0) := R2.cell 2
    have c3 : w2.cell? ⟨w.heap.size, 3, none⟩ = some (.slice none 0 0) := R2.cell 3
    have c4 : w2.cell? ⟨w.heap.size, 4, none⟩ = some (.slice none 0 0) := R2.cell 4
    have BN := Lib.hid (((((B2.setCell (p := ⟨w.heap.size, 0, none⟩) (Nat.le_refl _) (.int .i64 0)).setCell (p := ⟨w.heap.size, 1, none⟩) (Nat.le_refl _) (.int .i64 0)).setCell (p := ⟨w.heap.size, 2, none⟩) (Nat.le_refl _) (.int .i64 0)).setCell (p := ⟨w.heap.size, 3, none⟩) (Nat.le_refl _) (.slice none 0 0)).setCell (p := ⟨w.heap.size, 4, none⟩) (Nat.le_refl _) (.slice none 0 0))
    go_wp2
    refine bodyPost_ret (v := .tuple #[.agg #[.int .i64 0, .int .i64 0, .int .i64 0, .slice none 0 0, .slice none 0 0], .bool false]) (by simp [results, Try.results54, go_sem, c0, c1, c2, c3, c4]) rfl ?_
    refine ⟨_, _, ret_wb (x := zeroW) (u := .slice none 0 0) (v := .slice none 0 0) (b := false) ⟨HP.out.1.symm, HP.out.2.symm⟩, ?_, BN.out⟩
    rw [HP.out.1]; exact ownW_nil _ _
  · have h2 : 2 ≤ (P.cut s ⟨#[32]⟩).length := by omega
    have HE := Lib.hid (fun (y : Wi) hb => parW_end (s := s) (y := y) h2 hb)
    obtain ⟨a, b, rest, hab, hrl⟩ : ∃ a b rest, P.cut s ⟨#[32]⟩ = a :: b :: rest ∧ rest.length ≤ 1 := by
      match hc : P.cut s ⟨#[32]⟩, hl, h2 with
      | a :: b :: rest, hl, _ => exact ⟨a, b, rest, rfl, by simp at hl; omega⟩
    rw [hab] at HE
    have has : a.size ≤ 1048576 := Nat.le_trans (HX.out a (by rw [hab]; simp)) hs
    have hbs : b.size ≤ 1048576 := Nat.le_trans (HX.out b (by rw [hab]; simp)) hs
    obtain ⟨m, hm⟩ : ∃ m, rest.length + 1 + 1 = m := ⟨_, rfl⟩
    have hlen : (P.cut s ⟨#[32]⟩).length = m := by rw [hab]; exact hm
    rw [hlen] at e2 ⊢
    subst e2
    have hm2 : 2 ≤ m := by omega
    have hm3 : m ≤ 3 := by omega
    obtain ⟨bb, o, x, rfl, hbb, hx0, _, hc0⟩ := hS.str (k := 0) (by omega)
    obtain ⟨bb1, o1, x1, hbe, _, hx1, _, hc1⟩ := hS.str (k := 1) (by omega)
    injection hbe with hbe
    injection hbe with hbe1 hbe2 _
    subst hbe1 hbe2
    rw [hab] at hx0 hx1
    simp at hx0 hx1
    subst hx0 hx1
    rw [Nat.add_zero] at hc0
    have HC2 : Hid (∀ c, rest = [c] → w2.cell? ⟨bb, o + 2, none⟩ = some (.string c)) := by
      rintro c rfl
      obtain ⟨bb2, o2, x2, hbe, _, hx2, _, hc2⟩ := hS.str (k := 2) (by simp at hm; omega)
      injection hbe with hbe
      injection hbe with hbe1 hbe2 _
      subst hbe1 hbe2
      rw [hab] at hx2
      simp at hx2
      subst hx2
      exact hc2
    have HAB := Lib.hid hab
    have HRC : Hid (∀ c, rest = [c] → c.size ≤ 1048576) := fun c hc => Nat.le_trans (HX.out c (by rw [HAB.out, hc]; simp)) hs
    clear hl h2 hab hS
    have p2 : (2 : Int) ≤ (m : Int) := by omega
    have p3 : (m : Int) ≤ 3 := by omega
    have p1 : (1 : Int) < (m : Int) := by omega
    have p0 : (0 : Int) < (m : Int) := by omega
    have p4 : (m : Int) ≤ (c : Int) := by omega
    have hw : P.inR (m : Int) 2 3 = true := P.inR_mk (by omega)
    by_cases hb2 : b.size < 2
    · have q2 : (b.size : Int) < 2 := by omega
      have HP : Hid (parW s = zeroW ∧ parWB s = false) := parW_bad (.inr (.inr (by rw [HAB.out]; exact hb2)))
      go_wp2_with fail
      refine (within _ _ _ _).mono ?_
      rintro e w9 ⟨rfl, rfl⟩
      rw [hw]
      have f0 := R2.free 0
      have f1 := R2.free 1
      have f2 := R2.free 2
      have f3 := R2.free 3
      have f4 := R2.free 4
      have hlt := R2.lt
      have c0 : w2.cell? ⟨w.heap.size, 0, none⟩ = some (.int .i64 0) := R2.cell 0
      have c1 : w2.cell? ⟨w.heap.size, 1, none⟩ = some (.int .i64 0) := R2.cell 1
      have c2 : w2.cell? ⟨w.heap.size, 2, none⟩ = some (.int .i64 0) := R2.cell 2
      have c3 : w2.cell? ⟨w.heap.size, 3, none⟩ = some (.slice none 0 0) := R2.cell 3
      have c4 : w2.cell? ⟨w.heap.size, 4, none⟩ = some (.slice none 0 0) := R2.cell 4
      have BN := Lib.hid (((((B2.setCell (p := ⟨w.heap.size, 0, none⟩) (Nat.le_refl _) (.int .i64 0)).setCell (p := ⟨w.heap.size, 1, none⟩) (Nat.le_refl _) (.int .i64 0)).setCell (p := ⟨w.heap.size, 2, none⟩) (Nat.le_refl _) (.int .i64 0)).setCell (p := ⟨w.heap.size, 3, none⟩) (Nat.le_refl _) (.slice none 0 0)).setCell (p := ⟨w.heap.size, 4, none⟩) (Nat.le_refl _) (.slice none 0 0))
      go_wp2
      refine bodyPost_ret (v := .tuple #[.agg #[.int .i64 0, .int .i64 0, .int .i64 0, .slice none 0 0, .slice none 0 0], .bool false]) (by simp [results, Try.results54, go_sem, c0, c1, c2, c3, c4]) rfl ?_
      refine ⟨_, _, ret_wb (x := zeroW) (u := .slice none 0 0) (v := .slice none 0 0) (b := false) ⟨HP.out.1.symm, HP.out.2.symm⟩, ?_, BN.out⟩
      rw [HP.out.1]; exact ownW_nil _ _
    have q2 : ¬ (b.size : Int) < 2 := by omega
    have q3 : (1 : Int) ≤ (b.size : Int) := by omega
    have hbx : (b.extract 1 b.size).size ≤ maxLen := by rw [ByteArray.size_extract]; unfold maxLen; omega
    have BX := (Below.refl w2.heap.size w2).alloc (Nat.le_refl _) (.cells #[.int .i64 0, .int .i64 0, .int .i64 0, .slice none 0 0, .slice none 0 0] 53)
    have HB2 := Lib.hid B2
    have HR2 := Lib.hid R2
    clear B2 R2
    go_wp2_with fail
    refine (within _ _ _ _).mono ?_
    rintro e w9 ⟨rfl, rfl⟩
    rw [hw]
    go_wp2_with fail
    refine (implParseInt _ hbx _).mono ?_
    rintro e w3 ⟨rfl, b3⟩
    obtain ⟨fl, hfl⟩ : ∃ fl, piN (b.extract 1 b.size).data.toList = fl := ⟨_, rfl⟩
    have FL : Fit fl := by rw [← hfl]; exact piN_fit _
    rw [hfl]
    have b3' := BX.trans (b3.mono (by simp))
    have hsz3 := b3.size
    simp at hsz3
    have X3 := (Row.new w2 53 [.int .i64 0, .int .i64 0, .int .i64 0, .slice none 0 0, .slice none 0 0]).below b3 (by simp)
    have R3 := (HR2.out.below b3' HR2.out.lt)
    have B3 := HB2.out.trans (b3'.mono (by omega))
    have k0 := celB hc0 b3' hbb
    have HK2 : Hid (∀ c, rest = [c] → w3.cell? ⟨bb, o + 2, none⟩ = some (.string c)) := fun c hc => celB (HC2.out c hc) b3' hbb
    have fr1 := X3.free 1
    have xc1 : w3.cell? ⟨w2.heap.size, 1, none⟩ = some (.int .i64 0) := X3.cell 1
    have xl3 := X3.lt
    have X4 : Row (w3.setCell ⟨w2.heap.size, 1, none⟩ (.int .i64 fl)) w2.heap.size 53 [.int .i64 0, .int .i64 fl, .int .i64 0, .slice none 0 0, .slice none 0 0] := X3.set 1 (.int .i64 fl)
    have R4 := R3.far (p := ⟨w2.heap.size, 1, none⟩) (by show w.heap.size ≠ w2.heap.size; omega) (.int .i64 fl)
    have B4 := B3.setCell (p := ⟨w2.heap.size, 1, none⟩) (by show w.heap.size ≤ w2.heap.size; omega) (.int .i64 fl)
    have k4 := celS (p := ⟨w2.heap.size, 1, none⟩) k0 (by show w2.heap.size ≠ bb; omega) (.int .i64 fl)
    have HK4 : Hid (∀ c, rest = [c] → (w3.setCell ⟨w2.heap.size, 1, none⟩ (.int .i64 fl)).cell? ⟨bb, o + 2, none⟩ = some (.string c)) := fun c hc => celS (HK2.out c hc) (by show w2.heap.size ≠ bb; omega) _
    obtain ⟨w4, hw4⟩ : ∃ w4, w3.setCell ⟨w2.heap.size, 1, none⟩ (.int .i64 fl) = w4 := ⟨_, rfl⟩
    have z4 : w4.heap.size = w3.heap.size := by rw [← hw4]; simp
    rw [hw4] at X4 R4 B4 k4 HK4
    have hlit : Row (w4.alloc (.cells #[.string ⟨#[108, 111, 119]⟩, .string ⟨#[104, 105, 103, 104]⟩, .string ⟨#[110, 101, 97, 114]⟩, .string ⟨#[97, 109, 111, 110, 103]⟩, .string ⟨#[111, 114, 100, 101, 114]⟩] 9)) w4.heap.size 9 ([kindW 0, kindW 1, kindW 2, kindW 3, kindW 4].map Value.string) := Row.new w4 9 [.string ⟨#[108, 111, 119]⟩, .string ⟨#[104, 105, 103, 104]⟩, .string ⟨#[110, 101, 97, 114]⟩, .string ⟨#[97, 109, 111, 110, 103]⟩, .string ⟨#[111, 114, 100, 101, 114]⟩]
    rw [z4] at hlit
    have HLI := Lib.hid hlit
    have X5 := Lib.hid (X4.alloc (.cells #[.string ⟨#[108, 111, 119]⟩, .string ⟨#[104, 105, 103, 104]⟩, .string ⟨#[110, 101, 97, 114]⟩, .string ⟨#[97, 109, 111, 110, 103]⟩, .string ⟨#[111, 114, 100, 101, 114]⟩] 9))
    have R5 := Lib.hid (R4.alloc (.cells #[.string ⟨#[108, 111, 119]⟩, .string ⟨#[104, 105, 103, 104]⟩, .string ⟨#[110, 101, 97, 114]⟩, .string ⟨#[97, 109, 111, 110, 103]⟩, .string ⟨#[111, 114, 100, 101, 114]⟩] 9))
    have B5 := Lib.hid (B4.alloc (by omega) (.cells #[.string ⟨#[108, 111, 119]⟩, .string ⟨#[104, 105, 103, 104]⟩, .string ⟨#[110, 101, 97, 114]⟩, .string ⟨#[97, 109, 111, 110, 103]⟩, .string ⟨#[111, 114, 100, 101, 114]⟩] 9))
    have k5 := celA k4 (.cells #[.string ⟨#[108, 111, 119]⟩, .string ⟨#[104, 105, 103, 104]⟩, .string ⟨#[110, 101, 97, 114]⟩, .string ⟨#[97, 109, 111, 110, 103]⟩, .string ⟨#[111, 114, 100, 101, 114]⟩] 9)
    have HK5 : Hid (∀ c, rest = [c] → (w4.alloc (.cells #[.string ⟨#[108, 111, 119]⟩, .string ⟨#[104, 105, 103, 104]⟩, .string ⟨#[110, 101, 97, 114]⟩, .string ⟨#[97, 109, 111, 110, 103]⟩, .string ⟨#[111, 114, 100, 101, 114]⟩] 9)).cell? ⟨bb, o + 2, none⟩ = some (.string c)) := fun c hc => celA (HK4.out c hc) _
    have hbb4 : bb < w4.heap.size := by omega
    have HFL : Hid (fldI b = fl) := hfl
    have hx2 : w2.heap.size < w4.heap.size := by omega
    have hx1 : w.heap.size < w2.heap.size := by omega
    have HF1 := Lib.hid fr1
    have HX1 := Lib.hid xc1
    have HK3 := Lib.hid k4
    clear hc0 hc1 HC2 b3 b3' BX X3 R3 B3 k0 HK2 hfl xc1 fr1 X4 R4 B4 k4 HK4 hlit HR2 HB2
    have fr1 : w3.frozen? ⟨w2.heap.size, 1, none⟩ = false := HF1.out
    have xc1 : w3.cell? ⟨w2.heap.size, 1, none⟩ = some (.int .i64 0) := HX1.out
    have k3' : (w3.setCell ⟨w2.heap.size, 1, none⟩ (.int .i64 fl)).cell? ⟨bb, o, none⟩ = some (.string a) := by rw [hw4]; exact HK3.out
    go_wp2_with fail
    try rw [hw4]
    refine (indexStrs (n := 5) (c := 5) _ HLI.out rfl (by omega) (by omega)).mono ?_
    rintro e w9 ⟨⟨k, rfl, hk⟩, rfl⟩
    have hkI := idx5 hk
    obtain ⟨kb1, kb2⟩ := kindI_bd a
    rw [← hkI] at kb1 kb2
    have HKI : Hid (kindI a = k) := hkI.symm
    obtain ⟨w5, hw5⟩ : ∃ w5, w4.alloc (.cells #[.string ⟨#[108, 111, 119]⟩, .string ⟨#[104, 105, 103, 104]⟩, .string ⟨#[110, 101, 97, 114]⟩, .string ⟨#[97, 109, 111, 110, 103]⟩, .string ⟨#[111, 114, 100, 101, 114]⟩] 9) = w5 := ⟨_, rfl⟩
    have z5 : w5.heap.size = w4.heap.size + 1 := by rw [← hw5]; simp
    rw [hw5] at X5 R5 B5 k5 HK5 ⊢
    clear hk hkI fr1 xc1
    have fr0 := X5.out.free 0
    have xc0 : w5.cell? ⟨w2.heap.size, 0, none⟩ = some (.int .i64 0) := X5.out.cell 0
    have xl5 := X5.out.lt
    have X6 : Row (w5.setCell ⟨w2.heap.size, 0, none⟩ (.int .i64 k)) w2.heap.size 53 [.int .i64 k, .int .i64 fl, .int .i64 0, .slice none 0 0, .slice none 0 0] := X5.out.set 0 (.int .i64 k)
    have R6 := R5.out.far (p := ⟨w2.heap.size, 0, none⟩) (by show w.heap.size ≠ w2.heap.size; omega) (.int .i64 k)
    have B6 := B5.out.setCell (p := ⟨w2.heap.size, 0, none⟩) (by show w.heap.size ≤ w2.heap.size; omega) (.int .i64 k)
    have HK6 : Hid (∀ c, rest = [c] → (w5.setCell ⟨w2.heap.size, 0, none⟩ (.int .i64 k)).cell? ⟨bb, o + 2, none⟩ = some (.string c)) := fun c hc => celS (HK5.out c hc) (by show w2.heap.size ≠ bb; omega) _
    have zW : (w5.setCell ⟨w2.heap.size, 0, none⟩ (.int .i64 k)).heap.size = w4.heap.size + 1 := by simp [z5]
    have FK : Fit k := by unfold Fit; omega
    by_cases hr0 : rest = []
    · have hm9 : m = 2 := by rw [hr0] at hm; simpa using hm.symm
      have t0 : ((m : Int) == 3) = false := by rw [hm9]; rfl
      have HCAND : Hid (∀ x, P.okW x = true → kindW x.kind :: fldW x.field :: argW x = a :: b :: rest → candI a b none = x) := fun x hx h => candI_two hx (by rw [h, hr0])
      clear hm9
      have HC : Hid (candI a b none = ⟨k, fl, 0, [], []⟩) := by
        show _ = _
        unfold candI
        rw [HKI.out, HFL.out]
        simp
      have HEND : Hid ((wishS ⟨k, fl, 0, [], []⟩ = s → parW s = ⟨k, fl, 0, [], []⟩ ∧ parWB s = true) ∧ (wishS ⟨k, fl, 0, [], []⟩ ≠ s → parW s = zeroW ∧ parWB s = false)) := by
        have h9 := HE.out _ HCAND.out
        rw [HC.out] at h9
        exact h9
      have FF : Hid (FitW ⟨k, fl, 0, [], []⟩) := ⟨FK, FL, by unfold Fit; simp, by simp, by simp⟩
      have XX := X6
      have RX := R6
      have BB := B6
      have hlo : w.heap.size < w2.heap.size + 1 := by omega
      have OL : ((w5.setCell ⟨w2.heap.size, 0, none⟩ (.int .i64 k))).ownsRow (w2.heap.size + 1) 3 1 (.slice none 0 0) 0 (([] : List Int).map (Value.int .i64)) := World.ownsRow_nil _ _ _ _
      have S1 : Sl RI 1 ((w5.setCell ⟨w2.heap.size, 0, none⟩ (.int .i64 k))) ((w5.setCell ⟨w2.heap.size, 0, none⟩ (.int .i64 k))).heap.size none 0 0 [] := Sl.nil _ _
      have OP : ((w5.setCell ⟨w2.heap.size, 0, none⟩ (.int .i64 k))).ownsRow (w2.heap.size + 1) 92 2 (.slice none 0 0) 0 (prc []) := World.ownsRow_nil _ _ _ _
      have S2 : Sl RP 2 ((w5.setCell ⟨w2.heap.size, 0, none⟩ (.int .i64 k))) ((w5.setCell ⟨w2.heap.size, 0, none⟩ (.int .i64 k))).heap.size none 0 0 [] := Sl.nil _ _
      clear X6 R6 B6
      have y0 : (w5.setCell ⟨w2.heap.size, 0, none⟩ (.int .i64 k)).cell? ⟨w2.heap.size, 0, none⟩ = some (.int .i64 k) := XX.cell 0
      have y1 : (w5.setCell ⟨w2.heap.size, 0, none⟩ (.int .i64 k)).cell? ⟨w2.heap.size, 1, none⟩ = some (.int .i64 fl) := XX.cell 1
      have y2 : (w5.setCell ⟨w2.heap.size, 0, none⟩ (.int .i64 k)).cell? ⟨w2.heap.size, 2, none⟩ = some (.int .i64 0) := XX.cell 2
      have y3 : (w5.setCell ⟨w2.heap.size, 0, none⟩ (.int .i64 k)).cell? ⟨w2.heap.size, 3, none⟩ = some (.slice none 0 0) := XX.cell 3
      have y4 : (w5.setCell ⟨w2.heap.size, 0, none⟩ (.int .i64 k)).cell? ⟨w2.heap.size, 4, none⟩ = some (.slice none 0 0) := XX.cell 4
      have hltx := XX.lt
      have hltr := RX.lt
      have XH := Lib.hid XX
      have RH := Lib.hid RX
      have OLH := Lib.hid OL
      have OPH := Lib.hid OP
      have BH := Lib.hid BB
      clear XX RX OL OP BB
      go_wp2_with fail
      refine (implFormatWish (x := ⟨k, fl, 0, [], []⟩) _ S1 S2 FF.out.1 FF.out.2.1 FF.out.2.2.1).mono ?_
      rintro e w6 ⟨rfl, b6⟩
      clear y0 y1 y2 y3 y4 S1 S2
      have R6 := RH.out.below b6 hltr
      have X6 := XH.out.below b6 hltx
      have O6 := own_below OLH.out b6
      have P6 := own_below OPH.out b6
      have B6 := BH.out.trans (b6.mono BH.out.size)
      have f0 := R6.free 0
      have f1 := R6.free 1
      have f2 := R6.free 2
      have f3 := R6.free 3
      have f4 := R6.free 4
      have hlt := R6.lt
      have hlty := X6.lt
      have c0 : w6.cell? ⟨w.heap.size, 0, none⟩ = some (.int .i64 0) := R6.cell 0
      have c1 : w6.cell? ⟨w.heap.size, 1, none⟩ = some (.int .i64 0) := R6.cell 1
      have c2 : w6.cell? ⟨w.heap.size, 2, none⟩ = some (.int .i64 0) := R6.cell 2
      have c3 : w6.cell? ⟨w.heap.size, 3, none⟩ = some (.slice none 0 0) := R6.cell 3
      have c4 : w6.cell? ⟨w.heap.size, 4, none⟩ = some (.slice none 0 0) := R6.cell 4
      have y0 : w6.cell? ⟨w2.heap.size, 0, none⟩ = some (.int .i64 k) := X6.cell 0
      have y1 : w6.cell? ⟨w2.heap.size, 1, none⟩ = some (.int .i64 fl) := X6.cell 1
      have y2 : w6.cell? ⟨w2.heap.size, 2, none⟩ = some (.int .i64 0) := X6.cell 2
      have y3 : w6.cell? ⟨w2.heap.size, 3, none⟩ = some (.slice none 0 0) := X6.cell 3
      have y4 : w6.cell? ⟨w2.heap.size, 4, none⟩ = some (.slice none 0 0) := X6.cell 4
      have BF := Lib.hid (((((B6.setCell (p := ⟨w.heap.size, 0, none⟩) (Nat.le_refl _) (.int .i64 k)).setCell (p := ⟨w.heap.size, 1, none⟩) (Nat.le_refl _) (.int .i64 fl)).setCell (p := ⟨w.heap.size, 2, none⟩) (Nat.le_refl _) (.int .i64 0)).setCell (p := ⟨w.heap.size, 3, none⟩) (Nat.le_refl _) (.slice none 0 0)).setCell (p := ⟨w.heap.size, 4, none⟩) (Nat.le_refl _) (.slice none 0 0))
      have BN := Lib.hid (((((B6.setCell (p := ⟨w.heap.size, 0, none⟩) (Nat.le_refl _) (.int .i64 0)).setCell (p := ⟨w.heap.size, 1, none⟩) (Nat.le_refl _) (.int .i64 0)).setCell (p := ⟨w.heap.size, 2, none⟩) (Nat.le_refl _) (.int .i64 0)).setCell (p := ⟨w.heap.size, 3, none⟩) (Nat.le_refl _) (.slice none 0 0)).setCell (p := ⟨w.heap.size, 4, none⟩) (Nat.le_refl _) (.slice none 0 0))
      have OF := Lib.hid (own_mono (b' := w.heap.size) (ownsRow_setCell_below (ownsRow_setCell_below (ownsRow_setCell_below (ownsRow_setCell_below (ownsRow_setCell_below O6 (a := ⟨w.heap.size, 0, none⟩) hlo (.int .i64 k)) (a := ⟨w.heap.size, 1, none⟩) hlo (.int .i64 fl)) (a := ⟨w.heap.size, 2, none⟩) hlo (.int .i64 0)) (a := ⟨w.heap.size, 3, none⟩) hlo (.slice none 0 0)) (a := ⟨w.heap.size, 4, none⟩) hlo (.slice none 0 0)) (Nat.le_of_lt hlo))
      have PF := Lib.hid (own_mono (b' := w.heap.size) (ownsRow_setCell_below (ownsRow_setCell_below (ownsRow_setCell_below (ownsRow_setCell_below (ownsRow_setCell_below P6 (a := ⟨w.heap.size, 0, none⟩) hlo (.int .i64 k)) (a := ⟨w.heap.size, 1, none⟩) hlo (.int .i64 fl)) (a := ⟨w.heap.size, 2, none⟩) hlo (.int .i64 0)) (a := ⟨w.heap.size, 3, none⟩) hlo (.slice none 0 0)) (a := ⟨w.heap.size, 4, none⟩) hlo (.slice none 0 0)) (Nat.le_of_lt hlo))
      clear R6 X6 O6 P6 B6 b6
      by_cases e : wishS ⟨k, fl, 0, [], []⟩ = s
      · have HP := Lib.hid (HEND.out.1 e)
        have q9 := ba_yes e
        clear e HEND
        go_wp2
        refine bodyPost_ret (v := .tuple #[.agg #[.int .i64 k, .int .i64 fl, .int .i64 0, .slice none 0 0, .slice none 0 0], .bool true]) (by simp [results, Try.results54, go_sem, c0, c1, c2, c3, c4]) rfl ?_
        refine ⟨_, _, ret_wb (x := ⟨k, fl, 0, [], []⟩) (b := true) ⟨HP.out.1.symm, HP.out.2.symm⟩, ?_, BF.out⟩
        rw [HP.out.1]
        exact ⟨OF.out, PF.out, far_nilR _⟩
      · have HP := Lib.hid (HEND.out.2 e)
        have q9 := ba_no e
        clear e HEND
        go_wp2
        refine bodyPost_ret (v := .tuple #[.agg #[.int .i64 0, .int .i64 0, .int .i64 0, .slice none 0 0, .slice none 0 0], .bool false]) (by simp [results, Try.results54, go_sem, c0, c1, c2, c3, c4]) rfl ?_
        refine ⟨_, _, ret_wb (x := zeroW) (u := .slice none 0 0) (v := .slice none 0 0) (b := false) ⟨HP.out.1.symm, HP.out.2.symm⟩, ?_, BN.out⟩
        rw [HP.out.1]; exact ownW_nil _ _
    · obtain ⟨c9, hr1⟩ : ∃ c9, rest = [c9] := by
        match rest, hrl, hr0 with
        | [c9], _, _ => exact ⟨c9, rfl⟩
      have hm9 : m = 3 := by rw [hr1] at hm; simpa using hm.symm
      have t0 : ((m : Int) == 3) = true := by rw [hm9]; rfl
      have p5 : (2 : Int) < (m : Int) := by omega
      have HCAND : Hid (∀ x, P.okW x = true → kindW x.kind :: fldW x.field :: argW x = a :: b :: rest → candI a b (some c9) = x) := fun x hx h => candI_three hx (by rw [h, hr1])
      have hargs2 : c9.size ≤ 1048576 := HRC.out c9 hr1
      have hargs : c9.size ≤ maxLen := Nat.le_trans hargs2 (by decide)
      have k2 := HK6.out c9 hr1
      have k2b := HK5.out c9 hr1
      have nb1 : ¬ bb = w2.heap.size := by omega
      have nb2 : ¬ w2.heap.size = bb := by omega
      clear hm9 hr0
      by_cases n2 : k = 2
      · have s2 : (k == 2) = true := by simp [n2]
        have N2 := Lib.hid n2
        clear n2
        have xk : (w5.setCell ⟨w2.heap.size, 0, none⟩ (.int .i64 k)).cell? ⟨w2.heap.size, 0, none⟩ = some (.int .i64 k) := X6.cell 0
        have x6l := X6.lt
        have XH6 := Lib.hid X6
        have RH6 := Lib.hid R6
        have BH6 := Lib.hid B6
        clear X6 R6 B6
        have HC0 : Hid (candI a b (some c9) = ⟨k, fl, piN c9.data.toList, [], []⟩) := by
          show _ = _
          unfold candI
          rw [HKI.out, HFL.out, if_pos N2.out, if_neg (by have := N2.out; omega), if_neg (by have := N2.out; omega)]
        go_wp2_with fail
        refine (implParseInt c9 hargs _).mono ?_
        rintro e w7 ⟨rfl, b7⟩
        obtain ⟨nv, hnv⟩ : ∃ nv, piN c9.data.toList = nv := ⟨_, rfl⟩
        have FN : Fit nv := by rw [← hnv]; exact piN_fit _
        rw [hnv] at HC0 ⊢
        have HC := HC0
        have z7 := b7.size
        rw [zW] at z7
        have X7 := XH6.out.below b7 XH6.out.lt
        have R7 := RH6.out.below b7 RH6.out.lt
        have B7 := BH6.out.trans (b7.mono BH6.out.size)
        have fr7 := X7.free 2
        have xlt7 := X7.lt
        have xc7 : w7.cell? ⟨w2.heap.size, 2, none⟩ = some (.int .i64 0) := X7.cell 2
        have XX : Row (w7.setCell ⟨w2.heap.size, 2, none⟩ (.int .i64 nv)) w2.heap.size 53 [.int .i64 k, .int .i64 fl, .int .i64 nv, .slice none 0 0, .slice none 0 0] := X7.set 2 (.int .i64 nv)
        have RX := R7.far (p := ⟨w2.heap.size, 2, none⟩) (by show w.heap.size ≠ w2.heap.size; omega) (.int .i64 nv)
        have BB := B7.setCell (p := ⟨w2.heap.size, 2, none⟩) (by show w.heap.size ≤ w2.heap.size; omega) (.int .i64 nv)
        have hlo : w.heap.size < w2.heap.size + 1 := by omega
        have HEND : Hid ((wishS ⟨k, fl, nv, [], []⟩ = s → parW s = ⟨k, fl, nv, [], []⟩ ∧ parWB s = true) ∧ (wishS ⟨k, fl, nv, [], []⟩ ≠ s → parW s = zeroW ∧ parWB s = false)) := by
          have h9 := HE.out _ HCAND.out
          rw [HC.out] at h9
          exact h9
        have FF : Hid (FitW ⟨k, fl, nv, [], []⟩) := ⟨FK, FL, FN, by simp, by simp⟩
        have OL : ((w7.setCell ⟨w2.heap.size, 2, none⟩ (.int .i64 nv))).ownsRow (w2.heap.size + 1) 3 1 (.slice none 0 0) 0 (([] : List Int).map (Value.int .i64)) := World.ownsRow_nil _ _ _ _
        have S1 : Sl RI 1 ((w7.setCell ⟨w2.heap.size, 2, none⟩ (.int .i64 nv))) ((w7.setCell ⟨w2.heap.size, 2, none⟩ (.int .i64 nv))).heap.size none 0 0 [] := Sl.nil _ _
        have OP : ((w7.setCell ⟨w2.heap.size, 2, none⟩ (.int .i64 nv))).ownsRow (w2.heap.size + 1) 92 2 (.slice none 0 0) 0 (prc []) := World.ownsRow_nil _ _ _ _
        have S2 : Sl RP 2 ((w7.setCell ⟨w2.heap.size, 2, none⟩ (.int .i64 nv))) ((w7.setCell ⟨w2.heap.size, 2, none⟩ (.int .i64 nv))).heap.size none 0 0 [] := Sl.nil _ _
        clear X7 R7 B7 b7 hnv
        have y0 : (w7.setCell ⟨w2.heap.size, 2, none⟩ (.int .i64 nv)).cell? ⟨w2.heap.size, 0, none⟩ = some (.int .i64 k) := XX.cell 0
        have y1 : (w7.setCell ⟨w2.heap.size, 2, none⟩ (.int .i64 nv)).cell? ⟨w2.heap.size, 1, none⟩ = some (.int .i64 fl) := XX.cell 1
        have y2 : (w7.setCell ⟨w2.heap.size, 2, none⟩ (.int .i64 nv)).cell? ⟨w2.heap.size, 2, none⟩ = some (.int .i64 nv) := XX.cell 2
        have y3 : (w7.setCell ⟨w2.heap.size, 2, none⟩ (.int .i64 nv)).cell? ⟨w2.heap.size, 3, none⟩ = some (.slice none 0 0) := XX.cell 3
        have y4 : (w7.setCell ⟨w2.heap.size, 2, none⟩ (.int .i64 nv)).cell? ⟨w2.heap.size, 4, none⟩ = some (.slice none 0 0) := XX.cell 4
        have hltx := XX.lt
        have hltr := RX.lt
        have XH := Lib.hid XX
        have RH := Lib.hid RX
        have OLH := Lib.hid OL
        have OPH := Lib.hid OP
        have BH := Lib.hid BB
        clear XX RX OL OP BB
        go_wp2_with fail
        refine (implFormatWish (x := ⟨k, fl, nv, [], []⟩) _ S1 S2 FF.out.1 FF.out.2.1 FF.out.2.2.1).mono ?_
        rintro e w6 ⟨rfl, b6⟩
        clear y0 y1 y2 y3 y4 S1 S2
        have R6 := RH.out.below b6 hltr
        have X6 := XH.out.below b6 hltx
        have O6 := own_below OLH.out b6
        have P6 := own_below OPH.out b6
        have B6 := BH.out.trans (b6.mono BH.out.size)
        have f0 := R6.free 0
        have f1 := R6.free 1
        have f2 := R6.free 2
        have f3 := R6.free 3
        have f4 := R6.free 4
        have hlt := R6.lt
        have hlty := X6.lt
        have c0 : w6.cell? ⟨w.heap.size, 0, none⟩ = some (.int .i64 0) := R6.cell 0
        have c1 : w6.cell? ⟨w.heap.size, 1, none⟩ = some (.int .i64 0) := R6.cell 1
        have c2 : w6.cell? ⟨w.heap.size, 2, none⟩ = some (.int .i64 0) := R6.cell 2
        have c3 : w6.cell? ⟨w.heap.size, 3, none⟩ = some (.slice none 0 0) := R6.cell 3
        have c4 : w6.cell? ⟨w.heap.size, 4, none⟩ = some (.slice none 0 0) := R6.cell 4
        have y0 : w6.cell? ⟨w2.heap.size, 0, none⟩ = some (.int .i64 k) := X6.cell 0
        have y1 : w6.cell? ⟨w2.heap.size, 1, none⟩ = some (.int .i64 fl) := X6.cell 1
        have y2 : w6.cell? ⟨w2.heap.size, 2, none⟩ = some (.int .i64 nv) := X6.cell 2
        have y3 : w6.cell? ⟨w2.heap.size, 3, none⟩ = some (.slice none 0 0) := X6.cell 3
        have y4 : w6.cell? ⟨w2.heap.size, 4, none⟩ = some (.slice none 0 0) := X6.cell 4
        have BF := Lib.hid (((((B6.setCell (p := ⟨w.heap.size, 0, none⟩) (Nat.le_refl _) (.int .i64 k)).setCell (p := ⟨w.heap.size, 1, none⟩) (Nat.le_refl _) (.int .i64 fl)).setCell (p := ⟨w.heap.size, 2, none⟩) (Nat.le_refl _) (.int .i64 nv)).setCell (p := ⟨w.heap.size, 3, none⟩) (Nat.le_refl _) (.slice none 0 0)).setCell (p := ⟨w.heap.size, 4, none⟩) (Nat.le_refl _) (.slice none 0 0))
        have BN := Lib.hid (((((B6.setCell (p := ⟨w.heap.size, 0, none⟩) (Nat.le_refl _) (.int .i64 0)).setCell (p := ⟨w.heap.size, 1, none⟩) (Nat.le_refl _) (.int .i64 0)).setCell (p := ⟨w.heap.size, 2, none⟩) (Nat.le_refl _) (.int .i64 0)).setCell (p := ⟨w.heap.size, 3, none⟩) (Nat.le_refl _) (.slice none 0 0)).setCell (p := ⟨w.heap.size, 4, none⟩) (Nat.le_refl _) (.slice none 0 0))
        have OF := Lib.hid (own_mono (b' := w.heap.size) (ownsRow_setCell_below (ownsRow_setCell_below (ownsRow_setCell_below (ownsRow_setCell_below (ownsRow_setCell_below O6 (a := ⟨w.heap.size, 0, none⟩) hlo (.int .i64 k)) (a := ⟨w.heap.size, 1, none⟩) hlo (.int .i64 fl)) (a := ⟨w.heap.size, 2, none⟩) hlo (.int .i64 nv)) (a := ⟨w.heap.size, 3, none⟩) hlo (.slice none 0 0)) (a := ⟨w.heap.size, 4, none⟩) hlo (.slice none 0 0)) (Nat.le_of_lt hlo))
        have PF := Lib.hid (own_mono (b' := w.heap.size) (ownsRow_setCell_below (ownsRow_setCell_below (ownsRow_setCell_below (ownsRow_setCell_below (ownsRow_setCell_below P6 (a := ⟨w.heap.size, 0, none⟩) hlo (.int .i64 k)) (a := ⟨w.heap.size, 1, none⟩) hlo (.int .i64 fl)) (a := ⟨w.heap.size, 2, none⟩) hlo (.int .i64 nv)) (a := ⟨w.heap.size, 3, none⟩) hlo (.slice none 0 0)) (a := ⟨w.heap.size, 4, none⟩) hlo (.slice none 0 0)) (Nat.le_of_lt hlo))
        clear R6 X6 O6 P6 B6 b6
        by_cases e : wishS ⟨k, fl, nv, [], []⟩ = s
        · have HP := Lib.hid (HEND.out.1 e)
          have q9 := ba_yes e
          clear e HEND
          go_wp2
          refine bodyPost_ret (v := .tuple #[.agg #[.int .i64 k, .int .i64 fl, .int .i64 nv, .slice none 0 0, .slice none 0 0], .bool true]) (by simp [results, Try.results54, go_sem, c0, c1, c2, c3, c4]) rfl ?_
          refine ⟨_, _, ret_wb (x := ⟨k, fl, nv, [], []⟩) (b := true) ⟨HP.out.1.symm, HP.out.2.symm⟩, ?_, BF.out⟩
          rw [HP.out.1]
          exact ⟨OF.out, PF.out, far_nilR _⟩
        · have HP := Lib.hid (HEND.out.2 e)
          have q9 := ba_no e
          clear e HEND
          go_wp2
          refine bodyPost_ret (v := .tuple #[.agg #[.int .i64 0, .int .i64 0, .int .i64 0, .slice none 0 0, .slice none 0 0], .bool false]) (by simp [results, Try.results54, go_sem, c0, c1, c2, c3, c4]) rfl ?_
          refine ⟨_, _, ret_wb (x := zeroW) (u := .slice none 0 0) (v := .slice none 0 0) (b := false) ⟨HP.out.1.symm, HP.out.2.symm⟩, ?_, BN.out⟩
          rw [HP.out.1]; exact ownW_nil _ _
      have s2 : (k == 2) = false := by simp [n2]
      by_cases n3 : k = 3
      · have s3 : (k == 3) = true := by simp [n3]
        have N3 := Lib.hid n3
        clear n3
        have xk : (w5.setCell ⟨w2.heap.size, 0, none⟩ (.int .i64 k)).cell? ⟨w2.heap.size, 0, none⟩ = some (.int .i64 k) := X6.cell 0
        have x6l := X6.lt
        have XH6 := Lib.hid X6
        have RH6 := Lib.hid R6
        have BH6 := Lib.hid B6
        clear X6 R6 B6
        have HC0 : Hid (candI a b (some c9) = ⟨k, fl, 0, rdN c9, []⟩) := by
          show _ = _
          unfold candI
          rw [HKI.out, HFL.out, if_neg n2, if_pos N3.out, if_neg (by have := N3.out; omega)]
        go_wp2_with fail
        refine (readNumbers _ hargs2).mono ?_
        rintro e w7 ⟨vq, rfl, Oq, b7⟩
        have FQ : Hid (∀ y ∈ rdN c9, Fit y) := by
          show ∀ y ∈ rdN c9, Fit y
          intro y hy
          unfold rdN at hy
          obtain ⟨t, _, rfl⟩ := List.mem_map.1 hy
          exact piN_fit _
        obtain ⟨rl, hrl9⟩ : ∃ rl, rdN c9 = rl := ⟨_, rfl⟩
        rw [hrl9] at HC0 Oq FQ
        have HC := HC0
        obtain ⟨A5, c5, rfl, _, _⟩ := own_form Oq.1
        have z7 := b7.size
        rw [zW] at z7
        have X7 := XH6.out.below b7 XH6.out.lt
        have R7 := RH6.out.below b7 RH6.out.lt
        have B7 := BH6.out.trans (b7.mono BH6.out.size)
        have fr7 := X7.free 3
        have xlt7 := X7.lt
        have xc7 : w7.cell? ⟨w2.heap.size, 3, none⟩ = some (.slice none 0 0) := X7.cell 3
        have O7 := own_mono (b' := w2.heap.size + 1) Oq.1 (by rw [zW]; omega)
        have XX : Row (w7.setCell ⟨w2.heap.size, 3, none⟩ (.slice A5 rl.length c5)) w2.heap.size 53 [.int .i64 k, .int .i64 fl, .int .i64 0, .slice A5 rl.length c5, .slice none 0 0] := X7.set 3 (.slice A5 rl.length c5)
        have RX := R7.far (p := ⟨w2.heap.size, 3, none⟩) (by show w.heap.size ≠ w2.heap.size; omega) (.slice A5 rl.length c5)
        have BB := B7.setCell (p := ⟨w2.heap.size, 3, none⟩) (by show w.heap.size ≤ w2.heap.size; omega) (.slice A5 rl.length c5)
        have hlo : w.heap.size < w2.heap.size + 1 := by omega
        have OL := ownsRow_setCell_below O7 (a := ⟨w2.heap.size, 3, none⟩) (by show w2.heap.size < w2.heap.size + 1; omega) (.slice A5 rl.length c5)
        have S1 : Sl RI 1 (w7.setCell ⟨w2.heap.size, 3, none⟩ (.slice A5 rl.length c5)) (w7.setCell ⟨w2.heap.size, 3, none⟩ (.slice A5 rl.length c5)).heap.size A5 rl.length c5 rl := by
          obtain ⟨A', n', c', e', hS⟩ := own_ints OL FQ.out
          injection e' with e1 e2 e3
          subst e1 e2 e3
          exact hS
        have HEND : Hid ((wishS ⟨k, fl, 0, rl, []⟩ = s → parW s = ⟨k, fl, 0, rl, []⟩ ∧ parWB s = true) ∧ (wishS ⟨k, fl, 0, rl, []⟩ ≠ s → parW s = zeroW ∧ parWB s = false)) := by
          have h9 := HE.out _ HCAND.out
          rw [HC.out] at h9
          exact h9
        have FF : Hid (FitW ⟨k, fl, 0, rl, []⟩) := ⟨FK, FL, by unfold Fit; simp, FQ.out, by simp⟩
        have OP : ((w7.setCell ⟨w2.heap.size, 3, none⟩ (.slice A5 rl.length c5))).ownsRow (w2.heap.size + 1) 92 2 (.slice none 0 0) 0 (prc []) := World.ownsRow_nil _ _ _ _
        have S2 : Sl RP 2 ((w7.setCell ⟨w2.heap.size, 3, none⟩ (.slice A5 rl.length c5))) ((w7.setCell ⟨w2.heap.size, 3, none⟩ (.slice A5 rl.length c5))).heap.size none 0 0 [] := Sl.nil _ _
        clear X7 R7 B7 b7 O7 Oq n2
        have y0 : (w7.setCell ⟨w2.heap.size, 3, none⟩ (.slice A5 rl.length c5)).cell? ⟨w2.heap.size, 0, none⟩ = some (.int .i64 k) := XX.cell 0
        have y1 : (w7.setCell ⟨w2.heap.size, 3, none⟩ (.slice A5 rl.length c5)).cell? ⟨w2.heap.size, 1, none⟩ = some (.int .i64 fl) := XX.cell 1
        have y2 : (w7.setCell ⟨w2.heap.size, 3, none⟩ (.slice A5 rl.length c5)).cell? ⟨w2.heap.size, 2, none⟩ = some (.int .i64 0) := XX.cell 2
        have y3 : (w7.setCell ⟨w2.heap.size, 3, none⟩ (.slice A5 rl.length c5)).cell? ⟨w2.heap.size, 3, none⟩ = some (.slice A5 rl.length c5) := XX.cell 3
        have y4 : (w7.setCell ⟨w2.heap.size, 3, none⟩ (.slice A5 rl.length c5)).cell? ⟨w2.heap.size, 4, none⟩ = some (.slice none 0 0) := XX.cell 4
        have hltx := XX.lt
        have hltr := RX.lt
        have XH := Lib.hid XX
        have RH := Lib.hid RX
        have OLH := Lib.hid OL
        have OPH := Lib.hid OP
        have BH := Lib.hid BB
        clear XX RX OL OP BB
        go_wp2_with fail
        refine (implFormatWish (x := ⟨k, fl, 0, rl, []⟩) _ S1 S2 FF.out.1 FF.out.2.1 FF.out.2.2.1).mono ?_
        rintro e w6 ⟨rfl, b6⟩
        clear y0 y1 y2 y3 y4 S1 S2
        have R6 := RH.out.below b6 hltr
        have X6 := XH.out.below b6 hltx
        have O6 := own_below OLH.out b6
        have P6 := own_below OPH.out b6
        have B6 := BH.out.trans (b6.mono BH.out.size)
        have f0 := R6.free 0
        have f1 := R6.free 1
        have f2 := R6.free 2
        have f3 := R6.free 3
        have f4 := R6.free 4
        have hlt := R6.lt
        have hlty := X6.lt
        have c0 : w6.cell? ⟨w.heap.size, 0, none⟩ = some (.int .i64 0) := R6.cell 0
        have c1 : w6.cell? ⟨w.heap.size, 1, none⟩ = some (.int .i64 0) := R6.cell 1
        have c2 : w6.cell? ⟨w.heap.size, 2, none⟩ = some (.int .i64 0) := R6.cell 2
        have c3 : w6.cell? ⟨w.heap.size, 3, none⟩ = some (.slice none 0 0) := R6.cell 3
        have c4 : w6.cell? ⟨w.heap.size, 4, none⟩ = some (.slice none 0 0) := R6.cell 4
        have y0 : w6.cell? ⟨w2.heap.size, 0, none⟩ = some (.int .i64 k) := X6.cell 0
        have y1 : w6.cell? ⟨w2.heap.size, 1, none⟩ = some (.int .i64 fl) := X6.cell 1
        have y2 : w6.cell? ⟨w2.heap.size, 2, none⟩ = some (.int .i64 0) := X6.cell 2
        have y3 : w6.cell? ⟨w2.heap.size, 3, none⟩ = some (.slice A5 rl.length c5) := X6.cell 3
        have y4 : w6.cell? ⟨w2.heap.size, 4, none⟩ = some (.slice none 0 0) := X6.cell 4
        have BF := Lib.hid (((((B6.setCell (p := ⟨w.heap.size, 0, none⟩) (Nat.le_refl _) (.int .i64 k)).setCell (p := ⟨w.heap.size, 1, none⟩) (Nat.le_refl _) (.int .i64 fl)).setCell (p := ⟨w.heap.size, 2, none⟩) (Nat.le_refl _) (.int .i64 0)).setCell (p := ⟨w.heap.size, 3, none⟩) (Nat.le_refl _) (.slice A5 rl.length c5)).setCell (p := ⟨w.heap.size, 4, none⟩) (Nat.le_refl _) (.slice none 0 0))
        have BN := Lib.hid (((((B6.setCell (p := ⟨w.heap.size, 0, none⟩) (Nat.le_refl _) (.int .i64 0)).setCell (p := ⟨w.heap.size, 1, none⟩) (Nat.le_refl _) (.int .i64 0)).setCell (p := ⟨w.heap.size, 2, none⟩) (Nat.le_refl _) (.int .i64 0)).setCell (p := ⟨w.heap.size, 3, none⟩) (Nat.le_refl _) (.slice none 0 0)).setCell (p := ⟨w.heap.size, 4, none⟩) (Nat.le_refl _) (.slice none 0 0))
        have OF := Lib.hid (own_mono (b' := w.heap.size) (ownsRow_setCell_below (ownsRow_setCell_below (ownsRow_setCell_below (ownsRow_setCell_below (ownsRow_setCell_below O6 (a := ⟨w.heap.size, 0, none⟩) hlo (.int .i64 k)) (a := ⟨w.heap.size, 1, none⟩) hlo (.int .i64 fl)) (a := ⟨w.heap.size, 2, none⟩) hlo (.int .i64 0)) (a := ⟨w.heap.size, 3, none⟩) hlo (.slice A5 rl.length c5)) (a := ⟨w.heap.size, 4, none⟩) hlo (.slice none 0 0)) (Nat.le_of_lt hlo))
        have PF := Lib.hid (own_mono (b' := w.heap.size) (ownsRow_setCell_below (ownsRow_setCell_below (ownsRow_setCell_below (ownsRow_setCell_below (ownsRow_setCell_below P6 (a := ⟨w.heap.size, 0, none⟩) hlo (.int .i64 k)) (a := ⟨w.heap.size, 1, none⟩) hlo (.int .i64 fl)) (a := ⟨w.heap.size, 2, none⟩) hlo (.int .i64 0)) (a := ⟨w.heap.size, 3, none⟩) hlo (.slice A5 rl.length c5)) (a := ⟨w.heap.size, 4, none⟩) hlo (.slice none 0 0)) (Nat.le_of_lt hlo))
        clear R6 X6 O6 P6 B6 b6
        by_cases e : wishS ⟨k, fl, 0, rl, []⟩ = s
        · have HP := Lib.hid (HEND.out.1 e)
          have q9 := ba_yes e
          clear e HEND
          go_wp2
          refine bodyPost_ret (v := .tuple #[.agg #[.int .i64 k, .int .i64 fl, .int .i64 0, .slice A5 rl.length c5, .slice none 0 0], .bool true]) (by simp [results, Try.results54, go_sem, c0, c1, c2, c3, c4]) rfl ?_
          refine ⟨_, _, ret_wb (x := ⟨k, fl, 0, rl, []⟩) (b := true) ⟨HP.out.1.symm, HP.out.2.symm⟩, ?_, BF.out⟩
          rw [HP.out.1]
          exact ⟨OF.out, PF.out, far_nilR _⟩
        · have HP := Lib.hid (HEND.out.2 e)
          have q9 := ba_no e
          clear e HEND
          go_wp2
          refine bodyPost_ret (v := .tuple #[.agg #[.int .i64 0, .int .i64 0, .int .i64 0, .slice none 0 0, .slice none 0 0], .bool false]) (by simp [results, Try.results54, go_sem, c0, c1, c2, c3, c4]) rfl ?_
          refine ⟨_, _, ret_wb (x := zeroW) (u := .slice none 0 0) (v := .slice none 0 0) (b := false) ⟨HP.out.1.symm, HP.out.2.symm⟩, ?_, BN.out⟩
          rw [HP.out.1]; exact ownW_nil _ _
      have s3 : (k == 3) = false := by simp [n3]
      by_cases n4 : k = 4
      · have s4 : (k == 4) = true := by simp [n4]
        have N4 := Lib.hid n4
        clear n4
        have xk : (w5.setCell ⟨w2.heap.size, 0, none⟩ (.int .i64 k)).cell? ⟨w2.heap.size, 0, none⟩ = some (.int .i64 k) := X6.cell 0
        have x6l := X6.lt
        have XH6 := Lib.hid X6
        have RH6 := Lib.hid R6
        have BH6 := Lib.hid B6
        clear X6 R6 B6
        have HC0 : Hid (candI a b (some c9) = ⟨k, fl, 0, [], parP c9⟩) := by
          show _ = _
          unfold candI
          rw [HKI.out, HFL.out, if_neg n2, if_neg n3, if_pos N4.out]
        go_wp2_with fail
        refine (implParsePairs _ hargs2).mono ?_
        rintro e w7 ⟨vq, rfl, Oq, b7⟩
        have FQ := Lib.hid (parP_fit c9)
        obtain ⟨ps, hps⟩ : ∃ ps, parP c9 = ps := ⟨_, rfl⟩
        rw [hps] at HC0 Oq FQ
        have HC := HC0
        obtain ⟨E5, d5, rfl, _, _⟩ := own_form Oq.1
        have z7 := b7.size
        rw [zW] at z7
        have X7 := XH6.out.below b7 XH6.out.lt
        have R7 := RH6.out.below b7 RH6.out.lt
        have B7 := BH6.out.trans (b7.mono BH6.out.size)
        have fr7 := X7.free 4
        have xlt7 := X7.lt
        have xc7 : w7.cell? ⟨w2.heap.size, 4, none⟩ = some (.slice none 0 0) := X7.cell 4
        have O7 := own_mono (b' := w2.heap.size + 1) Oq.1 (by rw [zW]; omega)
        have XX : Row (w7.setCell ⟨w2.heap.size, 4, none⟩ (.slice E5 ps.length d5)) w2.heap.size 53 [.int .i64 k, .int .i64 fl, .int .i64 0, .slice none 0 0, .slice E5 ps.length d5] := X7.set 4 (.slice E5 ps.length d5)
        have RX := R7.far (p := ⟨w2.heap.size, 4, none⟩) (by show w.heap.size ≠ w2.heap.size; omega) (.slice E5 ps.length d5)
        have BB := B7.setCell (p := ⟨w2.heap.size, 4, none⟩) (by show w.heap.size ≤ w2.heap.size; omega) (.slice E5 ps.length d5)
        have hlo : w.heap.size < w2.heap.size + 1 := by omega
        have OP := ownsRow_setCell_below O7 (a := ⟨w2.heap.size, 4, none⟩) (by show w2.heap.size < w2.heap.size + 1; omega) (.slice E5 ps.length d5)
        have S2 : Sl RP 2 (w7.setCell ⟨w2.heap.size, 4, none⟩ (.slice E5 ps.length d5)) (w7.setCell ⟨w2.heap.size, 4, none⟩ (.slice E5 ps.length d5)).heap.size E5 ps.length d5 ps := by
          obtain ⟨A', n', c', e', hS⟩ := own_pairs OP FQ.out
          injection e' with e1 e2 e3
          subst e1 e2 e3
          exact hS
        have HEND : Hid ((wishS ⟨k, fl, 0, [], ps⟩ = s → parW s = ⟨k, fl, 0, [], ps⟩ ∧ parWB s = true) ∧ (wishS ⟨k, fl, 0, [], ps⟩ ≠ s → parW s = zeroW ∧ parWB s = false)) := by
          have h9 := HE.out _ HCAND.out
          rw [HC.out] at h9
          exact h9
        have FF : Hid (FitW ⟨k, fl, 0, [], ps⟩) := ⟨FK, FL, by unfold Fit; simp, by simp, FQ.out⟩
        have OL : ((w7.setCell ⟨w2.heap.size, 4, none⟩ (.slice E5 ps.length d5))).ownsRow (w2.heap.size + 1) 3 1 (.slice none 0 0) 0 (([] : List Int).map (Value.int .i64)) := World.ownsRow_nil _ _ _ _
        have S1 : Sl RI 1 ((w7.setCell ⟨w2.heap.size, 4, none⟩ (.slice E5 ps.length d5))) ((w7.setCell ⟨w2.heap.size, 4, none⟩ (.slice E5 ps.length d5))).heap.size none 0 0 [] := Sl.nil _ _
        clear X7 R7 B7 b7 O7 Oq n2 n3
        have y0 : (w7.setCell ⟨w2.heap.size, 4, none⟩ (.slice E5 ps.length d5)).cell? ⟨w2.heap.size, 0, none⟩ = some (.int .i64 k) := XX.cell 0
        have y1 : (w7.setCell ⟨w2.heap.size, 4, none⟩ (.slice E5 ps.length d5)).cell? ⟨w2.heap.size, 1, none⟩ = some (.int .i64 fl) := XX.cell 1
        have y2 : (w7.setCell ⟨w2.heap.size, 4, none⟩ (.slice E5 ps.length d5)).cell? ⟨w2.heap.size, 2, none⟩ = some (.int .i64 0) := XX.cell 2
        have y3 : (w7.setCell ⟨w2.heap.size, 4, none⟩ (.slice E5 ps.length d5)).cell? ⟨w2.heap.size, 3, none⟩ = some (.slice none 0 0) := XX.cell 3
        have y4 : (w7.setCell ⟨w2.heap.size, 4, none⟩ (.slice E5 ps.length d5)).cell? ⟨w2.heap.size, 4, none⟩ = some (.slice E5 ps.length d5) := XX.cell 4
        have hltx := XX.lt
        have hltr := RX.lt
        have XH := Lib.hid XX
        have RH := Lib.hid RX
        have OLH := Lib.hid OL
        have OPH := Lib.hid OP
        have BH := Lib.hid BB
        clear XX RX OL OP BB
        go_wp2_with fail
        refine (implFormatWish (x := ⟨k, fl, 0, [], ps⟩) _ S1 S2 FF.out.1 FF.out.2.1 FF.out.2.2.1).mono ?_
        rintro e w6 ⟨rfl, b6⟩
        clear y0 y1 y2 y3 y4 S1 S2
        have R6 := RH.out.below b6 hltr
        have X6 := XH.out.below b6 hltx
        have O6 := own_below OLH.out b6
        have P6 := own_below OPH.out b6
        have B6 := BH.out.trans (b6.mono BH.out.size)
        have f0 := R6.free 0
        have f1 := R6.free 1
        have f2 := R6.free 2
        have f3 := R6.free 3
        have f4 := R6.free 4
        have hlt := R6.lt
        have hlty := X6.lt
        have c0 : w6.cell? ⟨w.heap.size, 0, none⟩ = some (.int .i64 0) := R6.cell 0
        have c1 : w6.cell? ⟨w.heap.size, 1, none⟩ = some (.int .i64 0) := R6.cell 1
        have c2 : w6.cell? ⟨w.heap.size, 2, none⟩ = some (.int .i64 0) := R6.cell 2
        have c3 : w6.cell? ⟨w.heap.size, 3, none⟩ = some (.slice none 0 0) := R6.cell 3
        have c4 : w6.cell? ⟨w.heap.size, 4, none⟩ = some (.slice none 0 0) := R6.cell 4
        have y0 : w6.cell? ⟨w2.heap.size, 0, none⟩ = some (.int .i64 k) := X6.cell 0
        have y1 : w6.cell? ⟨w2.heap.size, 1, none⟩ = some (.int .i64 fl) := X6.cell 1
        have y2 : w6.cell? ⟨w2.heap.size, 2, none⟩ = some (.int .i64 0) := X6.cell 2
        have y3 : w6.cell? ⟨w2.heap.size, 3, none⟩ = some (.slice none 0 0) := X6.cell 3
        have y4 : w6.cell? ⟨w2.heap.size, 4, none⟩ = some (.slice E5 ps.length d5) := X6.cell 4
        have BF := Lib.hid (((((B6.setCell (p := ⟨w.heap.size, 0, none⟩) (Nat.le_refl _) (.int .i64 k)).setCell (p := ⟨w.heap.size, 1, none⟩) (Nat.le_refl _) (.int .i64 fl)).setCell (p := ⟨w.heap.size, 2, none⟩) (Nat.le_refl _) (.int .i64 0)).setCell (p := ⟨w.heap.size, 3, none⟩) (Nat.le_refl _) (.slice none 0 0)).setCell (p := ⟨w.heap.size, 4, none⟩) (Nat.le_refl _) (.slice E5 ps.length d5))
        have BN := Lib.hid (((((B6.setCell (p := ⟨w.heap.size, 0, none⟩) (Nat.le_refl _) (.int .i64 0)).setCell (p := ⟨w.heap.size, 1, none⟩) (Nat.le_refl _) (.int .i64 0)).setCell (p := ⟨w.heap.size, 2, none⟩) (Nat.le_refl _) (.int .i64 0)).setCell (p := ⟨w.heap.size, 3, none⟩) (Nat.le_refl _) (.slice none 0 0)).setCell (p := ⟨w.heap.size, 4, none⟩) (Nat.le_refl _) (.slice none 0 0))
        have OF := Lib.hid (own_mono (b' := w.heap.size) (ownsRow_setCell_below (ownsRow_setCell_below (ownsRow_setCell_below (ownsRow_setCell_below (ownsRow_setCell_below O6 (a := ⟨w.heap.size, 0, none⟩) hlo (.int .i64 k)) (a := ⟨w.heap.size, 1, none⟩) hlo (.int .i64 fl)) (a := ⟨w.heap.size, 2, none⟩) hlo (.int .i64 0)) (a := ⟨w.heap.size, 3, none⟩) hlo (.slice none 0 0)) (a := ⟨w.heap.size, 4, none⟩) hlo (.slice E5 ps.length d5)) (Nat.le_of_lt hlo))
        have PF := Lib.hid (own_mono (b' := w.heap.size) (ownsRow_setCell_below (ownsRow_setCell_below (ownsRow_setCell_below (ownsRow_setCell_below (ownsRow_setCell_below P6 (a := ⟨w.heap.size, 0, none⟩) hlo (.int .i64 k)) (a := ⟨w.heap.size, 1, none⟩) hlo (.int .i64 fl)) (a := ⟨w.heap.size, 2, none⟩) hlo (.int .i64 0)) (a := ⟨w.heap.size, 3, none⟩) hlo (.slice none 0 0)) (a := ⟨w.heap.size, 4, none⟩) hlo (.slice E5 ps.length d5)) (Nat.le_of_lt hlo))
        clear R6 X6 O6 P6 B6 b6
        by_cases e : wishS ⟨k, fl, 0, [], ps⟩ = s
        · have HP := Lib.hid (HEND.out.1 e)
          have q9 := ba_yes e
          clear e HEND
          go_wp2
          refine bodyPost_ret (v := .tuple #[.agg #[.int .i64 k, .int .i64 fl, .int .i64 0, .slice none 0 0, .slice E5 ps.length d5], .bool true]) (by simp [results, Try.results54, go_sem, c0, c1, c2, c3, c4]) rfl ?_
          refine ⟨_, _, ret_wb (x := ⟨k, fl, 0, [], ps⟩) (b := true) ⟨HP.out.1.symm, HP.out.2.symm⟩, ?_, BF.out⟩
          rw [HP.out.1]
          exact ⟨OF.out, PF.out, .inl rfl⟩
        · have HP := Lib.hid (HEND.out.2 e)
          have q9 := ba_no e
          clear e HEND
          go_wp2
          refine bodyPost_ret (v := .tuple #[.agg #[.int .i64 0, .int .i64 0, .int .i64 0, .slice none 0 0, .slice none 0 0], .bool false]) (by simp [results, Try.results54, go_sem, c0, c1, c2, c3, c4]) rfl ?_
          refine ⟨_, _, ret_wb (x := zeroW) (u := .slice none 0 0) (v := .slice none 0 0) (b := false) ⟨HP.out.1.symm, HP.out.2.symm⟩, ?_, BN.out⟩
          rw [HP.out.1]; exact ownW_nil _ _
      have s4 : (k == 4) = false := by simp [n4]
      have HC : Hid (candI a b (some c9) = ⟨k, fl, 0, [], []⟩) := by
        show _ = _
        unfold candI
        rw [HKI.out, HFL.out]
        rw [if_neg n2, if_neg n3, if_neg n4]
      have HEND : Hid ((wishS ⟨k, fl, 0, [], []⟩ = s → parW s = ⟨k, fl, 0, [], []⟩ ∧ parWB s = true) ∧ (wishS ⟨k, fl, 0, [], []⟩ ≠ s → parW s = zeroW ∧ parWB s = false)) := by
        have h9 := HE.out _ HCAND.out
        rw [HC.out] at h9
        exact h9
      have FF : Hid (FitW ⟨k, fl, 0, [], []⟩) := ⟨FK, FL, by unfold Fit; simp, by simp, by simp⟩
      have XX := X6
      have RX := R6
      have BB := B6
      have hlo : w.heap.size < w2.heap.size + 1 := by omega
      have OL : ((w5.setCell ⟨w2.heap.size, 0, none⟩ (.int .i64 k))).ownsRow (w2.heap.size + 1) 3 1 (.slice none 0 0) 0 (([] : List Int).map (Value.int .i64)) := World.ownsRow_nil _ _ _ _
      have S1 : Sl RI 1 ((w5.setCell ⟨w2.heap.size, 0, none⟩ (.int .i64 k))) ((w5.setCell ⟨w2.heap.size, 0, none⟩ (.int .i64 k))).heap.size none 0 0 [] := Sl.nil _ _
      have OP : ((w5.setCell ⟨w2.heap.size, 0, none⟩ (.int .i64 k))).ownsRow (w2.heap.size + 1) 92 2 (.slice none 0 0) 0 (prc []) := World.ownsRow_nil _ _ _ _
      have S2 : Sl RP 2 ((w5.setCell ⟨w2.heap.size, 0, none⟩ (.int .i64 k))) ((w5.setCell ⟨w2.heap.size, 0, none⟩ (.int .i64 k))).heap.size none 0 0 [] := Sl.nil _ _
      clear X6 R6 B6 n2 n3 n4
      have y0 : (w5.setCell ⟨w2.heap.size, 0, none⟩ (.int .i64 k)).cell? ⟨w2.heap.size, 0, none⟩ = some (.int .i64 k) := XX.cell 0
      have y1 : (w5.setCell ⟨w2.heap.size, 0, none⟩ (.int .i64 k)).cell? ⟨w2.heap.size, 1, none⟩ = some (.int .i64 fl) := XX.cell 1
      have y2 : (w5.setCell ⟨w2.heap.size, 0, none⟩ (.int .i64 k)).cell? ⟨w2.heap.size, 2, none⟩ = some (.int .i64 0) := XX.cell 2
      have y3 : (w5.setCell ⟨w2.heap.size, 0, none⟩ (.int .i64 k)).cell? ⟨w2.heap.size, 3, none⟩ = some (.slice none 0 0) := XX.cell 3
      have y4 : (w5.setCell ⟨w2.heap.size, 0, none⟩ (.int .i64 k)).cell? ⟨w2.heap.size, 4, none⟩ = some (.slice none 0 0) := XX.cell 4
      have hltx := XX.lt
      have hltr := RX.lt
      have XH := Lib.hid XX
      have RH := Lib.hid RX
      have OLH := Lib.hid OL
      have OPH := Lib.hid OP
      have BH := Lib.hid BB
      clear XX RX OL OP BB
      go_wp2_with fail
      refine (implFormatWish (x := ⟨k, fl, 0, [], []⟩) _ S1 S2 FF.out.1 FF.out.2.1 FF.out.2.2.1).mono ?_
      rintro e w6 ⟨rfl, b6⟩
      clear y0 y1 y2 y3 y4 S1 S2
      have R6 := RH.out.below b6 hltr
      have X6 := XH.out.below b6 hltx
      have O6 := own_below OLH.out b6
      have P6 := own_below OPH.out b6
      have B6 := BH.out.trans (b6.mono BH.out.size)
      have f0 := R6.free 0
      have f1 := R6.free 1
      have f2 := R6.free 2
      have f3 := R6.free 3
      have f4 := R6.free 4
      have hlt := R6.lt
      have hlty := X6.lt
      have c0 : w6.cell? ⟨w.heap.size, 0, none⟩ = some (.int .i64 0) := R6.cell 0
      have c1 : w6.cell? ⟨w.heap.size, 1, none⟩ = some (.int .i64 0) := R6.cell 1
      have c2 : w6.cell? ⟨w.heap.size, 2, none⟩ = some (.int .i64 0) := R6.cell 2
      have c3 : w6.cell? ⟨w.heap.size, 3, none⟩ = some (.slice none 0 0) := R6.cell 3
      have c4 : w6.cell? ⟨w.heap.size, 4, none⟩ = some (.slice none 0 0) := R6.cell 4
      have y0 : w6.cell? ⟨w2.heap.size, 0, none⟩ = some (.int .i64 k) := X6.cell 0
      have y1 : w6.cell? ⟨w2.heap.size, 1, none⟩ = some (.int .i64 fl) := X6.cell 1
      have y2 : w6.cell? ⟨w2.heap.size, 2, none⟩ = some (.int .i64 0) := X6.cell 2
      have y3 : w6.cell? ⟨w2.heap.size, 3, none⟩ = some (.slice none 0 0) := X6.cell 3
      have y4 : w6.cell? ⟨w2.heap.size, 4, none⟩ = some (.slice none 0 0) := X6.cell 4
      have BF := Lib.hid (((((B6.setCell (p := ⟨w.heap.size, 0, none⟩) (Nat.le_refl _) (.int .i64 k)).setCell (p := ⟨w.heap.size, 1, none⟩) (Nat.le_refl _) (.int .i64 fl)).setCell (p := ⟨w.heap.size, 2, none⟩) (Nat.le_refl _) (.int .i64 0)).setCell (p := ⟨w.heap.size, 3, none⟩) (Nat.le_refl _) (.slice none 0 0)).setCell (p := ⟨w.heap.size, 4, none⟩) (Nat.le_refl _) (.slice none 0 0))
      have BN := Lib.hid (((((B6.setCell (p := ⟨w.heap.size, 0, none⟩) (Nat.le_refl _) (.int .i64 0)).setCell (p := ⟨w.heap.size, 1, none⟩) (Nat.le_refl _) (.int .i64 0)).setCell (p := ⟨w.heap.size, 2, none⟩) (Nat.le_refl _) (.int .i64 0)).setCell (p := ⟨w.heap.size, 3, none⟩) (Nat.le_refl _) (.slice none 0 0)).setCell (p := ⟨w.heap.size, 4, none⟩) (Nat.le_refl _) (.slice none 0 0))
      have OF := Lib.hid (own_mono (b' := w.heap.size) (ownsRow_setCell_below (ownsRow_setCell_below (ownsRow_setCell_below (ownsRow_setCell_below (ownsRow_setCell_below O6 (a := ⟨w.heap.size, 0, none⟩) hlo (.int .i64 k)) (a := ⟨w.heap.size, 1, none⟩) hlo (.int .i64 fl)) (a := ⟨w.heap.size, 2, none⟩) hlo (.int .i64 0)) (a := ⟨w.heap.size, 3, none⟩) hlo (.slice none 0 0)) (a := ⟨w.heap.size, 4, none⟩) hlo (.slice none 0 0)) (Nat.le_of_lt hlo))
      have PF := Lib.hid (own_mono (b' := w.heap.size) (ownsRow_setCell_below (ownsRow_setCell_below (ownsRow_setCell_below (ownsRow_setCell_below (ownsRow_setCell_below P6 (a := ⟨w.heap.size, 0, none⟩) hlo (.int .i64 k)) (a := ⟨w.heap.size, 1, none⟩) hlo (.int .i64 fl)) (a := ⟨w.heap.size, 2, none⟩) hlo (.int .i64 0)) (a := ⟨w.heap.size, 3, none⟩) hlo (.slice none 0 0)) (a := ⟨w.heap.size, 4, none⟩) hlo (.slice none 0 0)) (Nat.le_of_lt hlo))
      clear R6 X6 O6 P6 B6 b6
      by_cases e : wishS ⟨k, fl, 0, [], []⟩ = s
      · have HP := Lib.hid (HEND.out.1 e)
        have q9 := ba_yes e
        clear e HEND
        go_wp2
        refine bodyPost_ret (v := .tuple #[.agg #[.int .i64 k, .int .i64 fl, .int .i64 0, .slice none 0 0, .slice none 0 0], .bool true]) (by simp [results, Try.results54, go_sem, c0, c1, c2, c3, c4]) rfl ?_
        refine ⟨_, _, ret_wb (x := ⟨k, fl, 0, [], []⟩) (b := true) ⟨HP.out.1.symm, HP.out.2.symm⟩, ?_, BF.out⟩
        rw [HP.out.1]
        exact ⟨OF.out, PF.out, far_nilR _⟩
      · have HP := Lib.hid (HEND.out.2 e)
        have q9 := ba_no e
        clear e HEND
        go_wp2
        refine bodyPost_ret (v := .tuple #[.agg #[.int .i64 0, .int .i64 0, .int .i64 0, .slice none 0 0, .slice none 0 0], .bool false]) (by simp [results, Try.results54, go_sem, c0, c1, c2, c3, c4]) rfl ?_
        refine ⟨_, _, ret_wb (x := zeroW) (u := .slice none 0 0) (v := .slice none 0 0) (b := false) ⟨HP.out.1.symm, HP.out.2.symm⟩, ?_, BN.out⟩
        rw [HP.out.1]; exact ownW_nil _ _
end Go.Proofs.Ytgjghpaenliliaa.Wk

namespace Go.Proofs.Ytgjghpaenliliaa.P
open Go.Proofs.Ytgjghpaenliliaa.M

/-- The first k items are valid, and rise. -/
def okUp (l : List It) (k : Nat) : Prop := ∀ i x, i < k → l[i]? = some x → okI x = true ∧ ∀ y, 0 < i → l[i - 1]? = some y → y.id < x.id
theorem risI_iff : ∀ l : List It, risI l = true ↔ ∀ i x y, l[i]? = some x → l[i + 1]? = some y → x.id < y.id
  | [] => by simp [risI]
  | [a] => by simp [risI]
  | a :: b :: t => by
    rw [risI, Bool.and_eq_true, decide_eq_true_eq, risI_iff (b :: t)]
    constructor
    · rintro ⟨h1, h2⟩ i x y hx hy
      cases i with
      | zero => simp at hx hy; subst hx hy; exact h1
      | succ i => exact h2 i x y (by simpa using hx) (by simpa using hy)
    · intro h
      exact ⟨h 0 a b rfl rfl, fun i x y hx hy => h (i + 1) x y (by simpa using hx) (by simpa using hy)⟩
theorem okUp_all {l : List It} (h : okUp l l.length) : (l.all okI && risI l) = true := by
  rw [Bool.and_eq_true, List.all_eq_true, risI_iff]
  refine ⟨fun x hx => ?_, fun i x y hx hy => ?_⟩
  · obtain ⟨i, hi⟩ := List.getElem?_of_mem hx
    exact (h i x (List.getElem?_eq_some_iff.1 hi).1 hi).1
  · exact (h (i + 1) y (List.getElem?_eq_some_iff.1 hy).1 hy).2 x (by omega) (by simpa using hx)
theorem okIs_bad1 {l : List It} {k : Nat} {x : It} (hx : l[k]? = some x) (h : okI x = false) : okIs l = false := by
  unfold okIs
  have : l.all okI = false := by rw [List.all_eq_false]; exact ⟨x, List.mem_of_getElem? hx, by simp [h]⟩
  rw [this]; rfl
theorem okIs_bad2 {l : List It} {k : Nat} {x y : It} (hx : l[k]? = some x) (hy : l[k + 1]? = some y) (h : y.id ≤ x.id) : okIs l = false := by
  unfold okIs
  have : risI l = false := by
    cases hr : risI l with
    | false => rfl
    | true => have := (risI_iff l).1 hr k x y hx hy; omega
  rw [this]; simp
theorem okUp_step {l : List It} {k : Nat} {x : It} (h : okUp l k) (hx : l[k]? = some x) (h1 : okI x = true) (h2 : ∀ y, 0 < k → l[k - 1]? = some y → y.id < x.id) : okUp l (k + 1) := by
  intro i z hi hz
  rcases Nat.lt_or_ge i k with hlt | hge
  · exact h i z hlt hz
  · obtain rfl : i = k := by omega
    rw [hx] at hz
    injection hz with hz
    subst hz
    exact ⟨h1, fun y h0 hy => h2 y h0 hy⟩
theorem okIs_len {l : List It} {n k : Nat} (h : okUp l k) (hl : l.length = n) (hk : k = n) : okIs l = decide ((n : Int) ≤ 16) := by
  subst hl hk
  have := okUp_all h
  rw [Bool.and_eq_true] at this
  unfold okIs
  rw [this.1, this.2]
  simp
  omega
end Go.Proofs.Ytgjghpaenliliaa.P

namespace Go.Proofs.Ytgjghpaenliliaa.Wk
open Go.RowKit Go.Proofs.Ytgjghpaenliliaa.M
set_option linter.unusedVariables false
attribute [local go_sem] cell_grow

end Go.Proofs.Ytgjghpaenliliaa.Wk

namespace Go.Proofs.Ytgjghpaenliliaa.Wk
open Go.RowKit Go.Proofs.Ytgjghpaenliliaa.M
set_option linter.unusedVariables false
attribute [local go_sem] cell_grow

set_option maxHeartbeats 800000 in
theorem l2Ints {A A' : Option Addr} {n n' c c' : Nat} {xs ys : List Int} (w : World) (h : Sl RI 1 w w.heap.size A n c xs) (h' : Sl RI 1 w w.heap.size A' n' c' ys) :
    Calls Try.prog 111 #[.slice A n c, .slice A' n' c'] w fun e w' => e = .returned (.bool (decide (xs = ys))) ∧ Below w.heap.size w w' := by
  have m1 := Nat.le_trans h.le h.max
  have m2 := Nat.le_trans h'.le h'.max
  unfold maxLen at m1 m2
  have HL := Lib.hid h.len
  have HL' := Lib.hid h'.len
  by_cases hne : n = n'
  · have HN := Lib.hid hne
    have ht : ((n : Int) != (n' : Int)) = false := by simp [hne]
    clear hne
    go_enter Try.func111, Try.ntmps111
    go_wp2
    go_loopw [5] (fun vk wr => ∃ k : Nat, k ≤ n ∧ vk = .int .i64 k ∧ Hid (P.Agree xs ys k) ∧ Below w.heap.size w wr) (fun vk _ => n - (intOf vk).toNat)
    case atStart => exact ⟨0, Nat.zero_le _, rfl, rfl, Below.refl _ _⟩
    case round =>
      obtain ⟨k, hk, rfl, hup, hbw⟩ := hrel
      by_cases hlt : k < n
      · have hlt' : k < n' := by have := HN.out; omega
        obtain ⟨b, o, x, rfl, hb, hx, hf, hc⟩ := h.int hlt
        obtain ⟨b', o', y, rfl, hb', hy, hf', hc'⟩ := h'.int hlt'
        have hsz := hbw.size
        have g1 : b < wr.heap.size := by omega
        have g2 : b' < wr.heap.size := by omega
        have e1 := ((cell_of hbw) b (o + k) hb).trans hc
        have e2 := ((cell_of hbw) b' (o' + k) hb').trans hc'
        have q1 : (k : Int) < (n : Int) := by omega
        have q2 : (k : Int) < (n' : Int) := by omega
        have HX := Lib.hid hx
        have HY := Lib.hid hy
        clear hx hy h h' hc hc'
        by_cases hxy : x = y
        · have q : (x != y) = false := by simpa using hxy
          have HE := Lib.hid (P.agree_step hup.out HX.out (hxy ▸ HY.out))
          clear hxy
          go_wp2_with fail
          refine wp_region_qb (by kernel_rfl) (by kernel_rfl) ?_; (repeat (go_big_quiet_step ((fail)))); refine wpQuiet_nil ?_; intro w8 hb8
          go_wp2
          go_roundw
          case rel => exact ⟨k + 1, by omega, by go_num, HE, hbw.trans (hb8.mono hsz)⟩
          case measure => simp [intOf]; omega
        · have q : (x != y) = true := by simpa using hxy
          have HE : Hid (decide (xs = ys) = false) := by
            show _ = _
            rw [decide_eq_false_iff_not]; exact P.agree_no HX.out HY.out hxy
          clear hxy
          go_wp2_with fail
          refine wp_region_qb (by kernel_rfl) (by kernel_rfl) ?_; (repeat (go_big_quiet_step ((fail)))); refine wpQuiet_nil ?_; intro w8 hb8
          go_wp2
          go_ret
          exact ⟨ret_bool HE.out.symm, hbw.trans (hb8.mono hsz)⟩
      · have HE : Hid (decide (xs = ys) = true) := by
          show _ = _
          rw [decide_eq_true_iff]
          exact P.agree_all hup.out HL.out (by rw [HL'.out]; exact HN.out.symm) (by omega)
        clear h h'
        go_wp2
        go_ret
        exact ⟨ret_bool HE.out.symm, hbw⟩
  · have ht : ((n : Int) != (n' : Int)) = true := by simp; omega
    have HE : Hid (decide (xs = ys) = false) := by
      show _ = _
      rw [decide_eq_false_iff_not]
      rintro rfl
      exact hne (HL.out.symm.trans HL'.out)
    clear hne h h'
    go_enter Try.func111, Try.ntmps111
    go_wp2
    go_ret
    exact ⟨ret_bool HE.out.symm, Below.refl _ _⟩
set_option maxHeartbeats 800000 in
theorem equalInts {A A' : Option Addr} {n n' c c' : Nat} {xs ys : List Int} (w : World) (h : Sl RI 1 w w.heap.size A n c xs) (h' : Sl RI 1 w w.heap.size A' n' c' ys) :
    Calls Try.prog 90 #[.slice A n c, .slice A' n' c'] w fun e w' => e = .returned (.bool (decide (xs = ys))) ∧ Below w.heap.size w w' := by
  have m1 := Nat.le_trans h.le h.max
  have m2 := Nat.le_trans h'.le h'.max
  unfold maxLen at m1 m2
  have HL := Lib.hid h.len
  have HL' := Lib.hid h'.len
  by_cases hne : n = n'
  · have HN := Lib.hid hne
    have ht : ((n : Int) != (n' : Int)) = false := by simp [hne]
    clear hne
    go_enter Try.func90, Try.ntmps90
    go_wp2
    go_loopw [5, 13] (fun vi vk wr => ∃ k : Nat, k ≤ n ∧ vk = .int .i64 k ∧ Hid (P.Agree xs ys k) ∧ Below w.heap.size w wr) (fun vi vk _ => n - (intOf vk).toNat)
    case atStart => exact ⟨0, Nat.zero_le _, rfl, rfl, Below.refl _ _⟩
    case round =>
      obtain ⟨k, hk, rfl, hup, hbw⟩ := hrel
      by_cases hlt : k < n
      · have hlt' : k < n' := by have := HN.out; omega
        obtain ⟨b, o, x, rfl, hb, hx, hf, hc⟩ := h.int hlt
        obtain ⟨b', o', y, rfl, hb', hy, hf', hc'⟩ := h'.int hlt'
        have hsz := hbw.size
        have g1 : b < wr.heap.size := by omega
        have g2 : b' < wr.heap.size := by omega
        have e1 := ((cell_of hbw) b (o + k) hb).trans hc
        have e2 := ((cell_of hbw) b' (o' + k) hb').trans hc'
        have q1 : (k : Int) < (n : Int) := by omega
        have q2 : (k : Int) < (n' : Int) := by omega
        have HX := Lib.hid hx
        have HY := Lib.hid hy
        clear hx hy h h' hc hc'
        by_cases hxy : x = y
        · have q : (x != y) = false := by simpa using hxy
          have HE := Lib.hid (P.agree_step hup.out HX.out (hxy ▸ HY.out))
          clear hxy
          go_wp2_with fail
          refine wp_region_qb (by kernel_rfl) (by kernel_rfl) ?_; (repeat (go_big_quiet_step ((fail)))); refine wpQuiet_nil ?_; intro w8 hb8
          go_wp2
          go_roundw
          case rel => exact ⟨k + 1, by omega, by go_num, HE, hbw.trans (hb8.mono hsz)⟩
          case measure => simp [intOf]; omega
        · have q : (x != y) = true := by simpa using hxy
          have HE : Hid (decide (xs = ys) = false) := by
            show _ = _
            rw [decide_eq_false_iff_not]; exact P.agree_no HX.out HY.out hxy
          clear hxy
          go_wp2_with fail
          refine wp_region_qb (by kernel_rfl) (by kernel_rfl) ?_; (repeat (go_big_quiet_step ((fail)))); refine wpQuiet_nil ?_; intro w8 hb8
          go_wp2
          go_ret
          exact ⟨ret_bool HE.out.symm, hbw.trans (hb8.mono hsz)⟩
      · have HE : Hid (decide (xs = ys) = true) := by
          show _ = _
          rw [decide_eq_true_iff]
          exact P.agree_all hup.out HL.out (by rw [HL'.out]; exact HN.out.symm) (by omega)
        clear h h'
        go_wp2
        go_ret
        exact ⟨ret_bool HE.out.symm, hbw⟩
  · have ht : ((n : Int) != (n' : Int)) = true := by simp; omega
    have HE : Hid (decide (xs = ys) = false) := by
      show _ = _
      rw [decide_eq_false_iff_not]
      rintro rfl
      exact hne (HL.out.symm.trans HL'.out)
    clear hne h h'
    go_enter Try.func90, Try.ntmps90
    go_wp2
    go_ret
    exact ⟨ret_bool HE.out.symm, Below.refl _ _⟩
theorem it_eq (x y : It) : decide (x = y) = (decide (x.id = y.id) && decide (x.vals = y.vals)) := by
  obtain ⟨a, b⟩ := x
  obtain ⟨c, d⟩ := y
  simp [It.mk.injEq, Bool.decide_and]
end Go.Proofs.Ytgjghpaenliliaa.Wk

namespace Go.Proofs.Ytgjghpaenliliaa
open Go Go.RowKit Go.ChangeShapes Go.WideShapes Go.Deep Go.Proofs.Ytgjghpaenliliaa.M

/-- A wish by value. -/
def WishV (w : World) (v : Value) (x : Wi) : Prop := ∃ A n c E m d, v = .agg #[.int .i64 x.kind, .int .i64 x.field, .int .i64 x.value, .slice A n c, .slice E m d] ∧ Fit x.kind ∧ Fit x.field ∧ Fit x.value ∧ Sl RI 1 w w.heap.size A n c x.list ∧ Sl RP 2 w w.heap.size E m d x.pairs
set_option maxRecDepth 100000 in
theorem open_wish {H : Type} {enc : TypeId × Value → H} {W : World} {b0 : Nat} {v : Value} {d : DataW H} {p : List MemPlace} (hv : Value.okWide Try.prog W .any b0 47 v) (h : DataW.Trod enc Try.prog W 0 (fun _ => true) true 47 v d p) : ∃ l, WishV W v l := by
  obtain ⟨cs, rfl, hsz⟩ := Go.WideShapes.okWide_struct Try.underlying47 hv
  obtain ⟨fuel, hf⟩ := h
  obtain ⟨a, u, u', hcs, h1, h2, h3, ⟨A, n, c, rfl, hs⟩, ⟨E, m, d, rfl, ht⟩⟩ := opW (show DataW.trod enc Try.prog W 0 (fun _ => true) true fuel 47 cs.toList = some (_, p) from hf)
  refine ⟨a, A, n, c, E, m, d, ?_, h1, h2, h3, hs, ht⟩
  obtain ⟨l⟩ := cs
  simp at hcs
  rw [hcs]
end Go.Proofs.Ytgjghpaenliliaa

namespace Go.Proofs.Ytgjghpaenliliaa.Wk
open Go.RowKit Go.Proofs.Ytgjghpaenliliaa.M
set_option linter.unusedVariables false
attribute [local go_sem] cell_grow

theorem V_sl {α : Type} {R : Rep α} {sz B n c : Nat} {w : World} {A : Option Addr} {l : List α} (h : V R sz w B (.slice A n c) l) : Sl R sz w B A n c l := by
  obtain ⟨A', n', c', e, hs⟩ := h
  injection e with e1 e2 e3
  subst e1 e2 e3
  exact hs
/-- It returns a wish by value that reads as x. -/
abbrev RetW (w : World) (x : Wi) (e : Ending) (w' : World) : Prop :=
  ∃ A n c E m d, e = .returned (.agg #[.int .i64 x.kind, .int .i64 x.field, .int .i64 x.value, .slice A n c, .slice E m d]) ∧ Sl RI 1 w' w'.heap.size A n c x.list ∧ Sl RP 2 w' w'.heap.size E m d x.pairs ∧ Below w.heap.size w w'
/-- It returns a wish by value, whose rows are the call's own. -/
def RetWO (w : World) (x : Wi) (e : Ending) (w' : World) : Prop :=
  ∃ u v, e = .returned (.agg #[.int .i64 x.kind, .int .i64 x.field, .int .i64 x.value, u, v]) ∧ OwnW w' w.heap.size 3 92 x u v ∧ Below w.heap.size w w'
set_option maxHeartbeats 800000 in
theorem sz_wish {A E : Option Addr} {n c m d : Nat} {x : Wi} {left : Int} (w : World) (h : Sl RI 1 w w.heap.size A n c x.list) (h' : Sl RP 2 w w.heap.size E m d x.pairs) (h0 : 0 ≤ left) (h1 : left ≤ 1048576) :
    Calls Try.prog 55 #[.agg #[.int .i64 x.kind, .int .i64 x.field, .int .i64 x.value, .slice A n c, .slice E m d], .int .i64 left] w fun e w' => e = .returned (.int .i64 (less left (x.list.length + x.pairs.length))) ∧ Below w.heap.size w w' := by
  have hn := Nat.le_trans h.le h.max
  have B1 := (Below.refl w.heap.size w).alloc (Nat.le_refl _) (.cells #[.int .i64 x.kind, .int .i64 x.field, .int .i64 x.value, .slice A n c, .slice E m d] 47)
  have H' := Lib.hid (h'.on RP.keeps B1)
  have HL := Lib.hid h.len
  by_cases h2 : left < n
  · have hv : less left n = -1 := less_no h2
    have HE : Hid (less left (x.list.length + x.pairs.length) = -1) := less_no (by have := HL.out; omega)
    clear h h'
    go_enter Try.func55, Try.ntmps55
    go_wp2_with (go_at_call 32; refine (szIntS A n c left h0 h1 hn _).mono ?_; rintro e w' ⟨rfl, rfl⟩; rw [hv])
    go_ret
    exact ⟨ret_int HE.out.symm, B1⟩
  · have hv : less left n = left - n := less_fit (by omega)
    clear h h'
    by_cases h3 : left - n < x.pairs.length
    · have hv2 : less (left - n) x.pairs.length = -1 := less_no h3
      have HE : Hid (less left (x.list.length + x.pairs.length) = -1) := less_no (by have := HL.out; omega)
      go_enter Try.func55, Try.ntmps55
      go_wp2_with (first | (go_at_call 32; refine (szIntS A n c left h0 h1 hn _).mono ?_; rintro e w' ⟨rfl, rfl⟩; rw [hv]) | (go_at_call 85; refine (sz_pairs _ H'.out (by omega) (by omega)).mono ?_; rintro e w2 ⟨rfl, b2⟩; rw [hv2]))
      go_ret
      exact ⟨ret_int HE.out.symm, B1.trans (b2.mono B1.size)⟩
    · have hv2 : less (left - n) x.pairs.length = left - n - x.pairs.length := less_fit (by omega)
      have HE : Hid (less left (x.list.length + x.pairs.length) = left - n - x.pairs.length) := by
        show _ = _
        rw [less_fit (by have := HL.out; omega)]
        have := HL.out; omega
      go_enter Try.func55, Try.ntmps55
      go_wp2_with (first | (go_at_call 32; refine (szIntS A n c left h0 h1 hn _).mono ?_; rintro e w' ⟨rfl, rfl⟩; rw [hv]) | (go_at_call 85; refine (sz_pairs _ H'.out (by omega) (by omega)).mono ?_; rintro e w2 ⟨rfl, b2⟩; rw [hv2]))
      go_ret
      exact ⟨ret_int HE.out.symm, B1.trans (b2.mono B1.size)⟩
theorem eqInts_same {A A' : Option Addr} {n n' c c' : Nat} {xs : List Int} (w : World) (h : Sl RI 1 w w.heap.size A n c xs) (h' : Sl RI 1 w w.heap.size A' n' c' xs) :
    Calls Try.prog 38 #[.slice A n c, .slice A' n' c'] w fun e w' => e = .returned (.bool true) ∧ Below w.heap.size w w' :=
  (eqIntS w h h').mono fun e w' hh => by
    obtain ⟨he, hb⟩ := hh.below
    exact ⟨by rw [he]; simp, hb⟩
set_option maxHeartbeats 800000 in
theorem eq_wish {A E A' E' : Option Addr} {n c m d n' c' m' d' : Nat} {x : Wi} (w : World) (h : Sl RI 1 w w.heap.size A n c x.list) (g : Sl RP 2 w w.heap.size E m d x.pairs) (h' : Sl RI 1 w w.heap.size A' n' c' x.list) (g' : Sl RP 2 w w.heap.size E' m' d' x.pairs) :
    Calls Try.prog 68 #[.agg #[.int .i64 x.kind, .int .i64 x.field, .int .i64 x.value, .slice A n c, .slice E m d], .agg #[.int .i64 x.kind, .int .i64 x.field, .int .i64 x.value, .slice A' n' c', .slice E' m' d']] w fun e w' => e = .returned (.bool true) ∧ Below w.heap.size w w' := by
  have B2 := ((Below.refl w.heap.size w).alloc (Nat.le_refl _) (.cells #[.int .i64 x.kind, .int .i64 x.field, .int .i64 x.value, .slice A n c, .slice E m d] 53)).alloc (by simp) (.cells #[.int .i64 x.kind, .int .i64 x.field, .int .i64 x.value, .slice A' n' c', .slice E' m' d'] 53)
  have H := Lib.hid (h.on RI.keeps B2)
  have H' := Lib.hid (h'.on RI.keeps B2)
  have G := Lib.hid (g.on RP.keeps B2)
  have G' := Lib.hid (g'.on RP.keeps B2)
  have q1 : (x.kind != x.kind) = false := by simp
  have q2 : (x.field != x.field) = false := by simp
  have q3 : (x.value != x.value) = false := by simp
  clear h h' g g'
  go_enter Try.func68, Try.ntmps68
  go_wp2_with fail
  refine (eqInts_same _ H.out H'.out).mono ?_
  rintro e w2 ⟨rfl, b2⟩
  have K := G.out.on RP.keeps b2
  have K' := G'.out.on RP.keeps b2
  have hC := cell_of b2
  have z1 : w.heap.size < w2.heap.size := by have := b2.size; simp at this; omega
  have z2 : w.heap.size + 1 < w2.heap.size := by have := b2.size; simp at this; omega
  go_wp2_with fail
  refine (eq_pairs _ K K').mono ?_
  rintro e w3 ⟨rfl, b3⟩
  have B3 := (B2.trans (b2.mono B2.size)).trans (b3.mono (B2.trans (b2.mono B2.size)).size)
  clear K K' hC b2 b3 B2
  go_wp2_with fail
  go_ret
  exact ⟨rfl, B3⟩
set_option maxHeartbeats 1600000 in
theorem toWish {A E : Option Addr} {n c m d : Nat} {x : Wi} (w : World) (h : Sl RI 1 w w.heap.size A n c x.list) (g : Sl RP 2 w w.heap.size E m d x.pairs) (ht : x.list.length + x.pairs.length ≤ 1048576) :
    Calls Try.prog 61 #[.agg #[.int .i64 x.kind, .int .i64 x.field, .int .i64 x.value, .slice A n c, .slice E m d]] w (RetWO w x) := by
  have hn : n ≤ 1048576 := by have := h.len; omega
  have hb3 : ∀ o1 o2 o3, Below w.heap.size w (((w.alloc o1).alloc o2).alloc o3) := fun o1 o2 o3 => (((Below.refl _ _).alloc (Nat.le_refl _) _).alloc (by simp) _).alloc (by simp; omega) _
  go_enter Try.func61, Try.ntmps61
  go_wp2_with fail
  refine (toIntS _ (h.on RI.keeps (hb3 _ _ _)) hn).mono ?_
  rintro e w1 ⟨v1, rfl, ho1, b1⟩
  obtain ⟨A1, c1, rfl, _, _⟩ := own_form ho1
  have B0 := hb3 (.cells [Value.int .i64 x.kind, .int .i64 x.field, .int .i64 x.value, .slice A n c, .slice E m d].toArray 47) (.cells [Value.int .i64 0, .int .i64 0, .int .i64 0, .slice none 0 0, .slice none 0 0].toArray 53) (.cells [Value.int .i64 x.kind, .int .i64 x.field, .int .i64 x.value, .slice none 0 0, .slice none 0 0].toArray 53)
  have R0 := (((Row.new w 47 [.int .i64 x.kind, .int .i64 x.field, .int .i64 x.value, .slice A n c, .slice E m d]).alloc (.cells [Value.int .i64 0, .int .i64 0, .int .i64 0, .slice none 0 0, .slice none 0 0].toArray 53)).alloc (.cells [Value.int .i64 x.kind, .int .i64 x.field, .int .i64 x.value, .slice none 0 0, .slice none 0 0].toArray 53)).below b1 (by simp; omega)
  have R1 := ((Row.new (w.alloc (.cells [Value.int .i64 x.kind, .int .i64 x.field, .int .i64 x.value, .slice A n c, .slice E m d].toArray 47)) 53 [.int .i64 0, .int .i64 0, .int .i64 0, .slice none 0 0, .slice none 0 0]).alloc (.cells [Value.int .i64 x.kind, .int .i64 x.field, .int .i64 x.value, .slice none 0 0, .slice none 0 0].toArray 53)).below b1 (by simp)
  have R2 := (Row.new ((w.alloc (.cells [Value.int .i64 x.kind, .int .i64 x.field, .int .i64 x.value, .slice A n c, .slice E m d].toArray 47)).alloc (.cells [Value.int .i64 0, .int .i64 0, .int .i64 0, .slice none 0 0, .slice none 0 0].toArray 53)) 53 [.int .i64 x.kind, .int .i64 x.field, .int .i64 x.value, .slice none 0 0, .slice none 0 0]).below b1 (by simp)
  have BB := B0.trans (b1.mono B0.size)
  simp only [World.size_alloc] at R1 R2 ho1
  have K0 := Lib.hid (R0.far (p := ⟨w.heap.size + 1 + 1, 3, none⟩) (by simp; omega) (.slice A1 x.list.length c1))
  have K1 := Lib.hid (R1.far (p := ⟨w.heap.size + 1 + 1, 3, none⟩) (by simp) (.slice A1 x.list.length c1))
  have K2 := Lib.hid (R2.set 3 (.slice A1 x.list.length c1))
  have KO := Lib.hid (ownsRow_setCell_below ho1 (a := ⟨w.heap.size + 1 + 1, 3, none⟩) (by simp) (.slice A1 x.list.length c1))
  have KB := Lib.hid (BB.setCell (p := ⟨w.heap.size + 1 + 1, 3, none⟩) (by simp; omega) (.slice A1 x.list.length c1))
  have c23 := R2.cell 3
  have f23 := R2.free 3
  have c04 := R0.cell 4
  simp at c23 c04
  have z2 := R2.lt
  have z0 := R0.lt
  have K := Lib.hid (g.on RP.keeps KB.out)
  clear R0 R1 R2 b1 ho1 B0 BB hb3 h g
  go_wp2_with fail
  refine (toPairS _ K.out (by omega)).mono ?_
  rintro e w3 ⟨v2, rfl, ho2, b3⟩
  obtain ⟨E2, d2, rfl, _, _⟩ := own_form ho2
  have BB := KB.out.trans (b3.mono KB.out.size)
  have R1 := K1.out.below b3 K1.out.lt
  have R2 := K2.out.below b3 K2.out.lt
  have HFar : Hid (Far (.slice A1 x.list.length c1) (.slice E2 x.pairs.length d2)) := by
    cases hv : (Value.slice A1 x.list.length c1).ownBlock with
    | none => exact .inl hv
    | some g =>
      refine .inr fun hh => ?_
      rw [hv] at hh
      have g1 := (KO.out.lt g hv).2
      have g2 := (ho2.lt g hh.symm).1
      omega
  have O1 := Lib.hid (own_below KO.out b3)
  have O2 := Lib.hid ho2
  have c13 := R2.cell 0
  have c20 := R2.cell 0
  have c21 := R2.cell 1
  have c22 := R2.cell 2
  have c23' := R2.cell 3
  have c24 := R2.cell 4
  have f24 := R2.free 4
  have c10 := R1.cell 0
  have c11 := R1.cell 1
  have c12 := R1.cell 2
  have c13 := R1.cell 3
  have c14 := R1.cell 4
  have f10 := R1.free 0
  have f11 := R1.free 1
  have f12 := R1.free 2
  have f13 := R1.free 3
  have f14 := R1.free 4
  simp at c20 c21 c22 c23' c24 c10 c11 c12 c13 c14
  have z3 := R2.lt
  have z4 := R1.lt
  have HBB := Lib.hid BB
  have hbase : w.heap.size + 1 + 1 < (w1.setCell ⟨w.heap.size + 1 + 1, 3, none⟩ (.slice A1 x.list.length c1)).heap.size := by simpa using z2
  clear K0 K1 K2 KO KB K b3 ho2 BB R1 R2 c23 f23 c04 z2 z0
  go_wp2
  refine bodyPost_ret (v := .agg #[.int .i64 x.kind, .int .i64 x.field, .int .i64 x.value, .slice A1 x.list.length c1, .slice E2 x.pairs.length d2]) (by simp [results, Try.results61, go_sem, c10, c11, c12, c13, c14]) rfl ?_
  refine ⟨_, _, rfl, OwnW.mono (lo := w.heap.size + 1 + 1 + 1) ⟨?_, ?_, HFar.out⟩ (by omega), ?_⟩
  · exact ownsRow_setCell_below (ownsRow_setCell_below (ownsRow_setCell_below (ownsRow_setCell_below (ownsRow_setCell_below (ownsRow_setCell_below O1.out (by simp) _) (by simp) _) (by simp) _) (by simp) _) (by simp) _) (by simp) _
  · exact ownsRow_setCell_below (ownsRow_setCell_below (ownsRow_setCell_below (ownsRow_setCell_below (ownsRow_setCell_below (ownsRow_setCell_below (own_mono O2.out (by omega)) (by simp) _) (by simp) _) (by simp) _) (by simp) _) (by simp) _) (by simp) _
  · exact (((((HBB.out.setCell (p := ⟨w.heap.size + 1 + 1, 4, none⟩) (by simp; omega) _).setCell (p := ⟨w.heap.size + 1, 0, none⟩) (by simp) _).setCell (p := ⟨w.heap.size + 1, 1, none⟩) (by simp) _).setCell (p := ⟨w.heap.size + 1, 2, none⟩) (by simp) _).setCell (p := ⟨w.heap.size + 1, 3, none⟩) (by simp) _).setCell (p := ⟨w.heap.size + 1, 4, none⟩) (by simp) _
theorem to_wish {A E : Option Addr} {n c m d : Nat} {x : Wi} (w : World) (h : Sl RI 1 w w.heap.size A n c x.list) (g : Sl RP 2 w w.heap.size E m d x.pairs) (ht : x.list.length + x.pairs.length ≤ 1048576) :
    Calls Try.prog 61 #[.agg #[.int .i64 x.kind, .int .i64 x.field, .int .i64 x.value, .slice A n c, .slice E m d]] w (RetW w x) :=
  (toWish w h g ht).mono fun e w' ⟨u, v, he, ho, hb⟩ => by
    obtain ⟨⟨A', n', c', rfl, r1⟩, ⟨E', m', d', rfl, r2⟩⟩ := ho.read ⟨V.fit ⟨A, n, c, rfl, h⟩, fitPairs g⟩
    exact ⟨A', n', c', E', m', d', he, r1, r2, hb⟩
end Go.Proofs.Ytgjghpaenliliaa.Wk

namespace Go.Proofs.Ytgjghpaenliliaa.Wk
open Go.RowKit Go.Proofs.Ytgjghpaenliliaa.M
set_option linter.unusedVariables false
attribute [local go_sem] cell_grow

/-- How many values a list of nodes holds, the nodes themselves counted too. -/
def totN : List Nd → Nat
  | [] => 0
  | x :: t => 1 + (x.wish.list.length + x.wish.pairs.length) + totN t
def valsN (l : List Nd) (k : Nat) : Nat := ((l.take k).map fun x => x.wish.list.length + x.wish.pairs.length).sum
theorem valsN_succ {l : List Nd} {k : Nat} {x : Nd} (hx : l[k]? = some x) : valsN l (k + 1) = valsN l k + (x.wish.list.length + x.wish.pairs.length) := by
  have hl := (List.getElem?_eq_some_iff.1 hx).1
  unfold valsN
  rw [List.take_succ_eq_append_getElem hl]
  rw [List.getElem?_eq_getElem hl] at hx
  injection hx with hx
  rw [hx]; simp
theorem totN_eq (l : List Nd) : totN l = l.length + valsN l l.length := by
  have : ∀ l : List Nd, totN l = l.length + (l.map fun x => x.wish.list.length + x.wish.pairs.length).sum := by
    intro l
    induction l with
    | nil => rfl
    | cons a t ih => simp only [totN, List.length_cons, List.map_cons, List.sum_cons]; omega
  rw [this]; unfold valsN; rw [List.take_length]
theorem valsN_le (l : List Nd) : ∀ k, valsN l k ≤ valsN l l.length := by
  intro k
  unfold valsN
  rw [List.take_length]
  induction l generalizing k with
  | nil => simp
  | cons a t ih =>
    cases k with
    | zero => simp
    | succ k => simp only [List.take_succ_cons, List.map_cons, List.sum_cons]; have := ih k; omega
abbrev nodeAgg (x : Nd) (u v : Value) : Value := .agg #[.int .i64 x.op, .int .i64 x.wish.kind, .int .i64 x.wish.field, .int .i64 x.wish.value, u, v]
set_option maxHeartbeats 800000 in
theorem sz_node {A E : Option Addr} {n c m d : Nat} {x : Nd} {left : Int} (w : World) (h : Sl RI 1 w w.heap.size A n c x.wish.list) (h' : Sl RP 2 w w.heap.size E m d x.wish.pairs) (h0 : 0 ≤ left) (h1 : left ≤ 1048576) :
    Calls Try.prog 23 #[.agg #[.int .i64 x.op, .int .i64 x.wish.kind, .int .i64 x.wish.field, .int .i64 x.wish.value, .slice A n c, .slice E m d], .int .i64 left] w fun e w' => e = .returned (.int .i64 (less left (x.wish.list.length + x.wish.pairs.length))) ∧ Below w.heap.size w w' := by
  have B1 := (Below.refl w.heap.size w).alloc (Nat.le_refl _) (.cells #[.int .i64 x.op, .int .i64 x.wish.kind, .int .i64 x.wish.field, .int .i64 x.wish.value, .slice A n c, .slice E m d] 49)
  have H := Lib.hid (h.on RI.keeps B1)
  have H' := Lib.hid (h'.on RP.keeps B1)
  clear h h'
  by_cases h2 : left < ((x.wish.list.length + x.wish.pairs.length : Nat) : Int)
  · have hv := less_no h2
    go_enter Try.func23, Try.ntmps23
    go_wp2_with (go_at_call 55; refine (sz_wish _ H.out H'.out h0 h1).mono ?_; rintro e w2 ⟨rfl, b2⟩; rw [hv])
    go_ret
    exact ⟨ret_int hv.symm, B1.trans (b2.mono B1.size)⟩
  · have hv := less_fit (left := left) (t := x.wish.list.length + x.wish.pairs.length) (by omega)
    have hpos : 0 ≤ left - ((x.wish.list.length + x.wish.pairs.length : Nat) : Int) := by omega
    go_enter Try.func23, Try.ntmps23
    go_wp2_with (go_at_call 55; refine (sz_wish _ H.out H'.out h0 h1).mono ?_; rintro e w2 ⟨rfl, b2⟩; rw [hv])
    go_ret
    exact ⟨ret_int hv.symm, B1.trans (b2.mono B1.size)⟩
set_option maxHeartbeats 800000 in
theorem sz_nodes {A : Option Addr} {n c : Nat} {l : List Nd} {left : Int} (w : World) (h : Sl RN 6 w w.heap.size A n c l) (h0 : 0 ≤ left) (h1 : left ≤ 1048576) :
    Calls Try.prog 7 #[.slice A n c, .int .i64 left] w fun e w' => e = .returned (.int .i64 (less left (totN l))) ∧ Below w.heap.size w w' := by
  have hn := Nat.le_trans h.le h.max
  have HT := Lib.hid (totN_eq l)
  have HL := Lib.hid h.len
  unfold maxLen at hn
  by_cases hlt0 : left < n
  · have hv : less left (totN l) = -1 := by
      unfold less
      rw [if_pos (by rw [HT.out, HL.out]; omega)]
    have HV := Lib.hid hv
    clear hv h
    go_enter Try.func7, Try.ntmps7
    go_wp2
    go_ret
    exact ⟨ret_int HV.out.symm, Below.refl _ _⟩
  · go_enter Try.func7, Try.ntmps7
    go_wp2
    go_loopw [1, 5] (fun vl vi wr => ∃ k : Nat, k ≤ n ∧ vi = .int .i64 k ∧ vl = .int .i64 (left - n - valsN l k) ∧ 0 ≤ left - n - (valsN l k : Int) ∧ Below w.heap.size w wr) (fun _ vi _ => n - (intOf vi).toNat)
    case atStart => exact ⟨0, Nat.zero_le _, rfl, vint (by simp [valsN]), by simp [valsN]; omega, Below.refl _ _⟩
    case round =>
      obtain ⟨k, hk, rfl, rfl, hpos, hbw⟩ := hrel
      by_cases hlt : k < n
      · obtain ⟨b, o, x, A1, n1, c1, E1, m1, d1, rfl, hb, hx, hf, hs, ht, g0, g1, g2, g3, g4, g5⟩ := nodeAt h hlt
        have e0 := ((cell_of hbw) b (o + k * 6) hb).trans g0
        have e1 := ((cell_of hbw) b (o + k * 6 + 1) hb).trans g1
        have e2 := ((cell_of hbw) b (o + k * 6 + 2) hb).trans g2
        have e3 := ((cell_of hbw) b (o + k * 6 + 3) hb).trans g3
        have e4 := ((cell_of hbw) b (o + k * 6 + 4) hb).trans g4
        have e5 := ((cell_of hbw) b (o + k * 6 + 5) hb).trans g5
        have HS := Lib.hid (valsN_succ hx)
        have HI := Lib.hid (hs.on RI.keeps hbw)
        have HP := Lib.hid (ht.on RP.keeps hbw)
        have HLE := Lib.hid (valsN_le l (k + 1))
        clear g0 g1 g2 g3 g4 g5 h hs ht hx
        by_cases hbad : left - n - (valsN l k : Int) < ((x.wish.list.length + x.wish.pairs.length : Nat) : Int)
        · have hl := less_no hbad
          have HV : Hid (less left (totN l) = -1) := by
            show _ = _
            unfold less
            have e1 := HT.out; have e2 := HL.out; have e3 := HS.out; have e5 := HLE.out
            rw [if_pos (by omega)]
          go_wp2_with fail
          refine (sz_node _ HI.out HP.out hpos (by omega)).mono ?_
          rintro e w2 ⟨rfl, hb2⟩
          rw [hl]
          have B2 := hbw.trans (hb2.mono hbw.size)
          clear hl hb2 hbw e0 e1 e2 e3 e4 e5
          go_wp2
          go_ret
          exact ⟨ret_int HV.out.symm, B2⟩
        · have hl := less_fit (left := left - n - (valsN l k : Int)) (t := x.wish.list.length + x.wish.pairs.length) (by omega)
          go_wp2_with fail
          refine (sz_node _ HI.out HP.out hpos (by omega)).mono ?_
          rintro e w2 ⟨rfl, hb2⟩
          rw [hl]
          have B2 := hbw.trans (hb2.mono hbw.size)
          have hp2 : 0 ≤ left - n - (valsN l k : Int) - ((x.wish.list.length + x.wish.pairs.length : Nat) : Int) := by omega
          clear hl hb2 hbw e0 e1 e2 e3 e4 e5
          go_wp2
          go_roundw
          case rel => exact ⟨k + 1, by omega, by go_num, vint (by have := HS.out; omega), by have := HS.out; omega, B2⟩
          case measure => simp [intOf]; omega
      · have HV : Hid (less left (totN l) = left - n - valsN l k) := by
          show _ = _
          unfold less
          have e1 := HT.out; have e2 := HL.out
          have hkn : k = l.length := by omega
          rw [hkn, if_neg (by rw [hkn] at hpos; omega)]
          rw [hkn] at hpos
          omega
        clear h
        go_wp2
        go_ret
        exact ⟨ret_int HV.out.symm, hbw⟩
theorem info_node : (Try.prog.info? 55).map (fun i => (i.zero, i.size, i.bytes)) = some (some (.agg #[.int .i64 0, .int .i64 0, .int .i64 0, .int .i64 0, .slice none 0 0, .slice none 0 0]), 6, 80) := by kernel_rfl
def zeroN : NdC := (⟨0, ⟨0, 0, 0, [], []⟩⟩, .slice none 0 0, .slice none 0 0)
theorem made_nodes (n : Nat) : madeCells #[.int .i64 0, .int .i64 0, .int .i64 0, .int .i64 0, .slice none 0 0, .slice none 0 0] (n * 6) = (ndc (List.replicate n zeroN)).toArray := by
  apply Array.ext
  · rw [size_madeCells]; simp [ndc_len]
  · intro j h1 h2
    have hj : j < n * 6 := by rw [size_madeCells] at h1; exact h1
    obtain ⟨a0, a1, a2, a3, a4, a5⟩ := ndc_at (List.replicate n zeroN) (j / 6) zeroN (by rw [List.getElem?_replicate, if_pos (by omega)])
    have e : (madeCells #[.int .i64 0, .int .i64 0, .int .i64 0, .int .i64 0, .slice none 0 0, .slice none 0 0] (n * 6))[j] = (#[Value.int .i64 0, .int .i64 0, .int .i64 0, .int .i64 0, .slice none 0 0, .slice none 0 0])[j % 6]! := by simp [madeCells]
    rw [e]
    have key : ∀ r, r < 6 → j % 6 = r → j = j / 6 * 6 + r := fun r _ h => by omega
    have hr : j % 6 < 6 := Nat.mod_lt _ (by decide)
    rcases (by omega : j % 6 = 0 ∨ j % 6 = 1 ∨ j % 6 = 2 ∨ j % 6 = 3 ∨ j % 6 = 4 ∨ j % 6 = 5) with h0 | h0 | h0 | h0 | h0 | h0
    · rw [h0]; rw [show j / 6 * 6 = j by omega] at a0; obtain ⟨_, hh⟩ := List.getElem?_eq_some_iff.1 a0; simpa [zeroN] using hh.symm
    · rw [h0]; rw [show j / 6 * 6 + 1 = j by omega] at a1; obtain ⟨_, hh⟩ := List.getElem?_eq_some_iff.1 a1; simpa [zeroN] using hh.symm
    · rw [h0]; rw [show j / 6 * 6 + 2 = j by omega] at a2; obtain ⟨_, hh⟩ := List.getElem?_eq_some_iff.1 a2; simpa [zeroN] using hh.symm
    · rw [h0]; rw [show j / 6 * 6 + 3 = j by omega] at a3; obtain ⟨_, hh⟩ := List.getElem?_eq_some_iff.1 a3; simpa [zeroN] using hh.symm
    · rw [h0]; rw [show j / 6 * 6 + 4 = j by omega] at a4; obtain ⟨_, hh⟩ := List.getElem?_eq_some_iff.1 a4; simpa [zeroN] using hh.symm
    · rw [h0]; rw [show j / 6 * 6 + 5 = j by omega] at a5; obtain ⟨_, hh⟩ := List.getElem?_eq_some_iff.1 a5; simpa [zeroN] using hh.symm
/-- It returns a node by value, whose rows are the call's own. -/
def RetNO (w : World) (x : Nd) (e : Ending) (w' : World) : Prop :=
  ∃ u v, e = .returned (.agg #[.int .i64 x.op, .int .i64 x.wish.kind, .int .i64 x.wish.field, .int .i64 x.wish.value, u, v]) ∧ OwnW w' w.heap.size 3 92 x.wish u v ∧ Below w.heap.size w w'
set_option maxHeartbeats 1600000 in
theorem toNode {A E : Option Addr} {n c m d : Nat} {x : Nd} (w : World) (h : Sl RI 1 w w.heap.size A n c x.wish.list) (g : Sl RP 2 w w.heap.size E m d x.wish.pairs) (ht : x.wish.list.length + x.wish.pairs.length ≤ 1048576) :
    Calls Try.prog 27 #[.agg #[.int .i64 x.op, .int .i64 x.wish.kind, .int .i64 x.wish.field, .int .i64 x.wish.value, .slice A n c, .slice E m d]] w (RetNO w x) := by
  have hb3 : ∀ o1 o2 o3, Below w.heap.size w (((w.alloc o1).alloc o2).alloc o3) := fun o1 o2 o3 => (((Below.refl _ _).alloc (Nat.le_refl _) _).alloc (by simp) _).alloc (by simp; omega) _
  go_enter Try.func27, Try.ntmps27
  go_wp2_with fail
  refine (toWish (x := x.wish) _ (h.on RI.keeps (hb3 _ _ _)) (g.on RP.keeps (hb3 _ _ _)) ht).mono ?_
  rintro e w1 ⟨v1, v2, rfl, ho, b1⟩
  obtain ⟨A1, c1, rfl, _, _⟩ := own_form ho.1
  obtain ⟨E1, d1, rfl, _, _⟩ := own_form ho.2.1
  have B0 := hb3 (.cells [Value.int .i64 x.op, .int .i64 x.wish.kind, .int .i64 x.wish.field, .int .i64 x.wish.value, .slice A n c, .slice E m d].toArray 49) (.cells [Value.int .i64 0, .int .i64 0, .int .i64 0, .int .i64 0, .slice none 0 0, .slice none 0 0].toArray 55) (.cells [Value.int .i64 x.op, .int .i64 0, .int .i64 0, .int .i64 0, .slice none 0 0, .slice none 0 0].toArray 55)
  have R1 := ((Row.new (w.alloc (.cells [Value.int .i64 x.op, .int .i64 x.wish.kind, .int .i64 x.wish.field, .int .i64 x.wish.value, .slice A n c, .slice E m d].toArray 49)) 55 [.int .i64 0, .int .i64 0, .int .i64 0, .int .i64 0, .slice none 0 0, .slice none 0 0]).alloc (.cells [Value.int .i64 x.op, .int .i64 0, .int .i64 0, .int .i64 0, .slice none 0 0, .slice none 0 0].toArray 55)).below b1 (by simp)
  have R2 := (Row.new ((w.alloc (.cells [Value.int .i64 x.op, .int .i64 x.wish.kind, .int .i64 x.wish.field, .int .i64 x.wish.value, .slice A n c, .slice E m d].toArray 49)).alloc (.cells [Value.int .i64 0, .int .i64 0, .int .i64 0, .int .i64 0, .slice none 0 0, .slice none 0 0].toArray 55)) 55 [.int .i64 x.op, .int .i64 0, .int .i64 0, .int .i64 0, .slice none 0 0, .slice none 0 0]).below b1 (by simp)
  have BB := Lib.hid (B0.trans (b1.mono B0.size))
  simp only [World.size_alloc] at R1 R2 ho
  have O := Lib.hid ho
  have z1 := R1.lt
  have z2 := R2.lt
  have c10 := R1.cell 0
  have f10 := R1.free 0
  have c20 := R2.cell 0
  have f20 := R2.free 0
  have c11 := R1.cell 1
  have f11 := R1.free 1
  have c21 := R2.cell 1
  have f21 := R2.free 1
  have c12 := R1.cell 2
  have f12 := R1.free 2
  have c22 := R2.cell 2
  have f22 := R2.free 2
  have c13 := R1.cell 3
  have f13 := R1.free 3
  have c23 := R2.cell 3
  have f23 := R2.free 3
  have c14 := R1.cell 4
  have f14 := R1.free 4
  have c24 := R2.cell 4
  have f24 := R2.free 4
  have c15 := R1.cell 5
  have f15 := R1.free 5
  have c25 := R2.cell 5
  have f25 := R2.free 5
  simp at c10 c20 c11 c21 c12 c22 c13 c23 c14 c24 c15 c25
  clear R1 R2 B0 b1 ho hb3 h g
  go_wp2
  refine bodyPost_ret (v := .agg #[.int .i64 x.op, .int .i64 x.wish.kind, .int .i64 x.wish.field, .int .i64 x.wish.value, .slice A1 x.wish.list.length c1, .slice E1 x.wish.pairs.length d1]) (by simp [results, Try.results27, go_sem, c10, c11, c12, c13, c14, c15]) rfl ?_
  refine ⟨_, _, rfl, OwnW.mono (lo := w.heap.size + 1 + 1 + 1) ?_ (by omega), ?_⟩
  · repeat (refine OwnW.far ?_ (by first | (simp; done) | (simp; omega)) _)
    exact O.out
  · repeat (refine Below.setCell ?_ (by first | (simp; done) | (simp; omega)) _)
    exact BB.out
/-- It returns a list of nodes that the call laid. -/
def RetNs (w : World) (l : List Nd) (e : Ending) (w' : World) : Prop := ∃ v, e = .returned v ∧ OwnN w' w.heap.size 55 3 92 v l ∧ Below w.heap.size w w'
set_option maxHeartbeats 1600000 in
theorem toNodeS {A : Option Addr} {n c : Nat} {l : List Nd} (w : World) (h : Sl RN 6 w w.heap.size A n c l) (ht : totN l ≤ 1048576) : Calls Try.prog 9 #[.slice A n c] w (RetNs w l) := by
  obtain ⟨i0, hi, hz0, hz1, hz2⟩ := info_parts info_node
  have hn : n ≤ 1048576 := by have := totN_eq l; have := h.len; omega
  have hmk : ∀ w : World, (Instr.makeSlice 25 (.int .i64 (n : Int)) (.int .i64 (n : Int))).run Try.prog w = .ok (.slice (some ⟨w.heap.size, 0, none⟩) n n) (w.alloc (.cells (ndc (List.replicate n zeroN)).toArray 55)) := fun w => by
    have := run_make (P := Try.prog) w 25 55 i0 _ Try.underlying25 hi hz0 .i64 .i64 n n (by omega) (by omega) (by rw [hz2]; omega) (by omega)
    rw [hz1] at this
    rw [← made_nodes]
    simpa [Value.cells] using this
  have hvl : ∀ k, valsN l k ≤ 1048576 := fun k => by have := valsN_le l k; have := totN_eq l; omega
  have HV := Lib.hid hvl
  have HL := Lib.hid h.len
  clear hvl
  go_enter Try.func9, Try.ntmps9
  go_wp2
  clear hmk
  go_loopw [4] (fun vi wr => ∃ (k : Nat) (ps : List NdC), k ≤ n ∧ vi = .int .i64 k ∧ Hid (ps.map (·.1) = l.take k) ∧ OwnNs wr (w.heap.size + 1) 3 92 ps ∧ Row wr w.heap.size 55 (ndc (ps ++ List.replicate (n - k) zeroN)) ∧ Below w.heap.size w wr)
    (fun vi _ => n - (intOf vi).toNat)
  case atStart => exact ⟨0, [], Nat.zero_le _, rfl, rfl, OwnNs.nil _ _ _ _, Row.new w _ _, (Below.refl _ _).alloc (Nat.le_refl _) _⟩
  case round =>
    obtain ⟨k, ps, hk, rfl, hmp, hrows, hrow, hbw⟩ := hrel
    by_cases hlt : k < n
    · obtain ⟨b, o, x, A1, n1, c1, E1, m1, d1, rfl, hb, hx, hf, hs, ht1, g0, g1, g2, g3, g4, g5⟩ := nodeAt h hlt
      have e0 := ((cell_of hbw) b (o + k * 6) hb).trans g0
      have e1 := ((cell_of hbw) b (o + k * 6 + 1) hb).trans g1
      have e2 := ((cell_of hbw) b (o + k * 6 + 2) hb).trans g2
      have e3 := ((cell_of hbw) b (o + k * 6 + 3) hb).trans g3
      have e4 := ((cell_of hbw) b (o + k * 6 + 4) hb).trans g4
      have e5 := ((cell_of hbw) b (o + k * 6 + 5) hb).trans g5
      have hn1 : x.wish.list.length + x.wish.pairs.length ≤ 1048576 := by have := valsN_succ hx; have := HV.out (k + 1); omega
      have HI := Lib.hid (hs.on RI.keeps hbw)
      have HP := Lib.hid (ht1.on RP.keeps hbw)
      have HX := Lib.hid hx
      clear g0 g1 g2 g3 g4 g5 hs ht1 hx h
      go_wp2_with fail
      refine (toNode (x := x) _ HI.out HP.out hn1).mono ?_
      rintro e w2 ⟨v1, v2, rfl, hown, hb2⟩
      have hpl : ps.length = k := by have h1 := congrArg List.length hmp.out; have h2 := HL.out; rw [List.length_map, List.length_take] at h1; omega
      have R2 := hrow.below hb2 hrow.lt
      have hat : (ps ++ List.replicate (n - k) zeroN)[k]? = some zeroN := by
        rw [List.getElem?_append_right (by omega), List.getElem?_replicate, if_pos (by omega)]
      obtain ⟨i0', i1', i2', i3', i4', i5'⟩ := ndc_at _ k _ hat
      have c0 := (R2.cell (k * 6)).trans i0'
      have c1' := (R2.cell (k * 6 + 1)).trans i1'
      have c2' := (R2.cell (k * 6 + 2)).trans i2'
      have c3' := (R2.cell (k * 6 + 3)).trans i3'
      have c4' := (R2.cell (k * 6 + 4)).trans i4'
      have c5' := (R2.cell (k * 6 + 5)).trans i5'
      have f0 := R2.free (k * 6)
      have f1 := R2.free (k * 6 + 1)
      have f2 := R2.free (k * 6 + 2)
      have f3 := R2.free (k * 6 + 3)
      have f4 := R2.free (k * 6 + 4)
      have f5 := R2.free (k * 6 + 5)
      have hlw := R2.lt
      have ROWS := Lib.hid (((((((hrows.snoc (p := (x, v1, v2)) hb2 hown (Nat.le_refl _) (by have := hrow.lt; omega)).far (a := ⟨w.heap.size, k * 6, none⟩) (by simp) (.int .i64 x.op)).far (a := ⟨w.heap.size, k * 6 + 1, none⟩) (by simp) (.int .i64 x.wish.kind)).far (a := ⟨w.heap.size, k * 6 + 2, none⟩) (by simp) (.int .i64 x.wish.field)).far (a := ⟨w.heap.size, k * 6 + 3, none⟩) (by simp) (.int .i64 x.wish.value)).far (a := ⟨w.heap.size, k * 6 + 4, none⟩) (by simp) v1).far (a := ⟨w.heap.size, k * 6 + 5, none⟩) (by simp) v2)
      have ROW : Hid (Row ((((((w2.setCell ⟨w.heap.size, k * 6, none⟩ (.int .i64 x.op)).setCell ⟨w.heap.size, k * 6 + 1, none⟩ (.int .i64 x.wish.kind)).setCell ⟨w.heap.size, k * 6 + 2, none⟩ (.int .i64 x.wish.field)).setCell ⟨w.heap.size, k * 6 + 3, none⟩ (.int .i64 x.wish.value)).setCell ⟨w.heap.size, k * 6 + 4, none⟩ v1).setCell ⟨w.heap.size, k * 6 + 5, none⟩ v2) w.heap.size 55 (ndc ((ps ++ [(x, v1, v2)]) ++ List.replicate (n - (k + 1)) zeroN))) := by
        have := (((((R2.set (k * 6) (.int .i64 x.op)).set (k * 6 + 1) (.int .i64 x.wish.kind)).set (k * 6 + 2) (.int .i64 x.wish.field)).set (k * 6 + 3) (.int .i64 x.wish.value)).set (k * 6 + 4) v1).set (k * 6 + 5) v2
        rw [ndc_set _ k (x, v1, v2)] at this
        rw [show n - k = (n - (k + 1)) + 1 by omega, ← hpl, set_at] at this
        rw [hpl] at this
        exact this
      have BEL := Lib.hid (((((((hbw.trans (hb2.mono hbw.size)).setCell (p := ⟨w.heap.size, k * 6, none⟩) (Nat.le_refl _) (.int .i64 x.op)).setCell (p := ⟨w.heap.size, k * 6 + 1, none⟩) (Nat.le_refl _) (.int .i64 x.wish.kind)).setCell (p := ⟨w.heap.size, k * 6 + 2, none⟩) (Nat.le_refl _) (.int .i64 x.wish.field)).setCell (p := ⟨w.heap.size, k * 6 + 3, none⟩) (Nat.le_refl _) (.int .i64 x.wish.value)).setCell (p := ⟨w.heap.size, k * 6 + 4, none⟩) (Nat.le_refl _) v1).setCell (p := ⟨w.heap.size, k * 6 + 5, none⟩) (Nat.le_refl _) v2)
      have HMP : Hid ((ps ++ [(x, v1, v2)]).map (·.1) = l.take (k + 1)) := by
        show _ = _
        obtain ⟨hl, e⟩ := List.getElem?_eq_some_iff.1 HX.out
        rw [List.map_append, hmp.out, List.take_succ_eq_append_getElem hl, e]
        rfl
      obtain ⟨A', c', rfl, _, _⟩ := own_form hown.1
      obtain ⟨A'', c'', rfl, _, _⟩ := own_form hown.2.1
      clear hrow hrows hbw hb2 hown R2 hat i0' i1' i2' i3' i4' i5' e0 e1 e2 e3 e4 e5 hpl
      go_wp2
      go_roundw
      case rel => exact ⟨k + 1, _, by omega, by go_num, HMP, ROWS.out, ROW.out, BEL.out⟩
      case measure => simp [intOf]; omega
    · have hkn : k = n := by omega
      have e : l.take k = l := List.take_of_length_le (by have := HL.out; omega)
      have hmp' := hmp.out
      rw [e] at hmp'
      rw [hkn, Nat.sub_self, List.replicate_zero, List.append_nil] at hrow
      have hps : ps.length = n := by have h1 := congrArg List.length hmp'; have := HL.out; rw [List.length_map] at h1; omega
      have HR : Hid (OwnN wr w.heap.size 55 3 92 (.slice (some ⟨w.heap.size, 0, none⟩) n n) l) := by
        refine ⟨ps, hmp', hrows.mono (by omega), ?_, fun u hu => ?_⟩
        · rw [HL.out]
          exact hrow.own (Nat.le_refl _) (by rw [ndc_len, hps]) (by unfold maxLen; omega)
        · cases hv : u.ownBlock with
          | none => exact .inl hv
          | some g =>
            refine .inr fun hh => ?_
            rw [hv] at hh
            have := (hrows.lt hu hv).1
            simp [Value.ownBlock] at hh
            omega
      clear hrow hrows h
      go_wp2
      go_ret
      exact ⟨_, rfl, HR.out, hbw⟩
theorem to_nodes {A : Option Addr} {n c : Nat} {l : List Nd} (w : World) (h : Sl RN 6 w w.heap.size A n c l) (ht : totN l ≤ 1048576) : Calls Try.prog 9 #[.slice A n c] w (RetSl RN 6 w l) :=
  (toNodeS w h ht).mono fun e w' ⟨v, he, ho, hb⟩ => by
    obtain ⟨A', n', c', rfl, hs⟩ := ho.read (fitNs h)
    exact ⟨A', n', c', he, hs, hb⟩
set_option maxHeartbeats 800000 in
theorem eq_node {A E A' E' : Option Addr} {n c m d n' c' m' d' : Nat} {x : Nd} (w : World) (h : Sl RI 1 w w.heap.size A n c x.wish.list) (g : Sl RP 2 w w.heap.size E m d x.wish.pairs) (h' : Sl RI 1 w w.heap.size A' n' c' x.wish.list) (g' : Sl RP 2 w w.heap.size E' m' d' x.wish.pairs) :
    Calls Try.prog 31 #[.agg #[.int .i64 x.op, .int .i64 x.wish.kind, .int .i64 x.wish.field, .int .i64 x.wish.value, .slice A n c, .slice E m d], .agg #[.int .i64 x.op, .int .i64 x.wish.kind, .int .i64 x.wish.field, .int .i64 x.wish.value, .slice A' n' c', .slice E' m' d']] w fun e w' => e = .returned (.bool true) ∧ Below w.heap.size w w' := by
  have B2 := ((Below.refl w.heap.size w).alloc (Nat.le_refl _) (.cells #[.int .i64 x.op, .int .i64 x.wish.kind, .int .i64 x.wish.field, .int .i64 x.wish.value, .slice A n c, .slice E m d] 55)).alloc (by simp) (.cells #[.int .i64 x.op, .int .i64 x.wish.kind, .int .i64 x.wish.field, .int .i64 x.wish.value, .slice A' n' c', .slice E' m' d'] 55)
  have H := Lib.hid (h.on RI.keeps B2)
  have H' := Lib.hid (h'.on RI.keeps B2)
  have G := Lib.hid (g.on RP.keeps B2)
  have G' := Lib.hid (g'.on RP.keeps B2)
  have q1 : (x.op != x.op) = false := by simp
  clear h h' g g'
  go_enter Try.func31, Try.ntmps31
  go_wp2_with (go_at_call 68; refine (eq_wish (x := x.wish) _ H.out G.out H'.out G'.out).mono ?_; rintro e w2 ⟨rfl, b2⟩)
  go_ret
  exact ⟨rfl, B2.trans (b2.mono B2.size)⟩
set_option maxHeartbeats 1600000 in
set_option maxRecDepth 100000 in
theorem eq_nodes {A A' : Option Addr} {n n' c c' : Nat} {l : List Nd} (w : World) (h : Sl RN 6 w w.heap.size A n c l) (h' : Sl RN 6 w w.heap.size A' n' c' l) :
    Calls Try.prog 11 #[.slice A n c, .slice A' n' c'] w fun e w' => e = .returned (.bool true) ∧ Below w.heap.size w w' := by
  obtain rfl : n = n' := h.len.symm.trans h'.len
  have mx1 := Nat.le_trans h.le h.max
  unfold maxLen at mx1
  have ht : ((n : Int) != (n : Int)) = false := by simp
  go_enter Try.func11, Try.ntmps11
  go_wp2
  go_loopw [5] (fun vi wr => ∃ k : Nat, k ≤ n ∧ vi = .int .i64 k ∧ Below w.heap.size w wr) (fun vi _ => n - (intOf vi).toNat)
  case atStart => exact ⟨0, Nat.zero_le _, rfl, Below.refl _ _⟩
  case round =>
    obtain ⟨k, hk, rfl, hbw⟩ := hrel
    by_cases hlt : k < n
    · obtain ⟨b, o, x, A1, n1, c1, E1, m1, d1, rfl, hb, hx, hf, hs, ht1, g0, g1, g2, g3, g4, g5⟩ := nodeAt h hlt
      obtain ⟨b', o', y, A2, n2, c2, E2, m2, d2, rfl, hb', hy, hf', hs', ht1', g0', g1', g2', g3', g4', g5'⟩ := nodeAt h' hlt
      obtain rfl : x = y := by rw [hx] at hy; injection hy
      have hsz := hbw.size
      have i1 : b < wr.heap.size := by omega
      have i2 : b' < wr.heap.size := by omega
      have e0 := ((cell_of hbw) b (o + k * 6) hb).trans g0
      have e1 := ((cell_of hbw) b (o + k * 6 + 1) hb).trans g1
      have e2 := ((cell_of hbw) b (o + k * 6 + 2) hb).trans g2
      have e3 := ((cell_of hbw) b (o + k * 6 + 3) hb).trans g3
      have e4 := ((cell_of hbw) b (o + k * 6 + 4) hb).trans g4
      have e5 := ((cell_of hbw) b (o + k * 6 + 5) hb).trans g5
      have e0' := ((cell_of hbw) b' (o' + k * 6) hb').trans g0'
      have e1' := ((cell_of hbw) b' (o' + k * 6 + 1) hb').trans g1'
      have e2' := ((cell_of hbw) b' (o' + k * 6 + 2) hb').trans g2'
      have e3' := ((cell_of hbw) b' (o' + k * 6 + 3) hb').trans g3'
      have e4' := ((cell_of hbw) b' (o' + k * 6 + 4) hb').trans g4'
      have e5' := ((cell_of hbw) b' (o' + k * 6 + 5) hb').trans g5'
      have HS := Lib.hid (hs.on RI.keeps hbw)
      have HS' := Lib.hid (hs'.on RI.keeps hbw)
      have HT := Lib.hid (ht1.on RP.keeps hbw)
      have HT' := Lib.hid (ht1'.on RP.keeps hbw)
      have HB := Lib.hid hbw
      have q1 : (k : Int) < (n : Int) := by omega
      clear hx hy h h' hbw hs hs' ht1 ht1' g0 g1 g2 g3 g4 g5 g0' g1' g2' g3' g4' g5'
      go_wp2_with fail
      refine wp_region_qb (by kernel_rfl) (by kernel_rfl) ?_; (repeat (go_big_quiet_step ((go_at_call 31; exact quietB (eq_node _ (HS.out.gr RI.keeps _ _) (HT.out.gr RP.keeps _ _) (HS'.out.gr RI.keeps _ _) (HT'.out.gr RP.keeps _ _)))))); refine wpQuiet_nil ?_; intro w8 hb8
      go_wp2
      go_roundw
      case rel => exact ⟨k + 1, by omega, by go_num, HB.out.trans (hb8.mono hsz)⟩
      case measure => simp [intOf]; omega
    · clear h h'
      go_wp2
      go_ret
      exact ⟨rfl, hbw⟩
end Go.Proofs.Ytgjghpaenliliaa.Wk

namespace Go.Proofs.Ytgjghpaenliliaa.P
open Go.Proofs.Ytgjghpaenliliaa.M

deriving instance DecidableEq for Wi
deriving instance DecidableEq for Nd
theorem noW_eq (w : Wi) : noW w = decide (w = ⟨0, 0, 0, [], []⟩) := by
  obtain ⟨a, b, c, d, e⟩ := w
  unfold noW
  simp
theorem depth_app (l m : List Nd) : ∀ d, depth (l ++ m) d = (depth l d).bind fun d' => depth m d' := by
  induction l with
  | nil => intro d; rfl
  | cons n t ih =>
    intro d
    simp only [List.cons_append, depth]
    split
    · exact ih _
    · rfl
/-- The stack behind the first k nodes is d deep. -/
def Dep (l : List Nd) (k d : Nat) : Prop := depth (l.take k) 0 = some d
theorem dep_zero (l : List Nd) : Dep l 0 0 := rfl
theorem split_at {α : Type} {l : List α} {k : Nat} {x : α} (hx : l[k]? = some x) : l = l.take k ++ x :: l.drop (k + 1) := by
  obtain ⟨hl, e⟩ := List.getElem?_eq_some_iff.1 hx
  have h1 := (List.take_append_drop k l).symm
  rw [List.drop_eq_getElem_cons hl, e] at h1
  exact h1
theorem dep_step {l : List Nd} {k d : Nat} {x : Nd} (h : Dep l k d) (hx : l[k]? = some x) (h1 : okN x = true) (h2 : opnds x.op ≤ d) : Dep l (k + 1) (d + 1 - opnds x.op) := by
  obtain ⟨hl, e⟩ := List.getElem?_eq_some_iff.1 hx
  unfold Dep at *
  rw [List.take_succ_eq_append_getElem hl, e, depth_app, h]
  simp [depth, h1, h2]
theorem dep_bad {l : List Nd} {k d : Nat} {x : Nd} (h : Dep l k d) (hx : l[k]? = some x) (h1 : okN x = false ∨ d < opnds x.op) : okE l = false := by
  unfold Dep at h
  have e : depth l 0 = none := by
    rw [split_at hx, depth_app, h]
    simp only [Option.bind_some, depth]
    rcases h1 with h1 | h1
    · rw [h1]; rfl
    · rw [if_neg]
      simp; intro _; omega
  unfold okE
  rw [e]; rfl
theorem dep_end {l : List Nd} {k d n : Nat} (h : Dep l k d) (hn : l.length = n) (hk : k = n) : okE l = (decide ((d : Int) = 1) && decide ((n : Int) ≤ 9)) := by
  unfold Dep at h
  rw [List.take_of_length_le (by omega)] at h
  unfold okE
  rw [h, hn]
  congr 1
  · apply decide_eq_decide.2
    simp; omega
  · apply decide_eq_decide.2; omega
theorem dep_le {l : List Nd} : ∀ {k d : Nat}, Dep l k d → d ≤ k := by
  have key : ∀ (m : List Nd) (a b : Nat), depth m a = some b → b ≤ a + m.length := by
    intro m
    induction m with
    | nil => intro a b h; simp [depth] at h; simp; omega
    | cons n t ih =>
      intro a b h
      simp only [depth] at h
      split at h
      · have := ih _ _ h; simp; omega
      · cases h
  intro k d h
  have h2 := key _ _ _ h
  have := List.length_take_le k l
  omega
theorem opnds_0 : opnds 0 = 0 := rfl
theorem opnds_1 : opnds 1 = 2 := rfl
theorem opnds_2 : opnds 2 = 2 := rfl
theorem opnds_3 : opnds 3 = 1 := rfl
theorem opnds_4 : opnds 4 = 2 := rfl
theorem okN_op {x : Nd} (h : inR x.op 0 4 = false) : okN x = false := by unfold okN; rw [h]; rfl
theorem okN_0 {x : Nd} (h : x.op = 0) : okN x = okW x.wish := by unfold okN; rw [h, if_pos rfl]; rfl
theorem okN_1 {x : Nd} (h : inR x.op 0 4 = true) (h' : x.op ≠ 0) : okN x = noW x.wish := by unfold okN; rw [h, if_neg h']; rfl
theorem okE_len {l : List Nd} (h : okE l = true) : l.length ≤ 9 ∧ depth l 0 = some 1 := by
  unfold okE at h
  simp only [Bool.and_eq_true, decide_eq_true_eq] at h
  exact ⟨h.2, h.1⟩
/-- Of a valid expression, each node is valid, and finds its operands. -/
theorem okE_at {l : List Nd} (h : okE l = true) {k : Nat} {x : Nd} (hx : l[k]? = some x) : okN x = true ∧ ∃ d, Dep l k d ∧ opnds x.op ≤ d := by
  obtain ⟨_, hd⟩ := okE_len h
  rw [split_at hx, depth_app] at hd
  cases hp : depth (l.take k) 0 with
  | none => rw [hp] at hd; cases hd
  | some d =>
    rw [hp] at hd
    simp only [Option.bind_some, depth] at hd
    split at hd
    · rename_i hc
      simp only [Bool.and_eq_true, decide_eq_true_eq] at hc
      exact ⟨hc.1, d, hp, hc.2⟩
    · cases hd
end Go.Proofs.Ytgjghpaenliliaa.P

namespace Go.Proofs.Ytgjghpaenliliaa.Wk
open Go.RowKit Go.Proofs.Ytgjghpaenliliaa.M
set_option linter.unusedVariables false
attribute [local go_sem] cell_grow

theorem wi_eq (x y : Wi) : decide (x = y) = (decide (x.kind = y.kind) && decide (x.field = y.field) && decide (x.value = y.value) && decide (x.list = y.list) && decide (x.pairs = y.pairs)) := by
  obtain ⟨a, b, c, d, e⟩ := x
  obtain ⟨a', b', c', d', e'⟩ := y
  simp [Wi.mk.injEq, Bool.decide_and, Bool.and_assoc]
theorem nd_eq (x y : Nd) : decide (x = y) = (decide (x.op = y.op) && decide (x.wish = y.wish)) := by
  obtain ⟨a, b⟩ := x
  obtain ⟨c, d⟩ := y
  simp [Nd.mk.injEq, Bool.decide_and]
set_option maxHeartbeats 1600000 in
set_option maxRecDepth 100000 in
theorem l5SamePairs {A A' : Option Addr} {n n' c c' : Nat} {xs ys : List (Int × Int)} (w : World) (h : Sl RP 2 w w.heap.size A n c xs) (h' : Sl RP 2 w w.heap.size A' n' c' ys) :
    Calls Try.prog 112 #[.slice A n c, .slice A' n' c'] w fun e w' => e = .returned (.bool (decide (xs = ys))) ∧ Below w.heap.size w w' := by
  have m1 := Nat.le_trans h.le h.max
  have m2 := Nat.le_trans h'.le h'.max
  unfold maxLen at m1 m2
  have HL := Lib.hid h.len
  have HL' := Lib.hid h'.len
  by_cases hne : n = n'
  · have HN := Lib.hid hne
    have ht : ((n : Int) != (n' : Int)) = false := by simp [hne]
    clear hne
    go_enter Try.func112, Try.ntmps112
    go_wp2
    go_loopw [5] (fun vk wr => ∃ k : Nat, k ≤ n ∧ vk = .int .i64 k ∧ Hid (P.Agree xs ys k) ∧ Below w.heap.size w wr) (fun vk _ => n - (intOf vk).toNat)
    case atStart => exact ⟨0, Nat.zero_le _, rfl, rfl, Below.refl _ _⟩
    case round =>
      obtain ⟨k, hk, rfl, hup, hbw⟩ := hrel
      by_cases hlt : k < n
      · have hlt' : k < n' := by have := HN.out; omega
        obtain ⟨b, o, x, rfl, hb, hx, hf1, hf2, hc0, hc1⟩ := pairAt h hlt
        obtain ⟨b', o', y, rfl, hb', hy, hf1', hf2', hd0, hd1⟩ := pairAt h' hlt'
        have hsz := hbw.size
        have g1 : b < wr.heap.size := by omega
        have g2 : b' < wr.heap.size := by omega
        have e1 := ((cell_of hbw) b (o + k * 2) hb).trans hc0
        have e2 := ((cell_of hbw) b (o + k * 2 + 1) hb).trans hc1
        have e3 := ((cell_of hbw) b' (o' + k * 2) hb').trans hd0
        have e4 := ((cell_of hbw) b' (o' + k * 2 + 1) hb').trans hd1
        have q1 : (k : Int) < (n : Int) := by omega
        have q2 : (k : Int) < (n' : Int) := by omega
        have HX := Lib.hid hx
        have HY := Lib.hid hy
        clear hx hy h h' hc0 hc1 hd0 hd1
        by_cases hxy : x = y
        · have q : (x.1 != y.1) = false := by simp [hxy]
          have q' : (x.2 != y.2) = false := by simp [hxy]
          have q3 : (x.1 == y.1) = true := by simp [hxy]
          have q4 : (x.2 == y.2) = true := by simp [hxy]
          have HE := Lib.hid (P.agree_step hup.out HX.out (hxy ▸ HY.out))
          clear hxy
          go_wp2_with fail
          refine wp_region_qb (by kernel_rfl) (by kernel_rfl) ?_; (repeat (go_big_quiet_step ((fail)))); refine wpQuiet_nil ?_; intro w8 hb8
          go_wp2
          go_roundw
          case rel => exact ⟨k + 1, by omega, by go_num, HE, hbw.trans (hb8.mono hsz)⟩
          case measure => simp [intOf]; omega
        · have HE : Hid (decide (xs = ys) = false) := by
            show _ = _
            rw [decide_eq_false_iff_not]; exact P.agree_no HX.out HY.out hxy
          by_cases h1 : x.1 = y.1
          · have h2 : x.2 ≠ y.2 := fun h2 => hxy (Prod.ext h1 h2)
            have q : (x.1 != y.1) = false := by simpa using h1
            have q' : (x.2 != y.2) = true := by simpa using h2
            have q3 : (x.1 == y.1) = true := by simpa using h1
            have q4 : (x.2 == y.2) = false := by simpa using h2
            clear hxy h1 h2
            go_wp2_with fail
            refine wp_region_qb (by kernel_rfl) (by kernel_rfl) ?_; (repeat (go_big_quiet_step ((fail)))); refine wpQuiet_nil ?_; intro w8 hb8
            go_wp2
            go_ret
            exact ⟨ret_bool HE.out.symm, hbw.trans (hb8.mono hsz)⟩
          · have q : (x.1 != y.1) = true := by simpa using h1
            have q3 : (x.1 == y.1) = false := by simpa using h1
            clear hxy h1
            go_wp2_with fail
            refine wp_region_qb (by kernel_rfl) (by kernel_rfl) ?_; (repeat (go_big_quiet_step ((fail)))); refine wpQuiet_nil ?_; intro w8 hb8
            go_wp2
            go_ret
            exact ⟨ret_bool HE.out.symm, hbw.trans (hb8.mono hsz)⟩
      · have HE : Hid (decide (xs = ys) = true) := by
          show _ = _
          rw [decide_eq_true_iff]
          exact P.agree_all hup.out HL.out (by rw [HL'.out]; exact HN.out.symm) (by omega)
        clear h h'
        go_wp2
        go_ret
        exact ⟨ret_bool HE.out.symm, hbw⟩
  · have ht : ((n : Int) != (n' : Int)) = true := by simp; omega
    have HE : Hid (decide (xs = ys) = false) := by
      show _ = _
      rw [decide_eq_false_iff_not]
      rintro rfl
      exact hne (HL.out.symm.trans HL'.out)
    clear hne h h'
    go_enter Try.func112, Try.ntmps112
    go_wp2
    go_ret
    exact ⟨ret_bool HE.out.symm, Below.refl _ _⟩
set_option maxHeartbeats 1600000 in
set_option maxRecDepth 100000 in
theorem equalPairs {A A' : Option Addr} {n n' c c' : Nat} {xs ys : List (Int × Int)} (w : World) (h : Sl RP 2 w w.heap.size A n c xs) (h' : Sl RP 2 w w.heap.size A' n' c' ys) :
    Calls Try.prog 91 #[.slice A n c, .slice A' n' c'] w fun e w' => e = .returned (.bool (decide (xs = ys))) ∧ Below w.heap.size w w' := by
  have m1 := Nat.le_trans h.le h.max
  have m2 := Nat.le_trans h'.le h'.max
  unfold maxLen at m1 m2
  have HL := Lib.hid h.len
  have HL' := Lib.hid h'.len
  by_cases hne : n = n'
  · have HN := Lib.hid hne
    have ht : ((n : Int) != (n' : Int)) = false := by simp [hne]
    clear hne
    go_enter Try.func91, Try.ntmps91
    go_wp2
    go_loopw [5, 13] (fun vi vk wr => ∃ k : Nat, k ≤ n ∧ vk = .int .i64 k ∧ Hid (P.Agree xs ys k) ∧ Below w.heap.size w wr) (fun vi vk _ => n - (intOf vk).toNat)
    case atStart => exact ⟨0, Nat.zero_le _, rfl, rfl, Below.refl _ _⟩
    case round =>
      obtain ⟨k, hk, rfl, hup, hbw⟩ := hrel
      by_cases hlt : k < n
      · have hlt' : k < n' := by have := HN.out; omega
        obtain ⟨b, o, x, rfl, hb, hx, hf1, hf2, hc0, hc1⟩ := pairAt h hlt
        obtain ⟨b', o', y, rfl, hb', hy, hf1', hf2', hd0, hd1⟩ := pairAt h' hlt'
        have hsz := hbw.size
        have g1 : b < wr.heap.size := by omega
        have g2 : b' < wr.heap.size := by omega
        have e1 := ((cell_of hbw) b (o + k * 2) hb).trans hc0
        have e2 := ((cell_of hbw) b (o + k * 2 + 1) hb).trans hc1
        have e3 := ((cell_of hbw) b' (o' + k * 2) hb').trans hd0
        have e4 := ((cell_of hbw) b' (o' + k * 2 + 1) hb').trans hd1
        have q1 : (k : Int) < (n : Int) := by omega
        have q2 : (k : Int) < (n' : Int) := by omega
        have HX := Lib.hid hx
        have HY := Lib.hid hy
        clear hx hy h h' hc0 hc1 hd0 hd1
        by_cases hxy : x = y
        · have q : (x.1 != y.1) = false := by simp [hxy]
          have q' : (x.2 != y.2) = false := by simp [hxy]
          have q3 : (x.1 == y.1) = true := by simp [hxy]
          have q4 : (x.2 == y.2) = true := by simp [hxy]
          have HE := Lib.hid (P.agree_step hup.out HX.out (hxy ▸ HY.out))
          clear hxy
          go_wp2_with fail
          refine wp_region_qb (by kernel_rfl) (by kernel_rfl) ?_; (repeat (go_big_quiet_step ((fail)))); refine wpQuiet_nil ?_; intro w8 hb8
          go_wp2
          go_roundw
          case rel => exact ⟨k + 1, by omega, by go_num, HE, hbw.trans (hb8.mono hsz)⟩
          case measure => simp [intOf]; omega
        · have HE : Hid (decide (xs = ys) = false) := by
            show _ = _
            rw [decide_eq_false_iff_not]; exact P.agree_no HX.out HY.out hxy
          by_cases h1 : x.1 = y.1
          · have h2 : x.2 ≠ y.2 := fun h2 => hxy (Prod.ext h1 h2)
            have q : (x.1 != y.1) = false := by simpa using h1
            have q' : (x.2 != y.2) = true := by simpa using h2
            have q3 : (x.1 == y.1) = true := by simpa using h1
            have q4 : (x.2 == y.2) = false := by simpa using h2
            clear hxy h1 h2
            go_wp2_with fail
            refine wp_region_qb (by kernel_rfl) (by kernel_rfl) ?_; (repeat (go_big_quiet_step ((fail)))); refine wpQuiet_nil ?_; intro w8 hb8
            go_wp2
            go_ret
            exact ⟨ret_bool HE.out.symm, hbw.trans (hb8.mono hsz)⟩
          · have q : (x.1 != y.1) = true := by simpa using h1
            have q3 : (x.1 == y.1) = false := by simpa using h1
            clear hxy h1
            go_wp2_with fail
            refine wp_region_qb (by kernel_rfl) (by kernel_rfl) ?_; (repeat (go_big_quiet_step ((fail)))); refine wpQuiet_nil ?_; intro w8 hb8
            go_wp2
            go_ret
            exact ⟨ret_bool HE.out.symm, hbw.trans (hb8.mono hsz)⟩
      · have HE : Hid (decide (xs = ys) = true) := by
          show _ = _
          rw [decide_eq_true_iff]
          exact P.agree_all hup.out HL.out (by rw [HL'.out]; exact HN.out.symm) (by omega)
        clear h h'
        go_wp2
        go_ret
        exact ⟨ret_bool HE.out.symm, hbw⟩
  · have ht : ((n : Int) != (n' : Int)) = true := by simp; omega
    have HE : Hid (decide (xs = ys) = false) := by
      show _ = _
      rw [decide_eq_false_iff_not]
      rintro rfl
      exact hne (HL.out.symm.trans HL'.out)
    clear hne h h'
    go_enter Try.func91, Try.ntmps91
    go_wp2
    go_ret
    exact ⟨ret_bool HE.out.symm, Below.refl _ _⟩
set_option maxHeartbeats 1600000 in
set_option maxRecDepth 100000 in
theorem l5SameWish {A E A' E' : Option Addr} {n c m d n' c' m' d' : Nat} {x y : Wi} (w : World) (h : Sl RI 1 w w.heap.size A n c x.list) (g : Sl RP 2 w w.heap.size E m d x.pairs) (h' : Sl RI 1 w w.heap.size A' n' c' y.list) (g' : Sl RP 2 w w.heap.size E' m' d' y.pairs) :
    Calls Try.prog 98 #[.agg #[.int .i64 x.kind, .int .i64 x.field, .int .i64 x.value, .slice A n c, .slice E m d], .agg #[.int .i64 y.kind, .int .i64 y.field, .int .i64 y.value, .slice A' n' c', .slice E' m' d']] w fun e w' => e = .returned (.bool (decide (x = y))) ∧ Below w.heap.size w w' := by
  have B2 := ((Below.refl w.heap.size w).alloc (Nat.le_refl _) (.cells #[.int .i64 x.kind, .int .i64 x.field, .int .i64 x.value, .slice A n c, .slice E m d] 53)).alloc (by simp) (.cells #[.int .i64 y.kind, .int .i64 y.field, .int .i64 y.value, .slice A' n' c', .slice E' m' d'] 53)
  have H := Lib.hid (h.on RI.keeps B2)
  have H' := Lib.hid (h'.on RI.keeps B2)
  have G := Lib.hid (g.on RP.keeps B2)
  have G' := Lib.hid (g'.on RP.keeps B2)
  clear h h' g g'
  by_cases h0 : x.kind = y.kind
  · have q0 : (x.kind == y.kind) = true := by simpa using h0
    by_cases h1 : x.field = y.field
    · have q1 : (x.field == y.field) = true := by simpa using h1
      by_cases h2 : x.value = y.value
      · have q2 : (x.value == y.value) = true := by simpa using h2
        cases hl : decide (x.list = y.list) with
        | false =>
          have HE : Hid (decide (x = y) = false) := by show _ = _; rw [wi_eq, hl]; simp
          clear h0 h1 h2
          go_enter Try.func98, Try.ntmps98
          go_wp2_with (go_at_call 111; refine (l2Ints _ H.out H'.out).mono ?_; rintro e w2 ⟨rfl, b2⟩; rw [hl])
          go_ret
          exact ⟨ret_bool HE.out.symm, B2.trans (b2.mono B2.size)⟩
        | true =>
          have HE : Hid (decide (x = y) = decide (x.pairs = y.pairs)) := by show _ = _; rw [wi_eq, hl]; simp [h0, h1, h2]
          clear h0 h1 h2
          go_enter Try.func98, Try.ntmps98
          go_wp2_with fail
          refine (l2Ints _ H.out H'.out).mono ?_
          rintro e w2 ⟨rfl, b2⟩
          rw [hl]
          have K := G.out.on RP.keeps b2
          have K' := G'.out.on RP.keeps b2
          have hC := cell_of b2
          have z1 : w.heap.size < w2.heap.size := by have := b2.size; simp at this; omega
          have z2 : w.heap.size + 1 < w2.heap.size := by have := b2.size; simp at this; omega
          go_wp2_with fail
          refine (l5SamePairs _ K K').mono ?_
          rintro e w3 ⟨rfl, b3⟩
          have B3 := (B2.trans (b2.mono B2.size)).trans (b3.mono (B2.trans (b2.mono B2.size)).size)
          clear K K' hC b2 b3 B2
          go_wp2_with fail
          go_ret
          exact ⟨ret_bool HE.out.symm, B3⟩
      · have q2 : (x.value == y.value) = false := by simpa using h2
        have HE : Hid (decide (x = y) = false) := by show _ = _; rw [wi_eq]; simp [h2]
        clear h0 h1 h2
        go_enter Try.func98, Try.ntmps98
        go_wp2_with fail
        go_ret
        exact ⟨ret_bool HE.out.symm, B2⟩
    · have q1 : (x.field == y.field) = false := by simpa using h1
      have HE : Hid (decide (x = y) = false) := by show _ = _; rw [wi_eq]; simp [h1]
      clear h0 h1
      go_enter Try.func98, Try.ntmps98
      go_wp2_with fail
      go_ret
      exact ⟨ret_bool HE.out.symm, B2⟩
  · have q0 : (x.kind == y.kind) = false := by simpa using h0
    have HE : Hid (decide (x = y) = false) := by show _ = _; rw [wi_eq]; simp [h0]
    clear h0
    go_enter Try.func98, Try.ntmps98
    go_wp2_with fail
    go_ret
    exact ⟨ret_bool HE.out.symm, B2⟩
set_option maxHeartbeats 1600000 in
set_option maxRecDepth 100000 in
theorem equalWish {A E A' E' : Option Addr} {n c m d n' c' m' d' : Nat} {x y : Wi} (w : World) (h : Sl RI 1 w w.heap.size A n c x.list) (g : Sl RP 2 w w.heap.size E m d x.pairs) (h' : Sl RI 1 w w.heap.size A' n' c' y.list) (g' : Sl RP 2 w w.heap.size E' m' d' y.pairs) :
    Calls Try.prog 64 #[.agg #[.int .i64 x.kind, .int .i64 x.field, .int .i64 x.value, .slice A n c, .slice E m d], .agg #[.int .i64 y.kind, .int .i64 y.field, .int .i64 y.value, .slice A' n' c', .slice E' m' d']] w fun e w' => e = .returned (.bool (decide (x = y))) ∧ Below w.heap.size w w' := by
  have B2 := ((Below.refl w.heap.size w).alloc (Nat.le_refl _) (.cells #[.int .i64 x.kind, .int .i64 x.field, .int .i64 x.value, .slice A n c, .slice E m d] 53)).alloc (by simp) (.cells #[.int .i64 y.kind, .int .i64 y.field, .int .i64 y.value, .slice A' n' c', .slice E' m' d'] 53)
  have H := Lib.hid (h.on RI.keeps B2)
  have H' := Lib.hid (h'.on RI.keeps B2)
  have G := Lib.hid (g.on RP.keeps B2)
  have G' := Lib.hid (g'.on RP.keeps B2)
  clear h h' g g'
  by_cases h0 : x.kind = y.kind
  · have q0 : (x.kind == y.kind) = true := by simpa using h0
    by_cases h1 : x.field = y.field
    · have q1 : (x.field == y.field) = true := by simpa using h1
      by_cases h2 : x.value = y.value
      · have q2 : (x.value == y.value) = true := by simpa using h2
        cases hl : decide (x.list = y.list) with
        | false =>
          have HE : Hid (decide (x = y) = false) := by show _ = _; rw [wi_eq, hl]; simp
          clear h0 h1 h2
          go_enter Try.func64, Try.ntmps64
          go_wp2_with (go_at_call 90; refine (equalInts _ H.out H'.out).mono ?_; rintro e w2 ⟨rfl, b2⟩; rw [hl])
          go_ret
          exact ⟨ret_bool HE.out.symm, B2.trans (b2.mono B2.size)⟩
        | true =>
          have HE : Hid (decide (x = y) = decide (x.pairs = y.pairs)) := by show _ = _; rw [wi_eq, hl]; simp [h0, h1, h2]
          clear h0 h1 h2
          go_enter Try.func64, Try.ntmps64
          go_wp2_with fail
          refine (equalInts _ H.out H'.out).mono ?_
          rintro e w2 ⟨rfl, b2⟩
          rw [hl]
          have K := G.out.on RP.keeps b2
          have K' := G'.out.on RP.keeps b2
          have hC := cell_of b2
          have z1 : w.heap.size < w2.heap.size := by have := b2.size; simp at this; omega
          have z2 : w.heap.size + 1 < w2.heap.size := by have := b2.size; simp at this; omega
          go_wp2_with fail
          refine (equalPairs _ K K').mono ?_
          rintro e w3 ⟨rfl, b3⟩
          have B3 := (B2.trans (b2.mono B2.size)).trans (b3.mono (B2.trans (b2.mono B2.size)).size)
          clear K K' hC b2 b3 B2
          go_wp2_with fail
          go_ret
          exact ⟨ret_bool HE.out.symm, B3⟩
      · have q2 : (x.value == y.value) = false := by simpa using h2
        have HE : Hid (decide (x = y) = false) := by show _ = _; rw [wi_eq]; simp [h2]
        clear h0 h1 h2
        go_enter Try.func64, Try.ntmps64
        go_wp2_with fail
        go_ret
        exact ⟨ret_bool HE.out.symm, B2⟩
    · have q1 : (x.field == y.field) = false := by simpa using h1
      have HE : Hid (decide (x = y) = false) := by show _ = _; rw [wi_eq]; simp [h1]
      clear h0 h1
      go_enter Try.func64, Try.ntmps64
      go_wp2_with fail
      go_ret
      exact ⟨ret_bool HE.out.symm, B2⟩
  · have q0 : (x.kind == y.kind) = false := by simpa using h0
    have HE : Hid (decide (x = y) = false) := by show _ = _; rw [wi_eq]; simp [h0]
    clear h0
    go_enter Try.func64, Try.ntmps64
    go_wp2_with fail
    go_ret
    exact ⟨ret_bool HE.out.symm, B2⟩
set_option maxHeartbeats 1600000 in
set_option maxRecDepth 100000 in
theorem equalNode {A E A' E' : Option Addr} {n c m d n' c' m' d' : Nat} {x y : Nd} (w : World) (h : Sl RI 1 w w.heap.size A n c x.wish.list) (g : Sl RP 2 w w.heap.size E m d x.wish.pairs) (h' : Sl RI 1 w w.heap.size A' n' c' y.wish.list) (g' : Sl RP 2 w w.heap.size E' m' d' y.wish.pairs) :
    Calls Try.prog 101 #[.agg #[.int .i64 x.op, .int .i64 x.wish.kind, .int .i64 x.wish.field, .int .i64 x.wish.value, .slice A n c, .slice E m d], .agg #[.int .i64 y.op, .int .i64 y.wish.kind, .int .i64 y.wish.field, .int .i64 y.wish.value, .slice A' n' c', .slice E' m' d']] w fun e w' => e = .returned (.bool (decide (x = y))) ∧ Below w.heap.size w w' := by
  have B2 := ((Below.refl w.heap.size w).alloc (Nat.le_refl _) (.cells #[.int .i64 x.op, .int .i64 x.wish.kind, .int .i64 x.wish.field, .int .i64 x.wish.value, .slice A n c, .slice E m d] 55)).alloc (by simp) (.cells #[.int .i64 y.op, .int .i64 y.wish.kind, .int .i64 y.wish.field, .int .i64 y.wish.value, .slice A' n' c', .slice E' m' d'] 55)
  have H := Lib.hid (h.on RI.keeps B2)
  have H' := Lib.hid (h'.on RI.keeps B2)
  have G := Lib.hid (g.on RP.keeps B2)
  have G' := Lib.hid (g'.on RP.keeps B2)
  clear h h' g g'
  by_cases h0 : x.op = y.op
  · have q0 : (x.op == y.op) = true := by simpa using h0
    have HE : Hid (decide (x = y) = decide (x.wish = y.wish)) := by show _ = _; rw [nd_eq]; simp [h0]
    clear h0
    go_enter Try.func101, Try.ntmps101
    go_wp2_with (go_at_call 64; refine (equalWish _ H.out G.out H'.out G'.out).mono ?_; rintro e w2 ⟨rfl, b2⟩)
    go_ret
    exact ⟨ret_bool HE.out.symm, B2.trans (b2.mono B2.size)⟩
  · have q0 : (x.op == y.op) = false := by simpa using h0
    have HE : Hid (decide (x = y) = false) := by show _ = _; rw [nd_eq]; simp [h0]
    clear h0
    go_enter Try.func101, Try.ntmps101
    go_wp2_with fail
    go_ret
    exact ⟨ret_bool HE.out.symm, B2⟩
set_option maxHeartbeats 1600000 in
set_option maxRecDepth 100000 in
theorem specEqualExpressions {A A' : Option Addr} {n n' c c' : Nat} {xs ys : List Nd} (w : World) (h : Sl RN 6 w w.heap.size A n c xs) (h' : Sl RN 6 w w.heap.size A' n' c' ys) :
    Calls Try.prog 78 #[.slice A n c, .slice A' n' c'] w fun e w' => e = .returned (.bool (decide (xs = ys))) ∧ Below w.heap.size w w' := by
  have mx1 := Nat.le_trans h.le h.max
  have mx2 := Nat.le_trans h'.le h'.max
  unfold maxLen at mx1 mx2
  have HL := Lib.hid h.len
  have HL' := Lib.hid h'.len
  by_cases hne : n = n'
  · have HN := Lib.hid hne
    have ht : ((n : Int) != (n' : Int)) = false := by simp [hne]
    clear hne
    go_enter Try.func78, Try.ntmps78
    go_wp2
    go_loopw [5] (fun vk wr => ∃ k : Nat, k ≤ n ∧ vk = .int .i64 k ∧ Hid (P.Agree xs ys k) ∧ Below w.heap.size w wr) (fun vk _ => n - (intOf vk).toNat)
    case atStart => exact ⟨0, Nat.zero_le _, rfl, rfl, Below.refl _ _⟩
    case round =>
      obtain ⟨k, hk, rfl, hup, hbw⟩ := hrel
      by_cases hlt : k < n
      · have hlt' : k < n' := by have := HN.out; omega
        obtain ⟨b, o, x, A1, n1, c1, E1, m1, d1, rfl, hb, hx, hf, hs, ht1, g0, g1, g2, g3, g4, g5⟩ := nodeAt h hlt
        obtain ⟨b', o', y, A2, n2, c2, E2, m2, d2, rfl, hb', hy, hf', hs', ht1', g0', g1', g2', g3', g4', g5'⟩ := nodeAt h' hlt'
        have hsz := hbw.size
        have i1 : b < wr.heap.size := by omega
        have i2 : b' < wr.heap.size := by omega
        have i3 : b < wr.heap.size + 1 := by omega
        have i4 : b' < wr.heap.size + 1 := by omega
        have e0 := ((cell_of hbw) b (o + k * 6) hb).trans g0
        have e1 := ((cell_of hbw) b (o + k * 6 + 1) hb).trans g1
        have e2 := ((cell_of hbw) b (o + k * 6 + 2) hb).trans g2
        have e3 := ((cell_of hbw) b (o + k * 6 + 3) hb).trans g3
        have e4 := ((cell_of hbw) b (o + k * 6 + 4) hb).trans g4
        have e5 := ((cell_of hbw) b (o + k * 6 + 5) hb).trans g5
        have e0' := ((cell_of hbw) b' (o' + k * 6) hb').trans g0'
        have e1' := ((cell_of hbw) b' (o' + k * 6 + 1) hb').trans g1'
        have e2' := ((cell_of hbw) b' (o' + k * 6 + 2) hb').trans g2'
        have e3' := ((cell_of hbw) b' (o' + k * 6 + 3) hb').trans g3'
        have e4' := ((cell_of hbw) b' (o' + k * 6 + 4) hb').trans g4'
        have e5' := ((cell_of hbw) b' (o' + k * 6 + 5) hb').trans g5'
        have q1 : (k : Int) < (n : Int) := by omega
        have q2 : (k : Int) < (n' : Int) := by omega
        have HX := Lib.hid hx
        have HY := Lib.hid hy
        have HS := Lib.hid (hs.on RI.keeps hbw)
        have HS' := Lib.hid (hs'.on RI.keeps hbw)
        have HT := Lib.hid (ht1.on RP.keeps hbw)
        have HT' := Lib.hid (ht1'.on RP.keeps hbw)
        have HBW := Lib.hid hbw
        have f0 : o + k * 6 + 1 + 1 = o + k * 6 + 2 := rfl
        clear hx hy h h' hbw hs hs' ht1 ht1' g0 g1 g2 g3 g4 g5 g0' g1' g2' g3' g4' g5' f0
        by_cases hop : x.op = y.op
        · have q : (x.op != y.op) = false := by simpa using hop
          cases hv : decide (x.wish = y.wish) with
          | true =>
            have hxy : x = y := by
              have := nd_eq x y
              rw [hv] at this
              simpa [hop] using this
            have HE := Lib.hid (P.agree_step hup.out HX.out (hxy ▸ HY.out))
            clear hxy hop
            go_wp2_with fail
            refine wp_region_qb (by kernel_rfl) (by kernel_rfl) ?_; (repeat (go_big_quiet_step ((go_at_call 98; exact quietBb hv (l5SameWish _ (HS.out.gr RI.keeps _ _) (HT.out.gr RP.keeps _ _) (HS'.out.gr RI.keeps _ _) (HT'.out.gr RP.keeps _ _)))))); refine wpQuiet_nil ?_; intro w8 hb8
            go_wp2
            go_roundw
            case rel => exact ⟨k + 1, by omega, by go_num, HE, HBW.out.trans (hb8.mono hsz)⟩
            case measure => simp [intOf]; omega
          | false =>
            have HE : Hid (decide (xs = ys) = false) := by
              show _ = _
              rw [decide_eq_false_iff_not]
              exact P.agree_no HX.out HY.out (by rintro rfl; simp at hv)
            clear hop
            go_wp2_with fail
            refine wp_region_qb (by kernel_rfl) (by kernel_rfl) ?_; (repeat (go_big_quiet_step ((go_at_call 98; exact quietBb hv (l5SameWish _ (HS.out.gr RI.keeps _ _) (HT.out.gr RP.keeps _ _) (HS'.out.gr RI.keeps _ _) (HT'.out.gr RP.keeps _ _)))))); refine wpQuiet_nil ?_; intro w8 hb8
            go_wp2
            go_ret
            exact ⟨ret_bool HE.out.symm, HBW.out.trans (hb8.mono hsz)⟩
        · have q : (x.op != y.op) = true := by simpa using hop
          have HE : Hid (decide (xs = ys) = false) := by
            show _ = _
            rw [decide_eq_false_iff_not]
            exact P.agree_no HX.out HY.out (by rintro rfl; exact hop rfl)
          clear hop
          go_wp2_with fail
          refine wp_region_qb (by kernel_rfl) (by kernel_rfl) ?_; (repeat (go_big_quiet_step ((fail)))); refine wpQuiet_nil ?_; intro w8 hb8
          go_wp2
          go_ret
          exact ⟨ret_bool HE.out.symm, HBW.out.trans (hb8.mono hsz)⟩
      · have HE : Hid (decide (xs = ys) = true) := by
          show _ = _
          rw [decide_eq_true_iff]
          exact P.agree_all hup.out HL.out (by rw [HL'.out]; exact HN.out.symm) (by omega)
        clear h h'
        go_wp2
        go_ret
        exact ⟨ret_bool HE.out.symm, hbw⟩
  · have ht : ((n : Int) != (n' : Int)) = true := by simp; omega
    have HE : Hid (decide (xs = ys) = false) := by
      show _ = _
      rw [decide_eq_false_iff_not]
      rintro rfl
      exact hne (HL.out.symm.trans HL'.out)
    clear hne h h'
    go_enter Try.func78, Try.ntmps78
    go_wp2
    go_ret
    exact ⟨ret_bool HE.out.symm, Below.refl _ _⟩
set_option maxHeartbeats 1600000 in
set_option maxRecDepth 100000 in
theorem equalFuncN {A A' : Option Addr} {n n' c c' : Nat} {xs ys : List Nd} (w : World) (h : Sl RN 6 w w.heap.size A n c xs) (h' : Sl RN 6 w w.heap.size A' n' c' ys) :
    Calls Try.prog 100 #[.slice A n c, .slice A' n' c', .func (Fn.func 101) #[] #[]] w fun e w' => e = .returned (.bool (decide (xs = ys))) ∧ Below w.heap.size w w' := by
  have mx1 := Nat.le_trans h.le h.max
  have mx2 := Nat.le_trans h'.le h'.max
  unfold maxLen at mx1 mx2
  have HL := Lib.hid h.len
  have HL' := Lib.hid h'.len
  by_cases hne : n = n'
  · have HN := Lib.hid hne
    have ht : ((n : Int) != (n' : Int)) = false := by simp [hne]
    clear hne
    go_enter Try.func100, Try.ntmps100
    go_wp2
    go_loopw [7, 8, 9, 17] (fun va vb vc vk wr => ∃ k : Nat, k ≤ n ∧ vk = .int .i64 k ∧ Hid (P.Agree xs ys k) ∧ Below w.heap.size w wr) (fun va vb vc vk _ => n - (intOf vk).toNat)
    case atStart => exact ⟨0, Nat.zero_le _, rfl, rfl, Below.refl _ _⟩
    case round =>
      obtain ⟨k, hk, rfl, hup, hbw⟩ := hrel
      by_cases hlt : k < n
      · have hlt' : k < n' := by have := HN.out; omega
        obtain ⟨b, o, x, A1, n1, c1, E1, m1, d1, rfl, hb, hx, hf, hs, ht1, g0, g1, g2, g3, g4, g5⟩ := nodeAt h hlt
        obtain ⟨b', o', y, A2, n2, c2, E2, m2, d2, rfl, hb', hy, hf', hs', ht1', g0', g1', g2', g3', g4', g5'⟩ := nodeAt h' hlt'
        have hsz := hbw.size
        have i1 : b < wr.heap.size := by omega
        have i2 : b' < wr.heap.size := by omega
        have i3 : b < wr.heap.size + 1 := by omega
        have i4 : b' < wr.heap.size + 1 := by omega
        have e0 := ((cell_of hbw) b (o + k * 6) hb).trans g0
        have e1 := ((cell_of hbw) b (o + k * 6 + 1) hb).trans g1
        have e2 := ((cell_of hbw) b (o + k * 6 + 2) hb).trans g2
        have e3 := ((cell_of hbw) b (o + k * 6 + 3) hb).trans g3
        have e4 := ((cell_of hbw) b (o + k * 6 + 4) hb).trans g4
        have e5 := ((cell_of hbw) b (o + k * 6 + 5) hb).trans g5
        have e0' := ((cell_of hbw) b' (o' + k * 6) hb').trans g0'
        have e1' := ((cell_of hbw) b' (o' + k * 6 + 1) hb').trans g1'
        have e2' := ((cell_of hbw) b' (o' + k * 6 + 2) hb').trans g2'
        have e3' := ((cell_of hbw) b' (o' + k * 6 + 3) hb').trans g3'
        have e4' := ((cell_of hbw) b' (o' + k * 6 + 4) hb').trans g4'
        have e5' := ((cell_of hbw) b' (o' + k * 6 + 5) hb').trans g5'
        have q1 : (k : Int) < (n : Int) := by omega
        have q2 : (k : Int) < (n' : Int) := by omega
        have HX := Lib.hid hx
        have HY := Lib.hid hy
        have BW : Below wr.heap.size wr ((wr.alloc (.cells #[.int .i64 x.op, .int .i64 x.wish.kind, .int .i64 x.wish.field, .int .i64 x.wish.value, .slice A1 n1 c1, .slice E1 m1 d1] 55)).alloc (.cells #[.int .i64 y.op, .int .i64 y.wish.kind, .int .i64 y.wish.field, .int .i64 y.wish.value, .slice A2 n2 c2, .slice E2 m2 d2] 55)) := ((Below.refl _ _).alloc (Nat.le_refl _) _).alloc (by simp) _
        have HS := Lib.hid ((hs.on RI.keeps hbw).on RI.keeps BW)
        have HS' := Lib.hid ((hs'.on RI.keeps hbw).on RI.keeps BW)
        have HT := Lib.hid ((ht1.on RP.keeps hbw).on RP.keeps BW)
        have HT' := Lib.hid ((ht1'.on RP.keeps hbw).on RP.keeps BW)
        have HBW := Lib.hid (hbw.trans (BW.mono hsz))
        clear hx hy h h' hbw hs hs' ht1 ht1' BW g0 g1 g2 g3 g4 g5 g0' g1' g2' g3' g4' g5'
        cases hd : decide (x = y) with
        | true =>
          have HE := Lib.hid (P.agree_step hup.out HX.out ((decide_eq_true_iff.1 hd) ▸ HY.out))
          go_wp2_with (go_at_call 101; refine (equalNode _ HS.out HT.out HS'.out HT'.out).mono ?_; rintro e w9 ⟨rfl, b9⟩; rw [hd])
          go_roundw
          case rel => exact ⟨k + 1, by omega, by go_num, HE, HBW.out.trans (b9.mono (by simp; omega))⟩
          case measure => simp [intOf]; omega
        | false =>
          have HE : Hid (decide (xs = ys) = false) := by
            show _ = _
            rw [decide_eq_false_iff_not]; exact P.agree_no HX.out HY.out (decide_eq_false_iff_not.1 hd)
          go_wp2_with (go_at_call 101; refine (equalNode _ HS.out HT.out HS'.out HT'.out).mono ?_; rintro e w9 ⟨rfl, b9⟩; rw [hd])
          go_ret
          exact ⟨ret_bool HE.out.symm, HBW.out.trans (b9.mono (by simp; omega))⟩
      · have HE : Hid (decide (xs = ys) = true) := by
          show _ = _
          rw [decide_eq_true_iff]
          exact P.agree_all hup.out HL.out (by rw [HL'.out]; exact HN.out.symm) (by omega)
        clear h h'
        go_wp2
        go_ret
        exact ⟨ret_bool HE.out.symm, hbw⟩
  · have ht : ((n : Int) != (n' : Int)) = true := by simp; omega
    have HE : Hid (decide (xs = ys) = false) := by
      show _ = _
      rw [decide_eq_false_iff_not]
      rintro rfl
      exact hne (HL.out.symm.trans HL'.out)
    clear hne h h'
    go_enter Try.func100, Try.ntmps100
    go_wp2
    go_ret
    exact ⟨ret_bool HE.out.symm, Below.refl _ _⟩
theorem implEqualExpressions {A A' : Option Addr} {n n' c c' : Nat} {xs ys : List Nd} (w : World) (h : Sl RN 6 w w.heap.size A n c xs) (h' : Sl RN 6 w w.heap.size A' n' c' ys) :
    Calls Try.prog 80 #[.slice A n c, .slice A' n' c'] w fun e w' => e = .returned (.bool (decide (xs = ys))) ∧ Below w.heap.size w w' := by
  go_enter Try.func80, Try.ntmps80
  go_wp2_with fail
  refine (equalFuncN _ h h').mono ?_
  rintro e w1 ⟨rfl, b1⟩
  clear h h'
  go_wp2
  go_ret
  exact ⟨rfl, b1⟩
end Go.Proofs.Ytgjghpaenliliaa.Wk
