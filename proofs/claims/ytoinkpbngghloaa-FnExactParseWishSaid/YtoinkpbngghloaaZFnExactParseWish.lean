/-
  The given statement on laws.FnExactParseWish: for every input that the row speaks of, the call returns true and the arguments read as before.
  Conditions: none beyond the row's own.
-/
import Derived.Test.YtoinkpbngghloaaZFnExactParseWishA
import Derived.Test.YtoinkpbngghloaaM13
import Derived.Test.YtoinkpbngghloaaU5
import Derived.Test.YtoinkpbngghloaaO1
import Derived.Test.YtoinkpbngghloaaW12
import Derived.Test.YtoinkpbngghloaaW30
import Derived.Test.YtoinkpbngghloaaU1
import Derived.Test.YtoinkpbngghloaaRows
import Derived.ProofKit
import Derived.OpenShut
import Derived.ShutString
import Derived.ChangeOld
import Derived.Below
namespace Go.Proofs.Ytoinkpbngghloaa.Wk
open Go.RowKit Go.Proofs.Ytoinkpbngghloaa.M
set_option linter.unusedVariables false
set_option linter.unusedSimpArgs false
attribute [local go_sem] cell_grow

/-- It returns a wish by value, its rows the call's own, and a truth value. -/
def RetWB (w : World) (x : Wi) (b : Bool) (e : Ending) (w' : World) : Prop := ∃ u v, e = .returned (.tuple #[.agg #[.int .i64 x.kind, .int .i64 x.field, .int .i64 x.value, u, v], .bool b]) ∧ OwnW w' w.heap.size 3 82 x u v ∧ Below w.heap.size w w'
theorem ownW_nil (w : World) (lo : Nat) : OwnW w lo 3 82 zeroW (.slice none 0 0) (.slice none 0 0) := ⟨World.ownsRow_nil _ _ _ _, World.ownsRow_nil _ _ _ _, .inl rfl⟩
theorem far_nilR (u : Value) : Far u (.slice none 0 0) := by
  cases h : u.ownBlock with
  | none => exact .inl h
  | some g => exact .inr (by rw [h]; intro e; cases e)
theorem ret_wb {x y : Wi} {b c : Bool} {u v : Value} (h : x = y ∧ b = c) : Ending.returned (.tuple #[.agg #[.int .i64 x.kind, .int .i64 x.field, .int .i64 x.value, u, v], .bool b]) = .returned (.tuple #[.agg #[.int .i64 y.kind, .int .i64 y.field, .int .i64 y.value, u, v], .bool c]) := by rw [h.1, h.2]
theorem below_dr76 {W w8 : World} (h : Below W.drew.heap.size W.drew w8) : Below W.heap.size W w8 := (Below.refl W.heap.size W).drew.trans h
section
variable {w w' : World} {v : Value} {b o : Nat}
theorem celA (h : w.cell? ⟨b, o, none⟩ = some v) (x : Obj) : (w.alloc x).cell? ⟨b, o, none⟩ = some v := by
  rw [World.cell?_alloc_lt _ _ _ (World.block_lt_of_cell? w _ h)]; exact h
theorem celB {B : Nat} (h : w.cell? ⟨b, o, none⟩ = some v) (hb : Below B w w') (hlt : b < B) : w'.cell? ⟨b, o, none⟩ = some v := ((cell_of hb) b o hlt).trans h
theorem celS {p : Addr} (h : w.cell? ⟨b, o, none⟩ = some v) (hne : p.block ≠ b) (u : Value) : (w.setCell p u).cell? ⟨b, o, none⟩ = some v := by
  rw [World.cell?_setCell_far _ _ _ _ hne]; exact h
end
theorem lit_yes {a : ByteArray} {l : List UInt8} (h : a = ⟨l.toArray⟩) : (a.toList == l) = true := by rw [h, ByteArray.toList_eq]; simp
theorem lit_no {a : ByteArray} {l : List UInt8} (h : a ≠ ⟨l.toArray⟩) : (a.toList == l) = false := by
  cases e : (a.toList == l) with
  | false => rfl
  | true =>
    rw [ByteArray.toList_eq, beq_iff_eq] at e
    exact absurd (P.ba_ext (by rw [e])) h
theorem l4Field (w : World) {b : ByteArray} (hs : b.size ≤ 1048576) : Calls Try.prog 53 #[.string b] w fun e w' => e = .returned (.int .i64 (fldS b)) ∧ Below w.heap.size w w' := by
  by_cases h2 : b.size < 2
  · have q : (b.size : Int) < 2 := by omega
    have HE : Hid (fldS b = -1) := by show _ = _; unfold fldS; rw [if_pos (.inl h2)]
    go_enter Try.func53, Try.ntmps53
    go_wp2
    go_ret
    exact ⟨ret_int HE.out.symm, Below.refl _ _⟩
  · have q : ¬ (b.size : Int) < 2 := by omega
    have h0 : 0 < b.size := by omega
    have hg := getD_of h0
    by_cases e : b[0].toNat = 102
    · have t : ((b[0].toNat : Int) != 102) = false := by rw [e]; simp
      have HE : Hid (fldS b = l2N (b.extract 1 b.size)) := by
        show _ = _
        unfold fldS
        rw [if_neg]
        rintro (h | h)
        · exact h2 h
        · exact h (by rw [hg]; exact UInt8.toNat_inj.1 e)
      have hxs : (b.extract 1 b.size).size ≤ maxLen := by rw [ByteArray.size_extract]; unfold maxLen; omega
      have q1 : (1 : Int) ≤ (b.size : Int) := by omega
      clear e hg
      go_enter Try.func53, Try.ntmps53
      go_wp2_with fail
      refine (l2Num _ hxs).mono ?_
      rintro e w2 ⟨rfl, b2⟩
      go_wp2
      go_ret
      exact ⟨ret_int HE.out.symm, b2⟩
    · have t : ((b[0].toNat : Int) != 102) = true := by simp; omega
      have HE : Hid (fldS b = -1) := by
        show _ = _
        unfold fldS
        rw [if_pos (.inr fun h => e (by rw [hg] at h; rw [h]; rfl))]
      clear e hg
      go_enter Try.func53, Try.ntmps53
      go_wp2
      go_ret
      exact ⟨ret_int HE.out.symm, Below.refl _ _⟩
set_option maxHeartbeats 1600000 in
set_option maxRecDepth 100000 in
theorem indexStrs {g n c : Nat} {E : TypeId} {ws : List ByteArray} {v : ByteArray} (w : World) (hr : Row w g E (ws.map Value.string)) (hn : ws.length = n) (hc : n ≤ c) (hb : n ≤ 100) :
    Calls Try.prog 58 #[.slice (some ⟨g, 0, none⟩) n c, .string v] w fun e w' => (∃ k : Int, e = .returned (.int .i64 k) ∧ ((∃ j : Nat, k = j ∧ ws[j]? = some v ∧ ∀ i, i < j → ws[i]? ≠ some v) ∨ (k = -1 ∧ v ∉ ws))) ∧ w = w' := by
  have HR := Lib.hid hr
  have hg := hr.lt
  go_enter Try.func58, Try.ntmps58
  go_wp2
  go_loop [5, 8] (fun _ vi => ∃ k : Nat, k ≤ n ∧ vi = .int .i64 k ∧ Hid (∀ i, i < k → ws[i]? ≠ some v)) (fun _ vi => n - (intOf vi).toNat)
  case atStart => exact ⟨0, Nat.zero_le _, rfl, fun i hi => absurd hi (Nat.not_lt_zero _)⟩
  case round =>
    obtain ⟨k, hk, rfl, HK⟩ := hrel
    by_cases hlt : k < n
    · have q1 : (k : Int) < (n : Int) := by omega
      have q2 : (n : Int) ≤ (c : Int) := by omega
      obtain ⟨t, ht⟩ : ∃ t, ws[k]? = some t := ⟨_, List.getElem?_eq_getElem (by omega)⟩
      have c0 : w.cell? ⟨g, k, none⟩ = some (.string t) := by rw [HR.out.cell, List.getElem?_map, ht]; rfl
      by_cases e : v = t
      · have HE : Hid (ws[k]? = some v) := by show _ = _; rw [ht, e]
        have q3 := ba_yes e
        clear e ht hr
        go_wp2
        go_ret
        exact ⟨⟨k, rfl, .inl ⟨k, rfl, HE.out, HK.out⟩⟩, rfl⟩
      · have HK2 : Hid (∀ i, i < k + 1 → ws[i]? ≠ some v) := by
          intro i hi h
          by_cases hik : i = k
          · subst hik; rw [ht] at h; injection h with h; exact e h.symm
          · exact HK.out i (by omega) h
        have q3 := ba_no e
        clear e ht hr
        go_wp2
        go_round
        case rel => exact ⟨k + 1, by omega, by go_num, HK2⟩
        case measure => simp [intOf]; omega
    · have hkn : k = n := by omega
      have q1 : ¬ (k : Int) < (n : Int) := by omega
      have HN : Hid (v ∉ ws) := by
        intro hm
        obtain ⟨i, hi⟩ := List.getElem?_of_mem hm
        exact HK.out i (by have := (List.getElem?_eq_some_iff.1 hi).1; omega) hi
      clear hr
      go_wp2
      go_ret
      exact ⟨⟨-1, rfl, .inr ⟨rfl, HN.out⟩⟩, rfl⟩
theorem idx5 {k : Int} {a : ByteArray} (h : (∃ j : Nat, k = j ∧ [kindW 0, kindW 1, kindW 2, kindW 3, kindW 4][j]? = some a ∧ ∀ i, i < j → [kindW 0, kindW 1, kindW 2, kindW 3, kindW 4][i]? ≠ some a) ∨ (k = -1 ∧ a ∉ [kindW 0, kindW 1, kindW 2, kindW 3, kindW 4])) : k = kindI a := by
  rcases h with ⟨j, rfl, h1, h2⟩ | ⟨rfl, h1⟩
  · have hj : j < 5 := (List.getElem?_eq_some_iff.1 h1).1
    rcases (by omega : j = 0 ∨ j = 1 ∨ j = 2 ∨ j = 3 ∨ j = 4) with rfl | rfl | rfl | rfl | rfl
    all_goals
      simp at h1
      subst h1
      rw [kindI_back (by omega)]
      rfl
  · simp only [List.mem_cons, List.not_mem_nil, or_false, not_or] at h1
    obtain ⟨a0, a1, a2, a3, a4⟩ := h1
    unfold kindI
    rw [if_neg a0, if_neg a1, if_neg a2, if_neg a3, if_neg a4]
theorem kindI_bd (a : ByteArray) : -1 ≤ kindI a ∧ kindI a ≤ 4 := by
  unfold kindI
  repeat' split
  all_goals omega
set_option maxHeartbeats 6400000 in
set_option maxRecDepth 100000 in
theorem specParseWish (w : World) {s : ByteArray} (hs : s.size ≤ 1048576) : Calls Try.prog 25 #[.string s] w (RetWB w (parW s) (parWB s)) := by
  obtain ⟨i0, hi, hz0, hz1, hz2⟩ := info_parts info_i2
  have HX := Lib.hid (P.cut_size s ⟨#[32]⟩)
  go_enter Try.func25, Try.ntmps25
  go_wp2_with fail
  refine (l2Cut _ (b := 32) hs).mono ?_
  rintro e w2 ⟨vp, rfl, hP, b2⟩
  have B2 := ((Below.refl w.heap.size w).alloc (Nat.le_refl _) (.cells #[.int .i64 0, .int .i64 0, .int .i64 0, .slice none 0 0, .slice none 0 0] 30)).trans (b2.mono (by simp))
  have R2 := (Row.new w 30 [.int .i64 0, .int .i64 0, .int .i64 0, .slice none 0 0, .slice none 0 0]).below b2 (by simp)
  obtain ⟨A, c, rfl, _, _⟩ := own_form hP.1
  obtain ⟨A', n', c', e', hS⟩ := own_strs hP.1 (fun x hx => by have := HX.out x hx; unfold maxLen; omega)
  injection e' with e1 e2 e3
  subst e1 e3
  have hsz2 := b2.size
  simp at hsz2
  have hnc := hS.le
  clear hP b2
  by_cases hl : (P.cut s ⟨#[32]⟩).length < 2 ∨ 3 < (P.cut s ⟨#[32]⟩).length
  · have HP : Hid (parW s = zeroW ∧ parWB s = false) := parW_bad (by rcases hl with h | h; exact .inl h; exact .inr (.inl h))
    obtain ⟨m, hm⟩ : ∃ m, (P.cut s ⟨#[32]⟩).length = m := ⟨_, rfl⟩
    rw [hm] at hl ⊢
    rcases hl with hl | hl
    · have q0 : (m : Int) < 2 := by omega
      have f0 := R2.free 0
      have f1 := R2.free 1
      have f2 := R2.free 2
      have f3 := R2.free 3
      have f4 := R2.free 4
      have hlt := R2.lt
      have c0 : w2.cell? ⟨w.heap.size, 0, none⟩ = some (.int .i64 0) := R2.cell 0
      have c1 : w2.cell? ⟨w.heap.size, 1, none⟩ = some (.int .i64 0) := R2.cell 1
      have c2 : w2.cell? ⟨w.heap.size, 2, none⟩ = some (.int .i64 0) := R2.cell 2
      have c3 : w2.cell? ⟨w.heap.size, 3, none⟩ = some (.slice none 0 0) := R2.cell 3
      have c4 : w2.cell? ⟨w.heap.size, 4, none⟩ = some (.slice none 0 0) := R2.cell 4
      have BN := Lib.hid (((((B2.setCell (p := ⟨w.heap.size, 0, none⟩) (Nat.le_refl _) (.int .i64 0)).setCell (p := ⟨w.heap.size, 1, none⟩) (Nat.le_refl _) (.int .i64 0)).setCell (p := ⟨w.heap.size, 2, none⟩) (Nat.le_refl _) (.int .i64 0)).setCell (p := ⟨w.heap.size, 3, none⟩) (Nat.le_refl _) (.slice none 0 0)).setCell (p := ⟨w.heap.size, 4, none⟩) (Nat.le_refl _) (.slice none 0 0))
      go_wp2
      refine bodyPost_ret (v := .tuple #[.agg #[.int .i64 0, .int .i64 0, .int .i64 0, .slice none 0 0, .slice none 0 0], .bool false]) (by simp [results, Try.results25, go_sem, c0, c1, c2, c3, c4]) rfl ?_
      refine ⟨_, _, ret_wb (x := zeroW) (u := .slice none 0 0) (v := .slice none 0 0) (b := false) ⟨HP.out.1.symm, HP.out.2.symm⟩, ?_, BN.out⟩
      rw [HP.out.1]; exact ownW_nil _ _
    · have q0 : ¬ (m : Int) < 2 := by omega
      have q1 : 3 < (m : Int) := by omega
      have f0 := R2.free 0
      have f1 := R2.free 1
      have f2 := R2.free 2
      have f3 := R2.free 3
      have f4 := R2.free 4
      have hlt := R2.lt
      have c0 : w2.cell? ⟨w.heap.size, 0, none⟩ = some (.int .i64 0) := R2.cell 0
      have c1 : w2.cell? ⟨w.heap.size, 1, none⟩ = some (.int .i64 0) := R2.cell 1
      have c2 : w2.cell? ⟨w.heap.size, 2, none⟩ = some (.int .i64 0) := R2.cell 2
      have c3 : w2.cell? ⟨w.heap.size, 3, none⟩ = some (.slice none 0 0) := R2.cell 3
      have c4 : w2.cell? ⟨w.heap.size, 4, none⟩ = some (.slice none 0 0) := R2.cell 4
      have BN := Lib.hid (((((B2.setCell (p := ⟨w.heap.size, 0, none⟩) (Nat.le_refl _) (.int .i64 0)).setCell (p := ⟨w.heap.size, 1, none⟩) (Nat.le_refl _) (.int .i64 0)).setCell (p := ⟨w.heap.size, 2, none⟩) (Nat.le_refl _) (.int .i64 0)).setCell (p := ⟨w.heap.size, 3, none⟩) (Nat.le_refl _) (.slice none 0 0)).setCell (p := ⟨w.heap.size, 4, none⟩) (Nat.le_refl _) (.slice none 0 0))
      go_wp2
      refine bodyPost_ret (v := .tuple #[.agg #[.int .i64 0, .int .i64 0, .int .i64 0, .slice none 0 0, .slice none 0 0], .bool false]) (by simp [results, Try.results25, go_sem, c0, c1, c2, c3, c4]) rfl ?_
      refine ⟨_, _, ret_wb (x := zeroW) (u := .slice none 0 0) (v := .slice none 0 0) (b := false) ⟨HP.out.1.symm, HP.out.2.symm⟩, ?_, BN.out⟩
      rw [HP.out.1]; exact ownW_nil _ _
  · have h2 : 2 ≤ (P.cut s ⟨#[32]⟩).length := by omega
    have HE := Lib.hid (fun (y : Wi) hb => parW_end (s := s) (y := y) h2 hb)
    obtain ⟨a, b, rest, hab, hrl⟩ : ∃ a b rest, P.cut s ⟨#[32]⟩ = a :: b :: rest ∧ rest.length ≤ 1 := by
      match hc : P.cut s ⟨#[32]⟩, hl, h2 with
      | a :: b :: rest, hl, _ => exact ⟨a, b, rest, rfl, by simp at hl; omega⟩
    rw [hab] at HE
    have has : a.size ≤ 1048576 := Nat.le_trans (HX.out a (by rw [hab]; simp)) hs
    have hbs : b.size ≤ 1048576 := Nat.le_trans (HX.out b (by rw [hab]; simp)) hs
    obtain ⟨m, hm⟩ : ∃ m, rest.length + 1 + 1 = m := ⟨_, rfl⟩
    have hlen : (P.cut s ⟨#[32]⟩).length = m := by rw [hab]; exact hm
    rw [hlen] at e2 ⊢
    subst e2
    have hm2 : 2 ≤ m := by omega
    have hm3 : m ≤ 3 := by omega
    obtain ⟨bb, o, x, rfl, hbb, hx0, _, hc0⟩ := hS.str (k := 0) (by omega)
    obtain ⟨bb1, o1, x1, hbe, _, hx1, _, hc1⟩ := hS.str (k := 1) (by omega)
    injection hbe with hbe
    injection hbe with hbe1 hbe2 _
    subst hbe1 hbe2
    rw [hab] at hx0 hx1
    simp at hx0 hx1
    subst hx0 hx1
    rw [Nat.add_zero] at hc0
    have HC2 : Hid (∀ c, rest = [c] → w2.cell? ⟨bb, o + 2, none⟩ = some (.string c)) := by
      rintro c rfl
      obtain ⟨bb2, o2, x2, hbe, _, hx2, _, hc2⟩ := hS.str (k := 2) (by simp at hm; omega)
      injection hbe with hbe
      injection hbe with hbe1 hbe2 _
      subst hbe1 hbe2
      rw [hab] at hx2
      simp at hx2
      subst hx2
      exact hc2
    have HAB := Lib.hid hab
    have HRC : Hid (∀ c, rest = [c] → c.size ≤ 1048576) := fun c hc => Nat.le_trans (HX.out c (by rw [HAB.out, hc]; simp)) hs
    clear hl h2 hab hS
    have p2 : (2 : Int) ≤ (m : Int) := by omega
    have p3 : (m : Int) ≤ 3 := by omega
    have p1 : (1 : Int) < (m : Int) := by omega
    have p0 : (0 : Int) < (m : Int) := by omega
    have p4 : (m : Int) ≤ (c : Int) := by omega
    have q0 : ¬ (m : Int) < 2 := by omega
    have q1 : ¬ 3 < (m : Int) := by omega
    go_wp2_with fail
    refine (l4Field _ hbs).mono ?_
    rintro e w3 ⟨rfl, b3⟩
    obtain ⟨fl, hfl⟩ : ∃ fl, fldS b = fl := ⟨_, rfl⟩
    have FL : Fit fl := by
      rw [← hfl]
      unfold fldS
      split
      · unfold Fit; omega
      · exact l2N_fit _
    rw [hfl]
    have hsz3 := b3.size
    have R3 := Lib.hid (R2.below b3 (by omega))
    have X3 := Lib.hid (Row.new w3 30 [.int .i64 0, .int .i64 fl, .int .i64 0, .slice none 0 0, .slice none 0 0])
    have B3 := Lib.hid (B2.trans (b3.mono (by omega)))
    have hlw : w.heap.size ≤ w3.heap.size := by omega
    have k0 := celB hc0 b3 hbb
    have HK2 : Hid (∀ c, rest = [c] → w3.cell? ⟨bb, o + 2, none⟩ = some (.string c)) := fun c hc => celB (HC2.out c hc) b3 hbb
    have hbb3 : bb < w3.heap.size := by omega
    have hlo : w.heap.size < w3.heap.size + 1 := by omega
    clear hc0 hc1 HC2 b3 R2 B2
    have x0' : (w3.alloc (.cells #[.int .i64 0, .int .i64 fl, .int .i64 0, .slice none 0 0, .slice none 0 0] 30)).cell? ⟨w3.heap.size, 0, none⟩ = some (.int .i64 0) := X3.out.cell 0
    by_cases hr0 : rest = []
    · have hm9 : m = 2 := by rw [hr0] at hm; simpa using hm.symm
      have t0 : ((m : Int) == 3) = false := by rw [hm9]; rfl
      have HCAND : Hid (∀ x, P.okW x = true → kindW x.kind :: fldW x.field :: argW x = a :: b :: rest → candS a b ⟨#[]⟩ = x) := fun x hx h => candS_two hx (by rw [h, hr0]) _
      have hargs : (⟨#[]⟩ : ByteArray).size ≤ maxLen := Nat.zero_le _
      have hargs2 : (⟨#[]⟩ : ByteArray).size ≤ 1048576 := Nat.zero_le _
      clear hm9
      by_cases n1 : a = kindW 1
      · have t1 : (a.toList == [104, 105, 103, 104]) = true := lit_yes n1
        have HC : Hid (candS a b ⟨#[]⟩ = ⟨1, fl, 0, [], []⟩) := by show _ = _; unfold candS; rw [if_pos n1, hfl]
        have HEND : Hid ((wishS ⟨1, fl, 0, [], []⟩ = s → parW s = ⟨1, fl, 0, [], []⟩ ∧ parWB s = true) ∧ (wishS ⟨1, fl, 0, [], []⟩ ≠ s → parW s = zeroW ∧ parWB s = false)) := by
          have h9 := HE.out _ HCAND.out
          rw [HC.out] at h9
          exact h9
        have FF : Hid (FitW ⟨1, fl, 0, [], []⟩) := ⟨by unfold Fit; simp, FL, by unfold Fit; simp, by simp, by simp⟩
        have XX := Row.new w3 30 [.int .i64 1, .int .i64 fl, .int .i64 0, .slice none 0 0, .slice none 0 0]
        have RX := R3.out.alloc (.cells #[.int .i64 1, .int .i64 fl, .int .i64 0, .slice none 0 0, .slice none 0 0] 30)
        have BB := B3.out.alloc hlw (.cells #[.int .i64 1, .int .i64 fl, .int .i64 0, .slice none 0 0, .slice none 0 0] 30)
        have fr0 := X3.out.free 0
        have xlt := X3.out.lt
        have OL : ((w3.alloc (.cells #[.int .i64 1, .int .i64 fl, .int .i64 0, .slice none 0 0, .slice none 0 0] 30))).ownsRow (w3.heap.size + 1) 3 1 (.slice none 0 0) 0 (([] : List Int).map (Value.int .i64)) := World.ownsRow_nil _ _ _ _
        have S1 : Sl RI 1 ((w3.alloc (.cells #[.int .i64 1, .int .i64 fl, .int .i64 0, .slice none 0 0, .slice none 0 0] 30))) ((w3.alloc (.cells #[.int .i64 1, .int .i64 fl, .int .i64 0, .slice none 0 0, .slice none 0 0] 30))).heap.size none 0 0 [] := Sl.nil _ _
        have OP : ((w3.alloc (.cells #[.int .i64 1, .int .i64 fl, .int .i64 0, .slice none 0 0, .slice none 0 0] 30))).ownsRow (w3.heap.size + 1) 82 2 (.slice none 0 0) 0 (prc []) := World.ownsRow_nil _ _ _ _
        have S2 : Sl RP 2 ((w3.alloc (.cells #[.int .i64 1, .int .i64 fl, .int .i64 0, .slice none 0 0, .slice none 0 0] 30))) ((w3.alloc (.cells #[.int .i64 1, .int .i64 fl, .int .i64 0, .slice none 0 0, .slice none 0 0] 30))).heap.size none 0 0 [] := Sl.nil _ _
        clear n1 hfl HK2
        have y0 : (w3.alloc (.cells #[.int .i64 1, .int .i64 fl, .int .i64 0, .slice none 0 0, .slice none 0 0] 30)).cell? ⟨w3.heap.size, 0, none⟩ = some (.int .i64 1) := XX.cell 0
        have y1 : (w3.alloc (.cells #[.int .i64 1, .int .i64 fl, .int .i64 0, .slice none 0 0, .slice none 0 0] 30)).cell? ⟨w3.heap.size, 1, none⟩ = some (.int .i64 fl) := XX.cell 1
        have y2 : (w3.alloc (.cells #[.int .i64 1, .int .i64 fl, .int .i64 0, .slice none 0 0, .slice none 0 0] 30)).cell? ⟨w3.heap.size, 2, none⟩ = some (.int .i64 0) := XX.cell 2
        have y3 : (w3.alloc (.cells #[.int .i64 1, .int .i64 fl, .int .i64 0, .slice none 0 0, .slice none 0 0] 30)).cell? ⟨w3.heap.size, 3, none⟩ = some (.slice none 0 0) := XX.cell 3
        have y4 : (w3.alloc (.cells #[.int .i64 1, .int .i64 fl, .int .i64 0, .slice none 0 0, .slice none 0 0] 30)).cell? ⟨w3.heap.size, 4, none⟩ = some (.slice none 0 0) := XX.cell 4
        have hltx := XX.lt
        have hltr := RX.lt
        have XH := Lib.hid XX
        have RH := Lib.hid RX
        have OLH := Lib.hid OL
        have OPH := Lib.hid OP
        have BH := Lib.hid BB
        clear XX RX OL OP BB
        go_wp2_with fail
        refine (specFormatWish (x := ⟨1, fl, 0, [], []⟩) _ S1 S2 FF.out.1 FF.out.2.1 FF.out.2.2.1).mono ?_
        rintro e w6 ⟨rfl, b6⟩
        clear y0 y1 y2 y3 y4 S1 S2
        have R6 := RH.out.below b6 hltr
        have X6 := XH.out.below b6 hltx
        have O6 := own_below OLH.out b6
        have P6 := own_below OPH.out b6
        have B6 := BH.out.trans (b6.mono BH.out.size)
        have f0 := R6.free 0
        have f1 := R6.free 1
        have f2 := R6.free 2
        have f3 := R6.free 3
        have f4 := R6.free 4
        have hlt := R6.lt
        have hlty := X6.lt
        have c0 : w6.cell? ⟨w.heap.size, 0, none⟩ = some (.int .i64 0) := R6.cell 0
        have c1 : w6.cell? ⟨w.heap.size, 1, none⟩ = some (.int .i64 0) := R6.cell 1
        have c2 : w6.cell? ⟨w.heap.size, 2, none⟩ = some (.int .i64 0) := R6.cell 2
        have c3 : w6.cell? ⟨w.heap.size, 3, none⟩ = some (.slice none 0 0) := R6.cell 3
        have c4 : w6.cell? ⟨w.heap.size, 4, none⟩ = some (.slice none 0 0) := R6.cell 4
        have y0 : w6.cell? ⟨w3.heap.size, 0, none⟩ = some (.int .i64 1) := X6.cell 0
        have y1 : w6.cell? ⟨w3.heap.size, 1, none⟩ = some (.int .i64 fl) := X6.cell 1
        have y2 : w6.cell? ⟨w3.heap.size, 2, none⟩ = some (.int .i64 0) := X6.cell 2
        have y3 : w6.cell? ⟨w3.heap.size, 3, none⟩ = some (.slice none 0 0) := X6.cell 3
        have y4 : w6.cell? ⟨w3.heap.size, 4, none⟩ = some (.slice none 0 0) := X6.cell 4
        have BF := Lib.hid (((((B6.setCell (p := ⟨w.heap.size, 0, none⟩) (Nat.le_refl _) (.int .i64 1)).setCell (p := ⟨w.heap.size, 1, none⟩) (Nat.le_refl _) (.int .i64 fl)).setCell (p := ⟨w.heap.size, 2, none⟩) (Nat.le_refl _) (.int .i64 0)).setCell (p := ⟨w.heap.size, 3, none⟩) (Nat.le_refl _) (.slice none 0 0)).setCell (p := ⟨w.heap.size, 4, none⟩) (Nat.le_refl _) (.slice none 0 0))
        have BN := Lib.hid (((((B6.setCell (p := ⟨w.heap.size, 0, none⟩) (Nat.le_refl _) (.int .i64 0)).setCell (p := ⟨w.heap.size, 1, none⟩) (Nat.le_refl _) (.int .i64 0)).setCell (p := ⟨w.heap.size, 2, none⟩) (Nat.le_refl _) (.int .i64 0)).setCell (p := ⟨w.heap.size, 3, none⟩) (Nat.le_refl _) (.slice none 0 0)).setCell (p := ⟨w.heap.size, 4, none⟩) (Nat.le_refl _) (.slice none 0 0))
        have OF := Lib.hid (own_mono (b' := w.heap.size) (ownsRow_setCell_below (ownsRow_setCell_below (ownsRow_setCell_below (ownsRow_setCell_below (ownsRow_setCell_below O6 (a := ⟨w.heap.size, 0, none⟩) hlo (.int .i64 1)) (a := ⟨w.heap.size, 1, none⟩) hlo (.int .i64 fl)) (a := ⟨w.heap.size, 2, none⟩) hlo (.int .i64 0)) (a := ⟨w.heap.size, 3, none⟩) hlo (.slice none 0 0)) (a := ⟨w.heap.size, 4, none⟩) hlo (.slice none 0 0)) (Nat.le_of_lt hlo))
        have PF := Lib.hid (own_mono (b' := w.heap.size) (ownsRow_setCell_below (ownsRow_setCell_below (ownsRow_setCell_below (ownsRow_setCell_below (ownsRow_setCell_below P6 (a := ⟨w.heap.size, 0, none⟩) hlo (.int .i64 1)) (a := ⟨w.heap.size, 1, none⟩) hlo (.int .i64 fl)) (a := ⟨w.heap.size, 2, none⟩) hlo (.int .i64 0)) (a := ⟨w.heap.size, 3, none⟩) hlo (.slice none 0 0)) (a := ⟨w.heap.size, 4, none⟩) hlo (.slice none 0 0)) (Nat.le_of_lt hlo))
        clear R6 X6 O6 P6 B6 b6
        by_cases e : wishS ⟨1, fl, 0, [], []⟩ = s
        · have HP := Lib.hid (HEND.out.1 e)
          have q9 := ba_yes e
          clear e HEND
          go_wp2
          refine bodyPost_ret (v := .tuple #[.agg #[.int .i64 1, .int .i64 fl, .int .i64 0, .slice none 0 0, .slice none 0 0], .bool true]) (by simp [results, Try.results25, go_sem, c0, c1, c2, c3, c4]) rfl ?_
          refine ⟨_, _, ret_wb (x := ⟨1, fl, 0, [], []⟩) (b := true) ⟨HP.out.1.symm, HP.out.2.symm⟩, ?_, BF.out⟩
          rw [HP.out.1]
          exact ⟨OF.out, PF.out, far_nilR _⟩
        · have HP := Lib.hid (HEND.out.2 e)
          have q9 := ba_no e
          clear e HEND
          go_wp2
          refine bodyPost_ret (v := .tuple #[.agg #[.int .i64 0, .int .i64 0, .int .i64 0, .slice none 0 0, .slice none 0 0], .bool false]) (by simp [results, Try.results25, go_sem, c0, c1, c2, c3, c4]) rfl ?_
          refine ⟨_, _, ret_wb (x := zeroW) (u := .slice none 0 0) (v := .slice none 0 0) (b := false) ⟨HP.out.1.symm, HP.out.2.symm⟩, ?_, BN.out⟩
          rw [HP.out.1]; exact ownW_nil _ _
      have t1 : (a.toList == [104, 105, 103, 104]) = false := lit_no n1
      by_cases n2 : a = kindW 2
      · have t2 : (a.toList == [110, 101, 97, 114]) = true := lit_yes n2
        have X4 := Row.new w3 30 [.int .i64 2, .int .i64 fl, .int .i64 0, .slice none 0 0, .slice none 0 0]
        have R4 := R3.out.alloc (.cells #[.int .i64 2, .int .i64 fl, .int .i64 0, .slice none 0 0, .slice none 0 0] 30)
        have B4 := B3.out.alloc hlw (.cells #[.int .i64 2, .int .i64 fl, .int .i64 0, .slice none 0 0, .slice none 0 0] 30)
        have fr0 := X3.out.free 0
        have xlt := X3.out.lt
        have zW : ((w3.alloc (.cells #[.int .i64 2, .int .i64 fl, .int .i64 0, .slice none 0 0, .slice none 0 0] 30))).heap.size = w3.heap.size + 1 := by simp
        have HC0 : Hid (candS a b ⟨#[]⟩ = ⟨2, fl, l2N ⟨#[]⟩, [], []⟩) := by show _ = _; unfold candS; rw [if_neg n1, if_pos n2, hfl]
        clear n1 n2 hfl HK2
        go_wp2_with fail
        refine (l2Num _ hargs).mono ?_
        rintro e w5 ⟨rfl, b5⟩
        obtain ⟨nv, hnv⟩ : ∃ nv, l2N ⟨#[]⟩ = nv := ⟨_, rfl⟩
        have FN : Fit nv := by rw [← hnv]; exact l2N_fit _
        rw [hnv] at HC0 ⊢
        have HC := HC0
        have z5 := b5.size
        rw [zW] at z5
        have X5 := X4.below b5 X4.lt
        have R5 := R4.below b5 R4.lt
        have B5 := B4.trans (b5.mono B4.size)
        have fr2 := X5.free 2
        have xc2 : w5.cell? ⟨w3.heap.size, 2, none⟩ = some (.int .i64 0) := X5.cell 2
        have xlt5 := X5.lt
        have XX : Row (w5.setCell ⟨w3.heap.size, 2, none⟩ (.int .i64 nv)) w3.heap.size 30 [.int .i64 2, .int .i64 fl, .int .i64 nv, .slice none 0 0, .slice none 0 0] := X5.set 2 (.int .i64 nv)
        have RX := R5.far (p := ⟨w3.heap.size, 2, none⟩) (by show w.heap.size ≠ w3.heap.size; omega) (.int .i64 nv)
        have BB := B5.setCell (p := ⟨w3.heap.size, 2, none⟩) (by show w.heap.size ≤ w3.heap.size; omega) (.int .i64 nv)
        have HEND : Hid ((wishS ⟨2, fl, nv, [], []⟩ = s → parW s = ⟨2, fl, nv, [], []⟩ ∧ parWB s = true) ∧ (wishS ⟨2, fl, nv, [], []⟩ ≠ s → parW s = zeroW ∧ parWB s = false)) := by
          have h9 := HE.out _ HCAND.out
          rw [HC.out] at h9
          exact h9
        have FF : Hid (FitW ⟨2, fl, nv, [], []⟩) := ⟨by unfold Fit; simp, FL, FN, by simp, by simp⟩
        have OL : ((w5.setCell ⟨w3.heap.size, 2, none⟩ (.int .i64 nv))).ownsRow (w3.heap.size + 1) 3 1 (.slice none 0 0) 0 (([] : List Int).map (Value.int .i64)) := World.ownsRow_nil _ _ _ _
        have S1 : Sl RI 1 ((w5.setCell ⟨w3.heap.size, 2, none⟩ (.int .i64 nv))) ((w5.setCell ⟨w3.heap.size, 2, none⟩ (.int .i64 nv))).heap.size none 0 0 [] := Sl.nil _ _
        have OP : ((w5.setCell ⟨w3.heap.size, 2, none⟩ (.int .i64 nv))).ownsRow (w3.heap.size + 1) 82 2 (.slice none 0 0) 0 (prc []) := World.ownsRow_nil _ _ _ _
        have S2 : Sl RP 2 ((w5.setCell ⟨w3.heap.size, 2, none⟩ (.int .i64 nv))) ((w5.setCell ⟨w3.heap.size, 2, none⟩ (.int .i64 nv))).heap.size none 0 0 [] := Sl.nil _ _
        clear X5 R5 B5 b5 X4 R4 B4 hnv
        have y0 : (w5.setCell ⟨w3.heap.size, 2, none⟩ (.int .i64 nv)).cell? ⟨w3.heap.size, 0, none⟩ = some (.int .i64 2) := XX.cell 0
        have y1 : (w5.setCell ⟨w3.heap.size, 2, none⟩ (.int .i64 nv)).cell? ⟨w3.heap.size, 1, none⟩ = some (.int .i64 fl) := XX.cell 1
        have y2 : (w5.setCell ⟨w3.heap.size, 2, none⟩ (.int .i64 nv)).cell? ⟨w3.heap.size, 2, none⟩ = some (.int .i64 nv) := XX.cell 2
        have y3 : (w5.setCell ⟨w3.heap.size, 2, none⟩ (.int .i64 nv)).cell? ⟨w3.heap.size, 3, none⟩ = some (.slice none 0 0) := XX.cell 3
        have y4 : (w5.setCell ⟨w3.heap.size, 2, none⟩ (.int .i64 nv)).cell? ⟨w3.heap.size, 4, none⟩ = some (.slice none 0 0) := XX.cell 4
        have hltx := XX.lt
        have hltr := RX.lt
        have XH := Lib.hid XX
        have RH := Lib.hid RX
        have OLH := Lib.hid OL
        have OPH := Lib.hid OP
        have BH := Lib.hid BB
        clear XX RX OL OP BB
        go_wp2_with fail
        refine (specFormatWish (x := ⟨2, fl, nv, [], []⟩) _ S1 S2 FF.out.1 FF.out.2.1 FF.out.2.2.1).mono ?_
        rintro e w6 ⟨rfl, b6⟩
        clear y0 y1 y2 y3 y4 S1 S2
        have R6 := RH.out.below b6 hltr
        have X6 := XH.out.below b6 hltx
        have O6 := own_below OLH.out b6
        have P6 := own_below OPH.out b6
        have B6 := BH.out.trans (b6.mono BH.out.size)
        have f0 := R6.free 0
        have f1 := R6.free 1
        have f2 := R6.free 2
        have f3 := R6.free 3
        have f4 := R6.free 4
        have hlt := R6.lt
        have hlty := X6.lt
        have c0 : w6.cell? ⟨w.heap.size, 0, none⟩ = some (.int .i64 0) := R6.cell 0
        have c1 : w6.cell? ⟨w.heap.size, 1, none⟩ = some (.int .i64 0) := R6.cell 1
        have c2 : w6.cell? ⟨w.heap.size, 2, none⟩ = some (.int .i64 0) := R6.cell 2
        have c3 : w6.cell? ⟨w.heap.size, 3, none⟩ = some (.slice none 0 0) := R6.cell 3
        have c4 : w6.cell? ⟨w.heap.size, 4, none⟩ = some (.slice none 0 0) := R6.cell 4
        have y0 : w6.cell? ⟨w3.heap.size, 0, none⟩ = some (.int .i64 2) := X6.cell 0
        have y1 : w6.cell? ⟨w3.heap.size, 1, none⟩ = some (.int .i64 fl) := X6.cell 1
        have y2 : w6.cell? ⟨w3.heap.size, 2, none⟩ = some (.int .i64 nv) := X6.cell 2
        have y3 : w6.cell? ⟨w3.heap.size, 3, none⟩ = some (.slice none 0 0) := X6.cell 3
        have y4 : w6.cell? ⟨w3.heap.size, 4, none⟩ = some (.slice none 0 0) := X6.cell 4
        have BF := Lib.hid (((((B6.setCell (p := ⟨w.heap.size, 0, none⟩) (Nat.le_refl _) (.int .i64 2)).setCell (p := ⟨w.heap.size, 1, none⟩) (Nat.le_refl _) (.int .i64 fl)).setCell (p := ⟨w.heap.size, 2, none⟩) (Nat.le_refl _) (.int .i64 nv)).setCell (p := ⟨w.heap.size, 3, none⟩) (Nat.le_refl _) (.slice none 0 0)).setCell (p := ⟨w.heap.size, 4, none⟩) (Nat.le_refl _) (.slice none 0 0))
        have BN := Lib.hid (((((B6.setCell (p := ⟨w.heap.size, 0, none⟩) (Nat.le_refl _) (.int .i64 0)).setCell (p := ⟨w.heap.size, 1, none⟩) (Nat.le_refl _) (.int .i64 0)).setCell (p := ⟨w.heap.size, 2, none⟩) (Nat.le_refl _) (.int .i64 0)).setCell (p := ⟨w.heap.size, 3, none⟩) (Nat.le_refl _) (.slice none 0 0)).setCell (p := ⟨w.heap.size, 4, none⟩) (Nat.le_refl _) (.slice none 0 0))
        have OF := Lib.hid (own_mono (b' := w.heap.size) (ownsRow_setCell_below (ownsRow_setCell_below (ownsRow_setCell_below (ownsRow_setCell_below (ownsRow_setCell_below O6 (a := ⟨w.heap.size, 0, none⟩) hlo (.int .i64 2)) (a := ⟨w.heap.size, 1, none⟩) hlo (.int .i64 fl)) (a := ⟨w.heap.size, 2, none⟩) hlo (.int .i64 nv)) (a := ⟨w.heap.size, 3, none⟩) hlo (.slice none 0 0)) (a := ⟨w.heap.size, 4, none⟩) hlo (.slice none 0 0)) (Nat.le_of_lt hlo))
        have PF := Lib.hid (own_mono (b' := w.heap.size) (ownsRow_setCell_below (ownsRow_setCell_below (ownsRow_setCell_below (ownsRow_setCell_below (ownsRow_setCell_below P6 (a := ⟨w.heap.size, 0, none⟩) hlo (.int .i64 2)) (a := ⟨w.heap.size, 1, none⟩) hlo (.int .i64 fl)) (a := ⟨w.heap.size, 2, none⟩) hlo (.int .i64 nv)) (a := ⟨w.heap.size, 3, none⟩) hlo (.slice none 0 0)) (a := ⟨w.heap.size, 4, none⟩) hlo (.slice none 0 0)) (Nat.le_of_lt hlo))
        clear R6 X6 O6 P6 B6 b6
        by_cases e : wishS ⟨2, fl, nv, [], []⟩ = s
        · have HP := Lib.hid (HEND.out.1 e)
          have q9 := ba_yes e
          clear e HEND
          go_wp2
          refine bodyPost_ret (v := .tuple #[.agg #[.int .i64 2, .int .i64 fl, .int .i64 nv, .slice none 0 0, .slice none 0 0], .bool true]) (by simp [results, Try.results25, go_sem, c0, c1, c2, c3, c4]) rfl ?_
          refine ⟨_, _, ret_wb (x := ⟨2, fl, nv, [], []⟩) (b := true) ⟨HP.out.1.symm, HP.out.2.symm⟩, ?_, BF.out⟩
          rw [HP.out.1]
          exact ⟨OF.out, PF.out, far_nilR _⟩
        · have HP := Lib.hid (HEND.out.2 e)
          have q9 := ba_no e
          clear e HEND
          go_wp2
          refine bodyPost_ret (v := .tuple #[.agg #[.int .i64 0, .int .i64 0, .int .i64 0, .slice none 0 0, .slice none 0 0], .bool false]) (by simp [results, Try.results25, go_sem, c0, c1, c2, c3, c4]) rfl ?_
          refine ⟨_, _, ret_wb (x := zeroW) (u := .slice none 0 0) (v := .slice none 0 0) (b := false) ⟨HP.out.1.symm, HP.out.2.symm⟩, ?_, BN.out⟩
          rw [HP.out.1]; exact ownW_nil _ _
      have t2 : (a.toList == [110, 101, 97, 114]) = false := lit_no n2
      by_cases n3 : a = kindW 3
      · have t3 : (a.toList == [97, 109, 111, 110, 103]) = true := lit_yes n3
        have X4 := Row.new w3 30 [.int .i64 3, .int .i64 fl, .int .i64 0, .slice none 0 0, .slice none 0 0]
        have R4 := R3.out.alloc (.cells #[.int .i64 3, .int .i64 fl, .int .i64 0, .slice none 0 0, .slice none 0 0] 30)
        have B4 := B3.out.alloc hlw (.cells #[.int .i64 3, .int .i64 fl, .int .i64 0, .slice none 0 0, .slice none 0 0] 30)
        have fr0 := X3.out.free 0
        have xlt := X3.out.lt
        have zW : ((w3.alloc (.cells #[.int .i64 3, .int .i64 fl, .int .i64 0, .slice none 0 0, .slice none 0 0] 30))).heap.size = w3.heap.size + 1 := by simp
        have HC0 : Hid (candS a b ⟨#[]⟩ = ⟨3, fl, 0, rdL ⟨#[]⟩, []⟩) := by show _ = _; unfold candS; rw [if_neg n1, if_neg n2, if_pos n3, hfl]
        clear n1 n2 n3 hfl HK2
        have HCL := Lib.hid (P.cut_len ⟨#[]⟩ ⟨#[44]⟩)
        have HX1 := Lib.hid (P.cut_size ⟨#[]⟩ ⟨#[44]⟩)
        go_wp2_with fail
        refine (l2Cut _ (b := 44) hargs2).mono ?_
        rintro e w4 ⟨vp, rfl, hP, b4⟩
        have z4 := b4.size
        rw [zW] at z4
        have X5 := X4.below b4 X4.lt
        have R5 := R4.below b4 R4.lt
        have B5 := B4.trans (b4.mono B4.size)
        have hP1 := hP.1
        rw [zW] at hP1
        have hP1 := Lib.hid hP1
        have hP2 := Lib.hid hP.2
        obtain ⟨A2, c2, rfl, _, _⟩ := own_form hP.1
        obtain ⟨n, hn⟩ : ∃ n, (P.cut ⟨#[]⟩ ⟨#[44]⟩).length = n := ⟨_, rfl⟩
        have HL := Lib.hid hn
        have hn1 : n ≤ 1048577 := by have := HL.out; have := HCL.out; omega
        obtain ⟨rl, hrl9⟩ : ∃ rl, Hid (rdL ⟨#[]⟩ = rl) := ⟨_, rfl⟩
        have HRL : Hid (rl.length = n) := by show _ = _; rw [← hrl9.out]; unfold rdL; rw [List.length_map, HL.out]
        have HRF : Hid (∀ y ∈ rl, Fit y) := by
          show ∀ y ∈ rl, Fit y
          rw [← hrl9.out]
          intro y hy
          unfold rdL at hy
          obtain ⟨t, _, rfl⟩ := List.mem_map.1 hy
          exact l2N_fit _
        have XR4 := Lib.hid X5
        have RR4 := Lib.hid R5
        have BR4 := Lib.hid B5
        clear hP b4 X5 R5 B5 X4 R4 B4
        rw [hn]
        rw [hn] at hP1 hP2
        go_wp2
        go_loopw [8] (fun vi wr => ∃ (k : Nat) (A5 : Option Addr) (c5 : Nat), k ≤ n ∧ vi = .int .i64 k ∧ Hid (wr.ownsRow w4.heap.size 3 1 (.slice A5 k c5) k ((rl.take k).map (Value.int .i64))) ∧ Hid (wr.ownsRow (w3.heap.size + 1) 9 1 (.slice A2 n c2) n ((P.cut ⟨#[]⟩ ⟨#[44]⟩).map Value.string)) ∧ Hid (Row wr w3.heap.size 30 [.int .i64 3, .int .i64 fl, .int .i64 0, .slice A5 k c5, .slice none 0 0]) ∧ Hid (Row wr w.heap.size 30 [.int .i64 0, .int .i64 0, .int .i64 0, .slice none 0 0, .slice none 0 0]) ∧ w4.heap.size ≤ wr.heap.size ∧ Below w.heap.size w wr) (fun vi _ => n - (intOf vi).toNat)
        case atStart => exact ⟨0, none, 0, Nat.zero_le _, rfl, World.ownsRow_nil _ _ _ _, hP1, XR4, RR4, Nat.le_refl _, BR4.out⟩
        case round =>
          clear hP1 XR4 RR4 BR4
          obtain ⟨k, A5, c5, hk, rfl, hown, hpr, hXr, hRr, hw4, hbw⟩ := hrel
          by_cases hlt : k < n
          · obtain ⟨A', n', c', e', hS⟩ := own_strs (xs := P.cut ⟨#[]⟩ ⟨#[44]⟩) (by rw [HL.out]; exact hpr.out) (fun x hx => by have := HX1.out x hx; unfold maxLen; omega)
            injection e' with e1 e2 e3
            subst e1 e2 e3
            obtain ⟨bt, ot, t, rfl, hbt, hxt, _, hct⟩ := hS.str hlt
            have hnc3 := hS.le
            have q1' : (k : Int) < (n : Int) := by omega
            have q2' : (n : Int) ≤ (c2 : Int) := by omega
            have hts : t.size ≤ maxLen := by have := HX1.out t (List.mem_of_getElem? hxt); unfold maxLen; omega
            have HT : Hid (rl[k]? = some (l2N t)) := by show _ = _; rw [← hrl9.out]; unfold rdL; rw [List.getElem?_map, hxt]; rfl
            obtain ⟨hbtl, hbth⟩ : w3.heap.size + 1 ≤ bt ∧ bt < w4.heap.size := ⟨(hpr.out.lt bt rfl).1, hP2.out bt rfl⟩
            have C0 : wr.drew.cell? ⟨bt, ot + k, none⟩ = some (.string t) := hct
            have xl := hXr.out.lt
            have x1c : wr.drew.cell? ⟨w3.heap.size, 3, none⟩ = some (.slice A5 k c5) := hXr.out.cell 3
            have hrow : ∀ q, (Value.slice A5 k c5).ownBlock = some q → w4.heap.size ≤ q := fun q hq => (hown.out.lt q hq).1
            have h63 : k + 1 ≤ maxLen := by unfold maxLen; omega
            have hby : (k + 1) * 8 ≤ 140737488355328 := by omega
            clear hS hxt hct
            go_wp2_with fail
            refine wp_region_T 8 (fun w' => w'.cell? ⟨w3.heap.size, 3, none⟩ = some (.slice A5 k c5) ∧ w'.cell? ⟨bt, ot + k, none⟩ = some (.string t)) (by kernel_rfl) ⟨x1c, C0⟩ (fun hC => ?_)
            refine wpAnyT_take (i := 0) (v := ?v9_0n) rfl (by kernel_rfl) (fun _ _ _ h => h) (Or.inl ⟨by rfl, ?h9_0n⟩) (by assumption) ?r9_0n; (case h9_0n => (intro w9 hC9; (try dsimp only at hC9); go_simp; (try with_reducible rfl))); (try simp only [Act.put, List.setIfInBounds_toArray, List.set_cons_zero, List.set_cons_succ])
            refine wpAnyT_take (i := 1) (v := ?v9_1n) rfl (by kernel_rfl) (fun _ _ _ h => h) (Or.inl ⟨by rfl, ?h9_1n⟩) (by assumption) ?r9_1n; (case h9_1n => (intro w9 hC9; (try dsimp only at hC9); go_simp; (try with_reducible rfl))); (try simp only [Act.put, List.setIfInBounds_toArray, List.set_cons_zero, List.set_cons_succ])
            refine wpAnyT_take (i := 2) (v := ?v9_2n) rfl (by kernel_rfl) (fun _ _ _ h => h) (Or.inl ⟨by rfl, ?h9_2n⟩) (by assumption) ?r9_2n; (case h9_2n => (intro w9 hC9; (try dsimp only at hC9); go_simp; (try with_reducible rfl))); (try simp only [Act.put, List.setIfInBounds_toArray, List.set_cons_zero, List.set_cons_succ])
            refine wpAnyT_take (i := 3) (v := ?v9_3n) rfl (by kernel_rfl) (fun _ _ _ h => h) (Or.inl ⟨by rfl, ?h9_3n⟩) (by assumption) ?r9_3n; (case h9_3n => (intro w9 hC9; (try dsimp only at hC9); go_simp; (try with_reducible rfl))); (try simp only [Act.put, List.setIfInBounds_toArray, List.set_cons_zero, List.set_cons_succ])
            refine wpAnyT_take (i := 4) (v := ?v9_4n) rfl (by kernel_rfl) (fun _ _ _ h => h) (Or.inl ⟨by rfl, ?h9_4n⟩) (by assumption) ?r9_4n; (case h9_4n => (intro w9 hC9; (try dsimp only at hC9); go_simp; (try with_reducible rfl))); (try simp only [Act.put, List.setIfInBounds_toArray, List.set_cons_zero, List.set_cons_succ])
            refine wpAnyT_take (i := 5) (v := ?v9_5n) rfl (by kernel_rfl) (fun _ _ _ h => h) (Or.inl ⟨by rfl, ?h9_5n⟩) (by assumption) ?r9_5n; (case h9_5n => (intro w9 hC9; (try dsimp only at hC9); go_simp; (try with_reducible rfl))); (try simp only [Act.put, List.setIfInBounds_toArray, List.set_cons_zero, List.set_cons_succ])
            refine wpAnyT_rest 6 (by kernel_rfl) ?_; simp only [List.drop_succ_cons, List.drop_zero]
            refine wpListT_step rfl ?_
            go_wp2_with fail
            refine (l2Num _ hts).mono ?_
            rintro e w8 ⟨rfl, b8⟩
            have x8 := celB x1c b8 (by simp; omega)
            have C8 := celB C0 b8 (by simp; omega)
            have s8 := b8.size
            go_wp2
            refine ⟨fun _ => ⟨x8, C8⟩, ?_⟩
            refine wpListT_step rfl ?_
            go_wp2
            refine ⟨fun _ => ⟨celA x8 _, celA C8 _⟩, ?_⟩
            refine wpListT_end (by decide) rfl ?_
            have b8' := below_dr76 b8
            have hwr8 := b8'.size
            have hown8 := Lib.hid (own_below hown.out b8')
            have hpr8 := Lib.hid (own_below hpr.out b8')
            have hX8 := Lib.hid ((hXr.out.below b8' xl).alloc (.cells #[.int .i64 (l2N t)] 3))
            have hR8 := Lib.hid ((hRr.out.below b8' hRr.out.lt).alloc (.cells #[.int .i64 (l2N t)] 3))
            have hbw8 := Lib.hid ((hbw.trans (b8'.mono hbw.size)).alloc (by have := hbw.size; omega) (.cells #[.int .i64 (l2N t)] 3))
            clear b8 x8 C8
            go_wp2_with (at_builtin; refine wpList_append_own _ rfl _ _ 22 rfl w4.heap.size 3 i0 (.int .i64 0) 1 8 Try.underlying22 hi hz0 hz1 hz2 rfl (by decide) _ _ _ rfl (hown8.out.alloc _) ⟨w8.heap.size, 0, none⟩ 1 1 [_] rfl rfl (one_new _ _ _) (by simp [Value.oneCell']) (by unfold maxLen; omega) (by omega) (by simp; omega) ?_)
            intro v' w9 hown9 hgrow _
            obtain ⟨A9, c9, rfl, _, _⟩ := own_form hown9
            have hX9 := hX8.out.grown hgrow (fun e => by have := hrow _ e.symm; omega)
            have hR9 := hR8.out.grown hgrow (fun e => by have := hrow _ e.symm; have := hRr.out.lt; have := hbw.size; omega)
            have hpr9 := own_grown (hpr8.out.alloc _) hgrow (fun g hg e => by have := hrow g e.symm; have := hP2.out g hg; omega)
            have hB9 := Lib.hid (hbw8.out.grown hgrow (by have := hbw.size; simp; omega) (fun q hq => by have := hrow q hq; have := hbw.size; omega))
            have f1 := hX9.free 3
            have y1 : w9.cell? ⟨w3.heap.size, 3, none⟩ = some (.slice A5 k c5) := hX9.cell 3
            have hlt9 := hX9.lt
            have hs9 := hgrow.size
            simp at hs9
            have X10 : Hid (Row (w9.setCell ⟨w3.heap.size, 3, none⟩ (.slice A9 (k + 1) c9)) w3.heap.size 30 [.int .i64 3, .int .i64 fl, .int .i64 0, .slice A9 (k + 1) c9, .slice none 0 0]) := hX9.set 3 _
            have R10 : Hid (Row (w9.setCell ⟨w3.heap.size, 3, none⟩ (.slice A9 (k + 1) c9)) w.heap.size 30 [.int .i64 0, .int .i64 0, .int .i64 0, .slice none 0 0, .slice none 0 0]) := hR9.far (by show w.heap.size ≠ w3.heap.size; omega) _
            have P10 := Lib.hid (ownsRow_setCell_below hpr9 (a := ⟨w3.heap.size, 3, none⟩) (by show w3.heap.size < _; omega) (.slice A9 (k + 1) c9))
            have O10 : Hid ((w9.setCell ⟨w3.heap.size, 3, none⟩ (.slice A9 (k + 1) c9)).ownsRow w4.heap.size 3 1 (.slice A9 (k + 1) c9) (k + 1) ((rl.take (k + 1)).map (Value.int .i64))) := by
              have := ownsRow_setCell_below hown9 (a := ⟨w3.heap.size, 3, none⟩) (by show w3.heap.size < _; omega) (.slice A9 (k + 1) c9)
              obtain ⟨hl9, e9⟩ := List.getElem?_eq_some_iff.1 HT.out
              show World.ownsRow _ _ _ _ _ _ _
              rw [List.take_succ_eq_append_getElem hl9, e9, List.map_append, List.map_take]
              exact this
            have B10 := Lib.hid (hB9.out.setCell (p := ⟨w3.heap.size, 3, none⟩) (by show w.heap.size ≤ w3.heap.size; omega) (.slice A9 (k + 1) c9))
            clear hX9 hR9 hpr9 hown9 hgrow hbw
            go_wp2
            go_roundw
            case rel => exact ⟨k + 1, A9, c9, by omega, by go_num, O10.out, P10.out, X10.out, R10.out, by simp; omega, B10.out⟩
            case measure => simp [intOf]; omega
          · have hkn : k = n := by omega
            subst hkn
            have q1' : ¬ (k : Int) < (k : Int) := by omega
            have OL := hown.out
            have HR9 := HRL.out
            rw [List.take_of_length_le (by omega)] at OL
            have XX := hXr.out
            have RX := hRr.out
            have BB := hbw
            have hlo4 : w3.heap.size + 1 ≤ w4.heap.size := z4
            have OL := own_mono (b' := w3.heap.size + 1) OL hlo4
            rw [← HR9] at OL XX
            have HC : Hid (candS a b ⟨#[]⟩ = ⟨3, fl, 0, rl, []⟩) := by show _ = _; rw [HC0.out, hrl9.out]
            have S1 : Sl RI 1 wr wr.heap.size A5 rl.length c5 rl := by
              obtain ⟨A', n', c', e', hS⟩ := own_ints OL HRF.out
              injection e' with e1 e2 e3
              subst e1 e2 e3
              exact hS
            have FF : Hid (FitW ⟨3, fl, 0, rl, []⟩) := ⟨by unfold Fit; simp, FL, by unfold Fit; simp, HRF.out, by simp⟩
            have HKL : Hid (k = rl.length) := HR9.symm
            clear hown hXr hRr hpr hbw HR9
            have HEND : Hid ((wishS ⟨3, fl, 0, rl, []⟩ = s → parW s = ⟨3, fl, 0, rl, []⟩ ∧ parWB s = true) ∧ (wishS ⟨3, fl, 0, rl, []⟩ ≠ s → parW s = zeroW ∧ parWB s = false)) := by
              have h9 := HE.out _ HCAND.out
              rw [HC.out] at h9
              exact h9
            have OP : (wr).ownsRow (w3.heap.size + 1) 82 2 (.slice none 0 0) 0 (prc []) := World.ownsRow_nil _ _ _ _
            have S2 : Sl RP 2 (wr) (wr).heap.size none 0 0 [] := Sl.nil _ _
            have y0 : wr.cell? ⟨w3.heap.size, 0, none⟩ = some (.int .i64 3) := XX.cell 0
            have y1 : wr.cell? ⟨w3.heap.size, 1, none⟩ = some (.int .i64 fl) := XX.cell 1
            have y2 : wr.cell? ⟨w3.heap.size, 2, none⟩ = some (.int .i64 0) := XX.cell 2
            have y3 : wr.cell? ⟨w3.heap.size, 3, none⟩ = some (.slice A5 rl.length c5) := XX.cell 3
            have y4 : wr.cell? ⟨w3.heap.size, 4, none⟩ = some (.slice none 0 0) := XX.cell 4
            have hltx := XX.lt
            have hltr := RX.lt
            have XH := Lib.hid XX
            have RH := Lib.hid RX
            have OLH := Lib.hid OL
            have OPH := Lib.hid OP
            have BH := Lib.hid BB
            clear XX RX OL OP BB
            go_wp2_with fail
            refine (specFormatWish (x := ⟨3, fl, 0, rl, []⟩) _ S1 S2 FF.out.1 FF.out.2.1 FF.out.2.2.1).mono ?_
            rintro e w6 ⟨rfl, b6⟩
            clear y0 y1 y2 y3 y4 S1 S2
            have R6 := RH.out.below b6 hltr
            have X6 := XH.out.below b6 hltx
            have O6 := own_below OLH.out b6
            have P6 := own_below OPH.out b6
            have B6 := BH.out.trans (b6.mono BH.out.size)
            have f0 := R6.free 0
            have f1 := R6.free 1
            have f2 := R6.free 2
            have f3 := R6.free 3
            have f4 := R6.free 4
            have hlt := R6.lt
            have hlty := X6.lt
            have c0 : w6.cell? ⟨w.heap.size, 0, none⟩ = some (.int .i64 0) := R6.cell 0
            have c1 : w6.cell? ⟨w.heap.size, 1, none⟩ = some (.int .i64 0) := R6.cell 1
            have c2 : w6.cell? ⟨w.heap.size, 2, none⟩ = some (.int .i64 0) := R6.cell 2
            have c3 : w6.cell? ⟨w.heap.size, 3, none⟩ = some (.slice none 0 0) := R6.cell 3
            have c4 : w6.cell? ⟨w.heap.size, 4, none⟩ = some (.slice none 0 0) := R6.cell 4
            have y0 : w6.cell? ⟨w3.heap.size, 0, none⟩ = some (.int .i64 3) := X6.cell 0
            have y1 : w6.cell? ⟨w3.heap.size, 1, none⟩ = some (.int .i64 fl) := X6.cell 1
            have y2 : w6.cell? ⟨w3.heap.size, 2, none⟩ = some (.int .i64 0) := X6.cell 2
            have y3 : w6.cell? ⟨w3.heap.size, 3, none⟩ = some (.slice A5 rl.length c5) := X6.cell 3
            have y4 : w6.cell? ⟨w3.heap.size, 4, none⟩ = some (.slice none 0 0) := X6.cell 4
            have BF := Lib.hid (((((B6.setCell (p := ⟨w.heap.size, 0, none⟩) (Nat.le_refl _) (.int .i64 3)).setCell (p := ⟨w.heap.size, 1, none⟩) (Nat.le_refl _) (.int .i64 fl)).setCell (p := ⟨w.heap.size, 2, none⟩) (Nat.le_refl _) (.int .i64 0)).setCell (p := ⟨w.heap.size, 3, none⟩) (Nat.le_refl _) (.slice A5 rl.length c5)).setCell (p := ⟨w.heap.size, 4, none⟩) (Nat.le_refl _) (.slice none 0 0))
            have BN := Lib.hid (((((B6.setCell (p := ⟨w.heap.size, 0, none⟩) (Nat.le_refl _) (.int .i64 0)).setCell (p := ⟨w.heap.size, 1, none⟩) (Nat.le_refl _) (.int .i64 0)).setCell (p := ⟨w.heap.size, 2, none⟩) (Nat.le_refl _) (.int .i64 0)).setCell (p := ⟨w.heap.size, 3, none⟩) (Nat.le_refl _) (.slice none 0 0)).setCell (p := ⟨w.heap.size, 4, none⟩) (Nat.le_refl _) (.slice none 0 0))
            have OF := Lib.hid (own_mono (b' := w.heap.size) (ownsRow_setCell_below (ownsRow_setCell_below (ownsRow_setCell_below (ownsRow_setCell_below (ownsRow_setCell_below O6 (a := ⟨w.heap.size, 0, none⟩) hlo (.int .i64 3)) (a := ⟨w.heap.size, 1, none⟩) hlo (.int .i64 fl)) (a := ⟨w.heap.size, 2, none⟩) hlo (.int .i64 0)) (a := ⟨w.heap.size, 3, none⟩) hlo (.slice A5 rl.length c5)) (a := ⟨w.heap.size, 4, none⟩) hlo (.slice none 0 0)) (Nat.le_of_lt hlo))
            have PF := Lib.hid (own_mono (b' := w.heap.size) (ownsRow_setCell_below (ownsRow_setCell_below (ownsRow_setCell_below (ownsRow_setCell_below (ownsRow_setCell_below P6 (a := ⟨w.heap.size, 0, none⟩) hlo (.int .i64 3)) (a := ⟨w.heap.size, 1, none⟩) hlo (.int .i64 fl)) (a := ⟨w.heap.size, 2, none⟩) hlo (.int .i64 0)) (a := ⟨w.heap.size, 3, none⟩) hlo (.slice A5 rl.length c5)) (a := ⟨w.heap.size, 4, none⟩) hlo (.slice none 0 0)) (Nat.le_of_lt hlo))
            clear R6 X6 O6 P6 B6 b6
            by_cases e : wishS ⟨3, fl, 0, rl, []⟩ = s
            · have HP := Lib.hid (HEND.out.1 e)
              have q9 := ba_yes e
              clear e HEND
              go_wp2
              refine bodyPost_ret (v := .tuple #[.agg #[.int .i64 3, .int .i64 fl, .int .i64 0, .slice A5 rl.length c5, .slice none 0 0], .bool true]) (by simp [results, Try.results25, go_sem, c0, c1, c2, c3, c4]) rfl ?_
              refine ⟨_, _, ret_wb (x := ⟨3, fl, 0, rl, []⟩) (b := true) ⟨HP.out.1.symm, HP.out.2.symm⟩, ?_, BF.out⟩
              rw [HP.out.1]
              exact ⟨OF.out, PF.out, far_nilR _⟩
            · have HP := Lib.hid (HEND.out.2 e)
              have q9 := ba_no e
              clear e HEND
              go_wp2
              refine bodyPost_ret (v := .tuple #[.agg #[.int .i64 0, .int .i64 0, .int .i64 0, .slice none 0 0, .slice none 0 0], .bool false]) (by simp [results, Try.results25, go_sem, c0, c1, c2, c3, c4]) rfl ?_
              refine ⟨_, _, ret_wb (x := zeroW) (u := .slice none 0 0) (v := .slice none 0 0) (b := false) ⟨HP.out.1.symm, HP.out.2.symm⟩, ?_, BN.out⟩
              rw [HP.out.1]; exact ownW_nil _ _
      have t3 : (a.toList == [97, 109, 111, 110, 103]) = false := lit_no n3
      by_cases n4 : a = kindW 4
      · have t4 : (a.toList == [111, 114, 100, 101, 114]) = true := lit_yes n4
        have X4 := Row.new w3 30 [.int .i64 4, .int .i64 fl, .int .i64 0, .slice none 0 0, .slice none 0 0]
        have R4 := R3.out.alloc (.cells #[.int .i64 4, .int .i64 fl, .int .i64 0, .slice none 0 0, .slice none 0 0] 30)
        have B4 := B3.out.alloc hlw (.cells #[.int .i64 4, .int .i64 fl, .int .i64 0, .slice none 0 0, .slice none 0 0] 30)
        have fr0 := X3.out.free 0
        have xlt := X3.out.lt
        have zW : ((w3.alloc (.cells #[.int .i64 4, .int .i64 fl, .int .i64 0, .slice none 0 0, .slice none 0 0] 30))).heap.size = w3.heap.size + 1 := by simp
        have HC0 : Hid (candS a b ⟨#[]⟩ = ⟨4, fl, 0, [], parP ⟨#[]⟩⟩) := by show _ = _; unfold candS; rw [if_neg n1, if_neg n2, if_neg n3, if_pos n4, hfl]
        clear n1 n2 n3 n4 hfl HK2
        go_wp2_with fail
        refine (specParsePairs _ hargs2).mono ?_
        rintro e w5 ⟨vq, rfl, Oq, b5⟩
        have FQ := Lib.hid (parP_fit ⟨#[]⟩)
        obtain ⟨ps, hps⟩ : ∃ ps, parP ⟨#[]⟩ = ps := ⟨_, rfl⟩
        rw [hps] at HC0 Oq FQ
        have HC := HC0
        obtain ⟨E5, d5, rfl, _, _⟩ := own_form Oq.1
        have z5 := b5.size
        rw [zW] at z5
        have X5 := X4.below b5 X4.lt
        have R5 := R4.below b5 R4.lt
        have B5 := B4.trans (b5.mono B4.size)
        have O5 := Oq.1
        rw [zW] at O5
        have fr4 := X5.free 4
        have xc4 : w5.cell? ⟨w3.heap.size, 4, none⟩ = some (.slice none 0 0) := X5.cell 4
        have xlt5 := X5.lt
        have XX : Row (w5.setCell ⟨w3.heap.size, 4, none⟩ (.slice E5 ps.length d5)) w3.heap.size 30 [.int .i64 4, .int .i64 fl, .int .i64 0, .slice none 0 0, .slice E5 ps.length d5] := X5.set 4 (.slice E5 ps.length d5)
        have RX := R5.far (p := ⟨w3.heap.size, 4, none⟩) (by show w.heap.size ≠ w3.heap.size; omega) (.slice E5 ps.length d5)
        have BB := B5.setCell (p := ⟨w3.heap.size, 4, none⟩) (by show w.heap.size ≤ w3.heap.size; omega) (.slice E5 ps.length d5)
        have OP := ownsRow_setCell_below O5 (a := ⟨w3.heap.size, 4, none⟩) (by show w3.heap.size < w3.heap.size + 1; omega) (.slice E5 ps.length d5)
        have S2 : Sl RP 2 (w5.setCell ⟨w3.heap.size, 4, none⟩ (.slice E5 ps.length d5)) (w5.setCell ⟨w3.heap.size, 4, none⟩ (.slice E5 ps.length d5)).heap.size E5 ps.length d5 ps := by
          obtain ⟨A', n', c', e', hS⟩ := own_pairs OP FQ.out
          injection e' with e1 e2 e3
          subst e1 e2 e3
          exact hS
        have HEND : Hid ((wishS ⟨4, fl, 0, [], ps⟩ = s → parW s = ⟨4, fl, 0, [], ps⟩ ∧ parWB s = true) ∧ (wishS ⟨4, fl, 0, [], ps⟩ ≠ s → parW s = zeroW ∧ parWB s = false)) := by
          have h9 := HE.out _ HCAND.out
          rw [HC.out] at h9
          exact h9
        have FF : Hid (FitW ⟨4, fl, 0, [], ps⟩) := ⟨by unfold Fit; simp, FL, by unfold Fit; simp, by simp, FQ.out⟩
        have OL : ((w5.setCell ⟨w3.heap.size, 4, none⟩ (.slice E5 ps.length d5))).ownsRow (w3.heap.size + 1) 3 1 (.slice none 0 0) 0 (([] : List Int).map (Value.int .i64)) := World.ownsRow_nil _ _ _ _
        have S1 : Sl RI 1 ((w5.setCell ⟨w3.heap.size, 4, none⟩ (.slice E5 ps.length d5))) ((w5.setCell ⟨w3.heap.size, 4, none⟩ (.slice E5 ps.length d5))).heap.size none 0 0 [] := Sl.nil _ _
        clear X5 R5 B5 b5 X4 R4 B4 hps O5 Oq
        have y0 : (w5.setCell ⟨w3.heap.size, 4, none⟩ (.slice E5 ps.length d5)).cell? ⟨w3.heap.size, 0, none⟩ = some (.int .i64 4) := XX.cell 0
        have y1 : (w5.setCell ⟨w3.heap.size, 4, none⟩ (.slice E5 ps.length d5)).cell? ⟨w3.heap.size, 1, none⟩ = some (.int .i64 fl) := XX.cell 1
        have y2 : (w5.setCell ⟨w3.heap.size, 4, none⟩ (.slice E5 ps.length d5)).cell? ⟨w3.heap.size, 2, none⟩ = some (.int .i64 0) := XX.cell 2
        have y3 : (w5.setCell ⟨w3.heap.size, 4, none⟩ (.slice E5 ps.length d5)).cell? ⟨w3.heap.size, 3, none⟩ = some (.slice none 0 0) := XX.cell 3
        have y4 : (w5.setCell ⟨w3.heap.size, 4, none⟩ (.slice E5 ps.length d5)).cell? ⟨w3.heap.size, 4, none⟩ = some (.slice E5 ps.length d5) := XX.cell 4
        have hltx := XX.lt
        have hltr := RX.lt
        have XH := Lib.hid XX
        have RH := Lib.hid RX
        have OLH := Lib.hid OL
        have OPH := Lib.hid OP
        have BH := Lib.hid BB
        clear XX RX OL OP BB
        go_wp2_with fail
        refine (specFormatWish (x := ⟨4, fl, 0, [], ps⟩) _ S1 S2 FF.out.1 FF.out.2.1 FF.out.2.2.1).mono ?_
        rintro e w6 ⟨rfl, b6⟩
        clear y0 y1 y2 y3 y4 S1 S2
        have R6 := RH.out.below b6 hltr
        have X6 := XH.out.below b6 hltx
        have O6 := own_below OLH.out b6
        have P6 := own_below OPH.out b6
        have B6 := BH.out.trans (b6.mono BH.out.size)
        have f0 := R6.free 0
        have f1 := R6.free 1
        have f2 := R6.free 2
        have f3 := R6.free 3
        have f4 := R6.free 4
        have hlt := R6.lt
        have hlty := X6.lt
        have c0 : w6.cell? ⟨w.heap.size, 0, none⟩ = some (.int .i64 0) := R6.cell 0
        have c1 : w6.cell? ⟨w.heap.size, 1, none⟩ = some (.int .i64 0) := R6.cell 1
        have c2 : w6.cell? ⟨w.heap.size, 2, none⟩ = some (.int .i64 0) := R6.cell 2
        have c3 : w6.cell? ⟨w.heap.size, 3, none⟩ = some (.slice none 0 0) := R6.cell 3
        have c4 : w6.cell? ⟨w.heap.size, 4, none⟩ = some (.slice none 0 0) := R6.cell 4
        have y0 : w6.cell? ⟨w3.heap.size, 0, none⟩ = some (.int .i64 4) := X6.cell 0
        have y1 : w6.cell? ⟨w3.heap.size, 1, none⟩ = some (.int .i64 fl) := X6.cell 1
        have y2 : w6.cell? ⟨w3.heap.size, 2, none⟩ = some (.int .i64 0) := X6.cell 2
        have y3 : w6.cell? ⟨w3.heap.size, 3, none⟩ = some (.slice none 0 0) := X6.cell 3
        have y4 : w6.cell? ⟨w3.heap.size, 4, none⟩ = some (.slice E5 ps.length d5) := X6.cell 4
        have BF := Lib.hid (((((B6.setCell (p := ⟨w.heap.size, 0, none⟩) (Nat.le_refl _) (.int .i64 4)).setCell (p := ⟨w.heap.size, 1, none⟩) (Nat.le_refl _) (.int .i64 fl)).setCell (p := ⟨w.heap.size, 2, none⟩) (Nat.le_refl _) (.int .i64 0)).setCell (p := ⟨w.heap.size, 3, none⟩) (Nat.le_refl _) (.slice none 0 0)).setCell (p := ⟨w.heap.size, 4, none⟩) (Nat.le_refl _) (.slice E5 ps.length d5))
        have BN := Lib.hid (((((B6.setCell (p := ⟨w.heap.size, 0, none⟩) (Nat.le_refl _) (.int .i64 0)).setCell (p := ⟨w.heap.size, 1, none⟩) (Nat.le_refl _) (.int .i64 0)).setCell (p := ⟨w.heap.size, 2, none⟩) (Nat.le_refl _) (.int .i64 0)).setCell (p := ⟨w.heap.size, 3, none⟩) (Nat.le_refl _) (.slice none 0 0)).setCell (p := ⟨w.heap.size, 4, none⟩) (Nat.le_refl _) (.slice none 0 0))
        have OF := Lib.hid (own_mono (b' := w.heap.size) (ownsRow_setCell_below (ownsRow_setCell_below (ownsRow_setCell_below (ownsRow_setCell_below (ownsRow_setCell_below O6 (a := ⟨w.heap.size, 0, none⟩) hlo (.int .i64 4)) (a := ⟨w.heap.size, 1, none⟩) hlo (.int .i64 fl)) (a := ⟨w.heap.size, 2, none⟩) hlo (.int .i64 0)) (a := ⟨w.heap.size, 3, none⟩) hlo (.slice none 0 0)) (a := ⟨w.heap.size, 4, none⟩) hlo (.slice E5 ps.length d5)) (Nat.le_of_lt hlo))
        have PF := Lib.hid (own_mono (b' := w.heap.size) (ownsRow_setCell_below (ownsRow_setCell_below (ownsRow_setCell_below (ownsRow_setCell_below (ownsRow_setCell_below P6 (a := ⟨w.heap.size, 0, none⟩) hlo (.int .i64 4)) (a := ⟨w.heap.size, 1, none⟩) hlo (.int .i64 fl)) (a := ⟨w.heap.size, 2, none⟩) hlo (.int .i64 0)) (a := ⟨w.heap.size, 3, none⟩) hlo (.slice none 0 0)) (a := ⟨w.heap.size, 4, none⟩) hlo (.slice E5 ps.length d5)) (Nat.le_of_lt hlo))
        clear R6 X6 O6 P6 B6 b6
        by_cases e : wishS ⟨4, fl, 0, [], ps⟩ = s
        · have HP := Lib.hid (HEND.out.1 e)
          have q9 := ba_yes e
          clear e HEND
          go_wp2
          refine bodyPost_ret (v := .tuple #[.agg #[.int .i64 4, .int .i64 fl, .int .i64 0, .slice none 0 0, .slice E5 ps.length d5], .bool true]) (by simp [results, Try.results25, go_sem, c0, c1, c2, c3, c4]) rfl ?_
          refine ⟨_, _, ret_wb (x := ⟨4, fl, 0, [], ps⟩) (b := true) ⟨HP.out.1.symm, HP.out.2.symm⟩, ?_, BF.out⟩
          rw [HP.out.1]
          exact ⟨OF.out, PF.out, .inl rfl⟩
        · have HP := Lib.hid (HEND.out.2 e)
          have q9 := ba_no e
          clear e HEND
          go_wp2
          refine bodyPost_ret (v := .tuple #[.agg #[.int .i64 0, .int .i64 0, .int .i64 0, .slice none 0 0, .slice none 0 0], .bool false]) (by simp [results, Try.results25, go_sem, c0, c1, c2, c3, c4]) rfl ?_
          refine ⟨_, _, ret_wb (x := zeroW) (u := .slice none 0 0) (v := .slice none 0 0) (b := false) ⟨HP.out.1.symm, HP.out.2.symm⟩, ?_, BN.out⟩
          rw [HP.out.1]; exact ownW_nil _ _
      have t4 : (a.toList == [111, 114, 100, 101, 114]) = false := lit_no n4
      have HC : Hid (candS a b ⟨#[]⟩ = ⟨0, fl, 0, [], []⟩) := by show _ = _; unfold candS; rw [if_neg n1, if_neg n2, if_neg n3, if_neg n4, hfl]
      have HEND : Hid ((wishS ⟨0, fl, 0, [], []⟩ = s → parW s = ⟨0, fl, 0, [], []⟩ ∧ parWB s = true) ∧ (wishS ⟨0, fl, 0, [], []⟩ ≠ s → parW s = zeroW ∧ parWB s = false)) := by
        have h9 := HE.out _ HCAND.out
        rw [HC.out] at h9
        exact h9
      have FF : Hid (FitW ⟨0, fl, 0, [], []⟩) := ⟨by unfold Fit; simp, FL, by unfold Fit; simp, by simp, by simp⟩
      have XX := Row.new w3 30 [.int .i64 0, .int .i64 fl, .int .i64 0, .slice none 0 0, .slice none 0 0]
      have RX := R3.out.alloc (.cells #[.int .i64 0, .int .i64 fl, .int .i64 0, .slice none 0 0, .slice none 0 0] 30)
      have BB := B3.out.alloc hlw (.cells #[.int .i64 0, .int .i64 fl, .int .i64 0, .slice none 0 0, .slice none 0 0] 30)
      have fr0 := X3.out.free 0
      have xlt := X3.out.lt
      have OL : ((w3.alloc (.cells #[.int .i64 0, .int .i64 fl, .int .i64 0, .slice none 0 0, .slice none 0 0] 30))).ownsRow (w3.heap.size + 1) 3 1 (.slice none 0 0) 0 (([] : List Int).map (Value.int .i64)) := World.ownsRow_nil _ _ _ _
      have S1 : Sl RI 1 ((w3.alloc (.cells #[.int .i64 0, .int .i64 fl, .int .i64 0, .slice none 0 0, .slice none 0 0] 30))) ((w3.alloc (.cells #[.int .i64 0, .int .i64 fl, .int .i64 0, .slice none 0 0, .slice none 0 0] 30))).heap.size none 0 0 [] := Sl.nil _ _
      have OP : ((w3.alloc (.cells #[.int .i64 0, .int .i64 fl, .int .i64 0, .slice none 0 0, .slice none 0 0] 30))).ownsRow (w3.heap.size + 1) 82 2 (.slice none 0 0) 0 (prc []) := World.ownsRow_nil _ _ _ _
      have S2 : Sl RP 2 ((w3.alloc (.cells #[.int .i64 0, .int .i64 fl, .int .i64 0, .slice none 0 0, .slice none 0 0] 30))) ((w3.alloc (.cells #[.int .i64 0, .int .i64 fl, .int .i64 0, .slice none 0 0, .slice none 0 0] 30))).heap.size none 0 0 [] := Sl.nil _ _
      clear n1 n2 n3 n4 hfl HK2
      have y0 : (w3.alloc (.cells #[.int .i64 0, .int .i64 fl, .int .i64 0, .slice none 0 0, .slice none 0 0] 30)).cell? ⟨w3.heap.size, 0, none⟩ = some (.int .i64 0) := XX.cell 0
      have y1 : (w3.alloc (.cells #[.int .i64 0, .int .i64 fl, .int .i64 0, .slice none 0 0, .slice none 0 0] 30)).cell? ⟨w3.heap.size, 1, none⟩ = some (.int .i64 fl) := XX.cell 1
      have y2 : (w3.alloc (.cells #[.int .i64 0, .int .i64 fl, .int .i64 0, .slice none 0 0, .slice none 0 0] 30)).cell? ⟨w3.heap.size, 2, none⟩ = some (.int .i64 0) := XX.cell 2
      have y3 : (w3.alloc (.cells #[.int .i64 0, .int .i64 fl, .int .i64 0, .slice none 0 0, .slice none 0 0] 30)).cell? ⟨w3.heap.size, 3, none⟩ = some (.slice none 0 0) := XX.cell 3
      have y4 : (w3.alloc (.cells #[.int .i64 0, .int .i64 fl, .int .i64 0, .slice none 0 0, .slice none 0 0] 30)).cell? ⟨w3.heap.size, 4, none⟩ = some (.slice none 0 0) := XX.cell 4
      have hltx := XX.lt
      have hltr := RX.lt
      have XH := Lib.hid XX
      have RH := Lib.hid RX
      have OLH := Lib.hid OL
      have OPH := Lib.hid OP
      have BH := Lib.hid BB
      clear XX RX OL OP BB
      go_wp2_with fail
      refine (specFormatWish (x := ⟨0, fl, 0, [], []⟩) _ S1 S2 FF.out.1 FF.out.2.1 FF.out.2.2.1).mono ?_
      rintro e w6 ⟨rfl, b6⟩
      clear y0 y1 y2 y3 y4 S1 S2
      have R6 := RH.out.below b6 hltr
      have X6 := XH.out.below b6 hltx
      have O6 := own_below OLH.out b6
      have P6 := own_below OPH.out b6
      have B6 := BH.out.trans (b6.mono BH.out.size)
      have f0 := R6.free 0
      have f1 := R6.free 1
      have f2 := R6.free 2
      have f3 := R6.free 3
      have f4 := R6.free 4
      have hlt := R6.lt
      have hlty := X6.lt
      have c0 : w6.cell? ⟨w.heap.size, 0, none⟩ = some (.int .i64 0) := R6.cell 0
      have c1 : w6.cell? ⟨w.heap.size, 1, none⟩ = some (.int .i64 0) := R6.cell 1
      have c2 : w6.cell? ⟨w.heap.size, 2, none⟩ = some (.int .i64 0) := R6.cell 2
      have c3 : w6.cell? ⟨w.heap.size, 3, none⟩ = some (.slice none 0 0) := R6.cell 3
      have c4 : w6.cell? ⟨w.heap.size, 4, none⟩ = some (.slice none 0 0) := R6.cell 4
      have y0 : w6.cell? ⟨w3.heap.size, 0, none⟩ = some (.int .i64 0) := X6.cell 0
      have y1 : w6.cell? ⟨w3.heap.size, 1, none⟩ = some (.int .i64 fl) := X6.cell 1
      have y2 : w6.cell? ⟨w3.heap.size, 2, none⟩ = some (.int .i64 0) := X6.cell 2
      have y3 : w6.cell? ⟨w3.heap.size, 3, none⟩ = some (.slice none 0 0) := X6.cell 3
      have y4 : w6.cell? ⟨w3.heap.size, 4, none⟩ = some (.slice none 0 0) := X6.cell 4
      have BF := Lib.hid (((((B6.setCell (p := ⟨w.heap.size, 0, none⟩) (Nat.le_refl _) (.int .i64 0)).setCell (p := ⟨w.heap.size, 1, none⟩) (Nat.le_refl _) (.int .i64 fl)).setCell (p := ⟨w.heap.size, 2, none⟩) (Nat.le_refl _) (.int .i64 0)).setCell (p := ⟨w.heap.size, 3, none⟩) (Nat.le_refl _) (.slice none 0 0)).setCell (p := ⟨w.heap.size, 4, none⟩) (Nat.le_refl _) (.slice none 0 0))
      have BN := Lib.hid (((((B6.setCell (p := ⟨w.heap.size, 0, none⟩) (Nat.le_refl _) (.int .i64 0)).setCell (p := ⟨w.heap.size, 1, none⟩) (Nat.le_refl _) (.int .i64 0)).setCell (p := ⟨w.heap.size, 2, none⟩) (Nat.le_refl _) (.int .i64 0)).setCell (p := ⟨w.heap.size, 3, none⟩) (Nat.le_refl _) (.slice none 0 0)).setCell (p := ⟨w.heap.size, 4, none⟩) (Nat.le_refl _) (.slice none 0 0))
      have OF := Lib.hid (own_mono (b' := w.heap.size) (ownsRow_setCell_below (ownsRow_setCell_below (ownsRow_setCell_below (ownsRow_setCell_below (ownsRow_setCell_below O6 (a := ⟨w.heap.size, 0, none⟩) hlo (.int .i64 0)) (a := ⟨w.heap.size, 1, none⟩) hlo (.int .i64 fl)) (a := ⟨w.heap.size, 2, none⟩) hlo (.int .i64 0)) (a := ⟨w.heap.size, 3, none⟩) hlo (.slice none 0 0)) (a := ⟨w.heap.size, 4, none⟩) hlo (.slice none 0 0)) (Nat.le_of_lt hlo))
      have PF := Lib.hid (own_mono (b' := w.heap.size) (ownsRow_setCell_below (ownsRow_setCell_below (ownsRow_setCell_below (ownsRow_setCell_below (ownsRow_setCell_below P6 (a := ⟨w.heap.size, 0, none⟩) hlo (.int .i64 0)) (a := ⟨w.heap.size, 1, none⟩) hlo (.int .i64 fl)) (a := ⟨w.heap.size, 2, none⟩) hlo (.int .i64 0)) (a := ⟨w.heap.size, 3, none⟩) hlo (.slice none 0 0)) (a := ⟨w.heap.size, 4, none⟩) hlo (.slice none 0 0)) (Nat.le_of_lt hlo))
      clear R6 X6 O6 P6 B6 b6
      by_cases e : wishS ⟨0, fl, 0, [], []⟩ = s
      · have HP := Lib.hid (HEND.out.1 e)
        have q9 := ba_yes e
        clear e HEND
        go_wp2
        refine bodyPost_ret (v := .tuple #[.agg #[.int .i64 0, .int .i64 fl, .int .i64 0, .slice none 0 0, .slice none 0 0], .bool true]) (by simp [results, Try.results25, go_sem, c0, c1, c2, c3, c4]) rfl ?_
        refine ⟨_, _, ret_wb (x := ⟨0, fl, 0, [], []⟩) (b := true) ⟨HP.out.1.symm, HP.out.2.symm⟩, ?_, BF.out⟩
        rw [HP.out.1]
        exact ⟨OF.out, PF.out, far_nilR _⟩
      · have HP := Lib.hid (HEND.out.2 e)
        have q9 := ba_no e
        clear e HEND
        go_wp2
        refine bodyPost_ret (v := .tuple #[.agg #[.int .i64 0, .int .i64 0, .int .i64 0, .slice none 0 0, .slice none 0 0], .bool false]) (by simp [results, Try.results25, go_sem, c0, c1, c2, c3, c4]) rfl ?_
        refine ⟨_, _, ret_wb (x := zeroW) (u := .slice none 0 0) (v := .slice none 0 0) (b := false) ⟨HP.out.1.symm, HP.out.2.symm⟩, ?_, BN.out⟩
        rw [HP.out.1]; exact ownW_nil _ _
    · obtain ⟨c9, hr1⟩ : ∃ c9, rest = [c9] := by
        match rest, hrl, hr0 with
        | [c9], _, _ => exact ⟨c9, rfl⟩
      have hm9 : m = 3 := by rw [hr1] at hm; simpa using hm.symm
      have t0 : ((m : Int) == 3) = true := by rw [hm9]; rfl
      have p5 : (2 : Int) < (m : Int) := by omega
      have HCAND : Hid (∀ x, P.okW x = true → kindW x.kind :: fldW x.field :: argW x = a :: b :: rest → candS a b c9 = x) := fun x hx h => candS_three hx (by rw [h, hr1])
      have hargs2 : c9.size ≤ 1048576 := HRC.out c9 hr1
      have hargs : c9.size ≤ maxLen := Nat.le_trans hargs2 (by decide)
      have k2 := celA (HK2.out c9 hr1) (.cells #[.int .i64 0, .int .i64 fl, .int .i64 0, .slice none 0 0, .slice none 0 0] 30)
      clear hm9 hr0
      by_cases n1 : a = kindW 1
      · have t1 : (a.toList == [104, 105, 103, 104]) = true := lit_yes n1
        have HC : Hid (candS a b c9 = ⟨1, fl, 0, [], []⟩) := by show _ = _; unfold candS; rw [if_pos n1, hfl]
        have HEND : Hid ((wishS ⟨1, fl, 0, [], []⟩ = s → parW s = ⟨1, fl, 0, [], []⟩ ∧ parWB s = true) ∧ (wishS ⟨1, fl, 0, [], []⟩ ≠ s → parW s = zeroW ∧ parWB s = false)) := by
          have h9 := HE.out _ HCAND.out
          rw [HC.out] at h9
          exact h9
        have FF : Hid (FitW ⟨1, fl, 0, [], []⟩) := ⟨by unfold Fit; simp, FL, by unfold Fit; simp, by simp, by simp⟩
        have XX := Row.new w3 30 [.int .i64 1, .int .i64 fl, .int .i64 0, .slice none 0 0, .slice none 0 0]
        have RX := R3.out.alloc (.cells #[.int .i64 1, .int .i64 fl, .int .i64 0, .slice none 0 0, .slice none 0 0] 30)
        have BB := B3.out.alloc hlw (.cells #[.int .i64 1, .int .i64 fl, .int .i64 0, .slice none 0 0, .slice none 0 0] 30)
        have fr0 := X3.out.free 0
        have xlt := X3.out.lt
        have OL : ((w3.alloc (.cells #[.int .i64 1, .int .i64 fl, .int .i64 0, .slice none 0 0, .slice none 0 0] 30))).ownsRow (w3.heap.size + 1) 3 1 (.slice none 0 0) 0 (([] : List Int).map (Value.int .i64)) := World.ownsRow_nil _ _ _ _
        have S1 : Sl RI 1 ((w3.alloc (.cells #[.int .i64 1, .int .i64 fl, .int .i64 0, .slice none 0 0, .slice none 0 0] 30))) ((w3.alloc (.cells #[.int .i64 1, .int .i64 fl, .int .i64 0, .slice none 0 0, .slice none 0 0] 30))).heap.size none 0 0 [] := Sl.nil _ _
        have OP : ((w3.alloc (.cells #[.int .i64 1, .int .i64 fl, .int .i64 0, .slice none 0 0, .slice none 0 0] 30))).ownsRow (w3.heap.size + 1) 82 2 (.slice none 0 0) 0 (prc []) := World.ownsRow_nil _ _ _ _
        have S2 : Sl RP 2 ((w3.alloc (.cells #[.int .i64 1, .int .i64 fl, .int .i64 0, .slice none 0 0, .slice none 0 0] 30))) ((w3.alloc (.cells #[.int .i64 1, .int .i64 fl, .int .i64 0, .slice none 0 0, .slice none 0 0] 30))).heap.size none 0 0 [] := Sl.nil _ _
        clear n1 hfl HK2
        have y0 : (w3.alloc (.cells #[.int .i64 1, .int .i64 fl, .int .i64 0, .slice none 0 0, .slice none 0 0] 30)).cell? ⟨w3.heap.size, 0, none⟩ = some (.int .i64 1) := XX.cell 0
        have y1 : (w3.alloc (.cells #[.int .i64 1, .int .i64 fl, .int .i64 0, .slice none 0 0, .slice none 0 0] 30)).cell? ⟨w3.heap.size, 1, none⟩ = some (.int .i64 fl) := XX.cell 1
        have y2 : (w3.alloc (.cells #[.int .i64 1, .int .i64 fl, .int .i64 0, .slice none 0 0, .slice none 0 0] 30)).cell? ⟨w3.heap.size, 2, none⟩ = some (.int .i64 0) := XX.cell 2
        have y3 : (w3.alloc (.cells #[.int .i64 1, .int .i64 fl, .int .i64 0, .slice none 0 0, .slice none 0 0] 30)).cell? ⟨w3.heap.size, 3, none⟩ = some (.slice none 0 0) := XX.cell 3
        have y4 : (w3.alloc (.cells #[.int .i64 1, .int .i64 fl, .int .i64 0, .slice none 0 0, .slice none 0 0] 30)).cell? ⟨w3.heap.size, 4, none⟩ = some (.slice none 0 0) := XX.cell 4
        have hltx := XX.lt
        have hltr := RX.lt
        have XH := Lib.hid XX
        have RH := Lib.hid RX
        have OLH := Lib.hid OL
        have OPH := Lib.hid OP
        have BH := Lib.hid BB
        clear XX RX OL OP BB
        go_wp2_with fail
        refine (specFormatWish (x := ⟨1, fl, 0, [], []⟩) _ S1 S2 FF.out.1 FF.out.2.1 FF.out.2.2.1).mono ?_
        rintro e w6 ⟨rfl, b6⟩
        clear y0 y1 y2 y3 y4 S1 S2
        have R6 := RH.out.below b6 hltr
        have X6 := XH.out.below b6 hltx
        have O6 := own_below OLH.out b6
        have P6 := own_below OPH.out b6
        have B6 := BH.out.trans (b6.mono BH.out.size)
        have f0 := R6.free 0
        have f1 := R6.free 1
        have f2 := R6.free 2
        have f3 := R6.free 3
        have f4 := R6.free 4
        have hlt := R6.lt
        have hlty := X6.lt
        have c0 : w6.cell? ⟨w.heap.size, 0, none⟩ = some (.int .i64 0) := R6.cell 0
        have c1 : w6.cell? ⟨w.heap.size, 1, none⟩ = some (.int .i64 0) := R6.cell 1
        have c2 : w6.cell? ⟨w.heap.size, 2, none⟩ = some (.int .i64 0) := R6.cell 2
        have c3 : w6.cell? ⟨w.heap.size, 3, none⟩ = some (.slice none 0 0) := R6.cell 3
        have c4 : w6.cell? ⟨w.heap.size, 4, none⟩ = some (.slice none 0 0) := R6.cell 4
        have y0 : w6.cell? ⟨w3.heap.size, 0, none⟩ = some (.int .i64 1) := X6.cell 0
        have y1 : w6.cell? ⟨w3.heap.size, 1, none⟩ = some (.int .i64 fl) := X6.cell 1
        have y2 : w6.cell? ⟨w3.heap.size, 2, none⟩ = some (.int .i64 0) := X6.cell 2
        have y3 : w6.cell? ⟨w3.heap.size, 3, none⟩ = some (.slice none 0 0) := X6.cell 3
        have y4 : w6.cell? ⟨w3.heap.size, 4, none⟩ = some (.slice none 0 0) := X6.cell 4
        have BF := Lib.hid (((((B6.setCell (p := ⟨w.heap.size, 0, none⟩) (Nat.le_refl _) (.int .i64 1)).setCell (p := ⟨w.heap.size, 1, none⟩) (Nat.le_refl _) (.int .i64 fl)).setCell (p := ⟨w.heap.size, 2, none⟩) (Nat.le_refl _) (.int .i64 0)).setCell (p := ⟨w.heap.size, 3, none⟩) (Nat.le_refl _) (.slice none 0 0)).setCell (p := ⟨w.heap.size, 4, none⟩) (Nat.le_refl _) (.slice none 0 0))
        have BN := Lib.hid (((((B6.setCell (p := ⟨w.heap.size, 0, none⟩) (Nat.le_refl _) (.int .i64 0)).setCell (p := ⟨w.heap.size, 1, none⟩) (Nat.le_refl _) (.int .i64 0)).setCell (p := ⟨w.heap.size, 2, none⟩) (Nat.le_refl _) (.int .i64 0)).setCell (p := ⟨w.heap.size, 3, none⟩) (Nat.le_refl _) (.slice none 0 0)).setCell (p := ⟨w.heap.size, 4, none⟩) (Nat.le_refl _) (.slice none 0 0))
        have OF := Lib.hid (own_mono (b' := w.heap.size) (ownsRow_setCell_below (ownsRow_setCell_below (ownsRow_setCell_below (ownsRow_setCell_below (ownsRow_setCell_below O6 (a := ⟨w.heap.size, 0, none⟩) hlo (.int .i64 1)) (a := ⟨w.heap.size, 1, none⟩) hlo (.int .i64 fl)) (a := ⟨w.heap.size, 2, none⟩) hlo (.int .i64 0)) (a := ⟨w.heap.size, 3, none⟩) hlo (.slice none 0 0)) (a := ⟨w.heap.size, 4, none⟩) hlo (.slice none 0 0)) (Nat.le_of_lt hlo))
        have PF := Lib.hid (own_mono (b' := w.heap.size) (ownsRow_setCell_below (ownsRow_setCell_below (ownsRow_setCell_below (ownsRow_setCell_below (ownsRow_setCell_below P6 (a := ⟨w.heap.size, 0, none⟩) hlo (.int .i64 1)) (a := ⟨w.heap.size, 1, none⟩) hlo (.int .i64 fl)) (a := ⟨w.heap.size, 2, none⟩) hlo (.int .i64 0)) (a := ⟨w.heap.size, 3, none⟩) hlo (.slice none 0 0)) (a := ⟨w.heap.size, 4, none⟩) hlo (.slice none 0 0)) (Nat.le_of_lt hlo))
        clear R6 X6 O6 P6 B6 b6
        by_cases e : wishS ⟨1, fl, 0, [], []⟩ = s
        · have HP := Lib.hid (HEND.out.1 e)
          have q9 := ba_yes e
          clear e HEND
          go_wp2
          refine bodyPost_ret (v := .tuple #[.agg #[.int .i64 1, .int .i64 fl, .int .i64 0, .slice none 0 0, .slice none 0 0], .bool true]) (by simp [results, Try.results25, go_sem, c0, c1, c2, c3, c4]) rfl ?_
          refine ⟨_, _, ret_wb (x := ⟨1, fl, 0, [], []⟩) (b := true) ⟨HP.out.1.symm, HP.out.2.symm⟩, ?_, BF.out⟩
          rw [HP.out.1]
          exact ⟨OF.out, PF.out, far_nilR _⟩
        · have HP := Lib.hid (HEND.out.2 e)
          have q9 := ba_no e
          clear e HEND
          go_wp2
          refine bodyPost_ret (v := .tuple #[.agg #[.int .i64 0, .int .i64 0, .int .i64 0, .slice none 0 0, .slice none 0 0], .bool false]) (by simp [results, Try.results25, go_sem, c0, c1, c2, c3, c4]) rfl ?_
          refine ⟨_, _, ret_wb (x := zeroW) (u := .slice none 0 0) (v := .slice none 0 0) (b := false) ⟨HP.out.1.symm, HP.out.2.symm⟩, ?_, BN.out⟩
          rw [HP.out.1]; exact ownW_nil _ _
      have t1 : (a.toList == [104, 105, 103, 104]) = false := lit_no n1
      by_cases n2 : a = kindW 2
      · have t2 : (a.toList == [110, 101, 97, 114]) = true := lit_yes n2
        have X4 := Row.new w3 30 [.int .i64 2, .int .i64 fl, .int .i64 0, .slice none 0 0, .slice none 0 0]
        have R4 := R3.out.alloc (.cells #[.int .i64 2, .int .i64 fl, .int .i64 0, .slice none 0 0, .slice none 0 0] 30)
        have B4 := B3.out.alloc hlw (.cells #[.int .i64 2, .int .i64 fl, .int .i64 0, .slice none 0 0, .slice none 0 0] 30)
        have fr0 := X3.out.free 0
        have xlt := X3.out.lt
        have zW : ((w3.alloc (.cells #[.int .i64 2, .int .i64 fl, .int .i64 0, .slice none 0 0, .slice none 0 0] 30))).heap.size = w3.heap.size + 1 := by simp
        have HC0 : Hid (candS a b c9 = ⟨2, fl, l2N c9, [], []⟩) := by show _ = _; unfold candS; rw [if_neg n1, if_pos n2, hfl]
        clear n1 n2 hfl HK2
        go_wp2_with fail
        refine (l2Num _ hargs).mono ?_
        rintro e w5 ⟨rfl, b5⟩
        obtain ⟨nv, hnv⟩ : ∃ nv, l2N c9 = nv := ⟨_, rfl⟩
        have FN : Fit nv := by rw [← hnv]; exact l2N_fit _
        rw [hnv] at HC0 ⊢
        have HC := HC0
        have z5 := b5.size
        rw [zW] at z5
        have X5 := X4.below b5 X4.lt
        have R5 := R4.below b5 R4.lt
        have B5 := B4.trans (b5.mono B4.size)
        have fr2 := X5.free 2
        have xc2 : w5.cell? ⟨w3.heap.size, 2, none⟩ = some (.int .i64 0) := X5.cell 2
        have xlt5 := X5.lt
        have XX : Row (w5.setCell ⟨w3.heap.size, 2, none⟩ (.int .i64 nv)) w3.heap.size 30 [.int .i64 2, .int .i64 fl, .int .i64 nv, .slice none 0 0, .slice none 0 0] := X5.set 2 (.int .i64 nv)
        have RX := R5.far (p := ⟨w3.heap.size, 2, none⟩) (by show w.heap.size ≠ w3.heap.size; omega) (.int .i64 nv)
        have BB := B5.setCell (p := ⟨w3.heap.size, 2, none⟩) (by show w.heap.size ≤ w3.heap.size; omega) (.int .i64 nv)
        have HEND : Hid ((wishS ⟨2, fl, nv, [], []⟩ = s → parW s = ⟨2, fl, nv, [], []⟩ ∧ parWB s = true) ∧ (wishS ⟨2, fl, nv, [], []⟩ ≠ s → parW s = zeroW ∧ parWB s = false)) := by
          have h9 := HE.out _ HCAND.out
          rw [HC.out] at h9
          exact h9
        have FF : Hid (FitW ⟨2, fl, nv, [], []⟩) := ⟨by unfold Fit; simp, FL, FN, by simp, by simp⟩
        have OL : ((w5.setCell ⟨w3.heap.size, 2, none⟩ (.int .i64 nv))).ownsRow (w3.heap.size + 1) 3 1 (.slice none 0 0) 0 (([] : List Int).map (Value.int .i64)) := World.ownsRow_nil _ _ _ _
        have S1 : Sl RI 1 ((w5.setCell ⟨w3.heap.size, 2, none⟩ (.int .i64 nv))) ((w5.setCell ⟨w3.heap.size, 2, none⟩ (.int .i64 nv))).heap.size none 0 0 [] := Sl.nil _ _
        have OP : ((w5.setCell ⟨w3.heap.size, 2, none⟩ (.int .i64 nv))).ownsRow (w3.heap.size + 1) 82 2 (.slice none 0 0) 0 (prc []) := World.ownsRow_nil _ _ _ _
        have S2 : Sl RP 2 ((w5.setCell ⟨w3.heap.size, 2, none⟩ (.int .i64 nv))) ((w5.setCell ⟨w3.heap.size, 2, none⟩ (.int .i64 nv))).heap.size none 0 0 [] := Sl.nil _ _
        clear X5 R5 B5 b5 X4 R4 B4 hnv
        have y0 : (w5.setCell ⟨w3.heap.size, 2, none⟩ (.int .i64 nv)).cell? ⟨w3.heap.size, 0, none⟩ = some (.int .i64 2) := XX.cell 0
        have y1 : (w5.setCell ⟨w3.heap.size, 2, none⟩ (.int .i64 nv)).cell? ⟨w3.heap.size, 1, none⟩ = some (.int .i64 fl) := XX.cell 1
        have y2 : (w5.setCell ⟨w3.heap.size, 2, none⟩ (.int .i64 nv)).cell? ⟨w3.heap.size, 2, none⟩ = some (.int .i64 nv) := XX.cell 2
        have y3 : (w5.setCell ⟨w3.heap.size, 2, none⟩ (.int .i64 nv)).cell? ⟨w3.heap.size, 3, none⟩ = some (.slice none 0 0) := XX.cell 3
        have y4 : (w5.setCell ⟨w3.heap.size, 2, none⟩ (.int .i64 nv)).cell? ⟨w3.heap.size, 4, none⟩ = some (.slice none 0 0) := XX.cell 4
        have hltx := XX.lt
        have hltr := RX.lt
        have XH := Lib.hid XX
        have RH := Lib.hid RX
        have OLH := Lib.hid OL
        have OPH := Lib.hid OP
        have BH := Lib.hid BB
        clear XX RX OL OP BB
        go_wp2_with fail
        refine (specFormatWish (x := ⟨2, fl, nv, [], []⟩) _ S1 S2 FF.out.1 FF.out.2.1 FF.out.2.2.1).mono ?_
        rintro e w6 ⟨rfl, b6⟩
        clear y0 y1 y2 y3 y4 S1 S2
        have R6 := RH.out.below b6 hltr
        have X6 := XH.out.below b6 hltx
        have O6 := own_below OLH.out b6
        have P6 := own_below OPH.out b6
        have B6 := BH.out.trans (b6.mono BH.out.size)
        have f0 := R6.free 0
        have f1 := R6.free 1
        have f2 := R6.free 2
        have f3 := R6.free 3
        have f4 := R6.free 4
        have hlt := R6.lt
        have hlty := X6.lt
        have c0 : w6.cell? ⟨w.heap.size, 0, none⟩ = some (.int .i64 0) := R6.cell 0
        have c1 : w6.cell? ⟨w.heap.size, 1, none⟩ = some (.int .i64 0) := R6.cell 1
        have c2 : w6.cell? ⟨w.heap.size, 2, none⟩ = some (.int .i64 0) := R6.cell 2
        have c3 : w6.cell? ⟨w.heap.size, 3, none⟩ = some (.slice none 0 0) := R6.cell 3
        have c4 : w6.cell? ⟨w.heap.size, 4, none⟩ = some (.slice none 0 0) := R6.cell 4
        have y0 : w6.cell? ⟨w3.heap.size, 0, none⟩ = some (.int .i64 2) := X6.cell 0
        have y1 : w6.cell? ⟨w3.heap.size, 1, none⟩ = some (.int .i64 fl) := X6.cell 1
        have y2 : w6.cell? ⟨w3.heap.size, 2, none⟩ = some (.int .i64 nv) := X6.cell 2
        have y3 : w6.cell? ⟨w3.heap.size, 3, none⟩ = some (.slice none 0 0) := X6.cell 3
        have y4 : w6.cell? ⟨w3.heap.size, 4, none⟩ = some (.slice none 0 0) := X6.cell 4
        have BF := Lib.hid (((((B6.setCell (p := ⟨w.heap.size, 0, none⟩) (Nat.le_refl _) (.int .i64 2)).setCell (p := ⟨w.heap.size, 1, none⟩) (Nat.le_refl _) (.int .i64 fl)).setCell (p := ⟨w.heap.size, 2, none⟩) (Nat.le_refl _) (.int .i64 nv)).setCell (p := ⟨w.heap.size, 3, none⟩) (Nat.le_refl _) (.slice none 0 0)).setCell (p := ⟨w.heap.size, 4, none⟩) (Nat.le_refl _) (.slice none 0 0))
        have BN := Lib.hid (((((B6.setCell (p := ⟨w.heap.size, 0, none⟩) (Nat.le_refl _) (.int .i64 0)).setCell (p := ⟨w.heap.size, 1, none⟩) (Nat.le_refl _) (.int .i64 0)).setCell (p := ⟨w.heap.size, 2, none⟩) (Nat.le_refl _) (.int .i64 0)).setCell (p := ⟨w.heap.size, 3, none⟩) (Nat.le_refl _) (.slice none 0 0)).setCell (p := ⟨w.heap.size, 4, none⟩) (Nat.le_refl _) (.slice none 0 0))
        have OF := Lib.hid (own_mono (b' := w.heap.size) (ownsRow_setCell_below (ownsRow_setCell_below (ownsRow_setCell_below (ownsRow_setCell_below (ownsRow_setCell_below O6 (a := ⟨w.heap.size, 0, none⟩) hlo (.int .i64 2)) (a := ⟨w.heap.size, 1, none⟩) hlo (.int .i64 fl)) (a := ⟨w.heap.size, 2, none⟩) hlo (.int .i64 nv)) (a := ⟨w.heap.size, 3, none⟩) hlo (.slice none 0 0)) (a := ⟨w.heap.size, 4, none⟩) hlo (.slice none 0 0)) (Nat.le_of_lt hlo))
        have PF := Lib.hid (own_mono (b' := w.heap.size) (ownsRow_setCell_below (ownsRow_setCell_below (ownsRow_setCell_below (ownsRow_setCell_below (ownsRow_setCell_below P6 (a := ⟨w.heap.size, 0, none⟩) hlo (.int .i64 2)) (a := ⟨w.heap.size, 1, none⟩) hlo (.int .i64 fl)) (a := ⟨w.heap.size, 2, none⟩) hlo (.int .i64 nv)) (a := ⟨w.heap.size, 3, none⟩) hlo (.slice none 0 0)) (a := ⟨w.heap.size, 4, none⟩) hlo (.slice none 0 0)) (Nat.le_of_lt hlo))
        clear R6 X6 O6 P6 B6 b6
        by_cases e : wishS ⟨2, fl, nv, [], []⟩ = s
        · have HP := Lib.hid (HEND.out.1 e)
          have q9 := ba_yes e
          clear e HEND
          go_wp2
          refine bodyPost_ret (v := .tuple #[.agg #[.int .i64 2, .int .i64 fl, .int .i64 nv, .slice none 0 0, .slice none 0 0], .bool true]) (by simp [results, Try.results25, go_sem, c0, c1, c2, c3, c4]) rfl ?_
          refine ⟨_, _, ret_wb (x := ⟨2, fl, nv, [], []⟩) (b := true) ⟨HP.out.1.symm, HP.out.2.symm⟩, ?_, BF.out⟩
          rw [HP.out.1]
          exact ⟨OF.out, PF.out, far_nilR _⟩
        · have HP := Lib.hid (HEND.out.2 e)
          have q9 := ba_no e
          clear e HEND
          go_wp2
          refine bodyPost_ret (v := .tuple #[.agg #[.int .i64 0, .int .i64 0, .int .i64 0, .slice none 0 0, .slice none 0 0], .bool false]) (by simp [results, Try.results25, go_sem, c0, c1, c2, c3, c4]) rfl ?_
          refine ⟨_, _, ret_wb (x := zeroW) (u := .slice none 0 0) (v := .slice none 0 0) (b := false) ⟨HP.out.1.symm, HP.out.2.symm⟩, ?_, BN.out⟩
          rw [HP.out.1]; exact ownW_nil _ _
      have t2 : (a.toList == [110, 101, 97, 114]) = false := lit_no n2
      by_cases n3 : a = kindW 3
      · have t3 : (a.toList == [97, 109, 111, 110, 103]) = true := lit_yes n3
        have X4 := Row.new w3 30 [.int .i64 3, .int .i64 fl, .int .i64 0, .slice none 0 0, .slice none 0 0]
        have R4 := R3.out.alloc (.cells #[.int .i64 3, .int .i64 fl, .int .i64 0, .slice none 0 0, .slice none 0 0] 30)
        have B4 := B3.out.alloc hlw (.cells #[.int .i64 3, .int .i64 fl, .int .i64 0, .slice none 0 0, .slice none 0 0] 30)
        have fr0 := X3.out.free 0
        have xlt := X3.out.lt
        have zW : ((w3.alloc (.cells #[.int .i64 3, .int .i64 fl, .int .i64 0, .slice none 0 0, .slice none 0 0] 30))).heap.size = w3.heap.size + 1 := by simp
        have HC0 : Hid (candS a b c9 = ⟨3, fl, 0, rdL c9, []⟩) := by show _ = _; unfold candS; rw [if_neg n1, if_neg n2, if_pos n3, hfl]
        clear n1 n2 n3 hfl HK2
        have HCL := Lib.hid (P.cut_len c9 ⟨#[44]⟩)
        have HX1 := Lib.hid (P.cut_size c9 ⟨#[44]⟩)
        go_wp2_with fail
        refine (l2Cut _ (b := 44) hargs2).mono ?_
        rintro e w4 ⟨vp, rfl, hP, b4⟩
        have z4 := b4.size
        rw [zW] at z4
        have X5 := X4.below b4 X4.lt
        have R5 := R4.below b4 R4.lt
        have B5 := B4.trans (b4.mono B4.size)
        have hP1 := hP.1
        rw [zW] at hP1
        have hP1 := Lib.hid hP1
        have hP2 := Lib.hid hP.2
        obtain ⟨A2, c2, rfl, _, _⟩ := own_form hP.1
        obtain ⟨n, hn⟩ : ∃ n, (P.cut c9 ⟨#[44]⟩).length = n := ⟨_, rfl⟩
        have HL := Lib.hid hn
        have hn1 : n ≤ 1048577 := by have := HL.out; have := HCL.out; omega
        obtain ⟨rl, hrl9⟩ : ∃ rl, Hid (rdL c9 = rl) := ⟨_, rfl⟩
        have HRL : Hid (rl.length = n) := by show _ = _; rw [← hrl9.out]; unfold rdL; rw [List.length_map, HL.out]
        have HRF : Hid (∀ y ∈ rl, Fit y) := by
          show ∀ y ∈ rl, Fit y
          rw [← hrl9.out]
          intro y hy
          unfold rdL at hy
          obtain ⟨t, _, rfl⟩ := List.mem_map.1 hy
          exact l2N_fit _
        have XR4 := Lib.hid X5
        have RR4 := Lib.hid R5
        have BR4 := Lib.hid B5
        clear hP b4 X5 R5 B5 X4 R4 B4
        rw [hn]
        rw [hn] at hP1 hP2
        go_wp2
        go_loopw [8] (fun vi wr => ∃ (k : Nat) (A5 : Option Addr) (c5 : Nat), k ≤ n ∧ vi = .int .i64 k ∧ Hid (wr.ownsRow w4.heap.size 3 1 (.slice A5 k c5) k ((rl.take k).map (Value.int .i64))) ∧ Hid (wr.ownsRow (w3.heap.size + 1) 9 1 (.slice A2 n c2) n ((P.cut c9 ⟨#[44]⟩).map Value.string)) ∧ Hid (Row wr w3.heap.size 30 [.int .i64 3, .int .i64 fl, .int .i64 0, .slice A5 k c5, .slice none 0 0]) ∧ Hid (Row wr w.heap.size 30 [.int .i64 0, .int .i64 0, .int .i64 0, .slice none 0 0, .slice none 0 0]) ∧ w4.heap.size ≤ wr.heap.size ∧ Below w.heap.size w wr) (fun vi _ => n - (intOf vi).toNat)
        case atStart => exact ⟨0, none, 0, Nat.zero_le _, rfl, World.ownsRow_nil _ _ _ _, hP1, XR4, RR4, Nat.le_refl _, BR4.out⟩
        case round =>
          clear hP1 XR4 RR4 BR4
          obtain ⟨k, A5, c5, hk, rfl, hown, hpr, hXr, hRr, hw4, hbw⟩ := hrel
          by_cases hlt : k < n
          · obtain ⟨A', n', c', e', hS⟩ := own_strs (xs := P.cut c9 ⟨#[44]⟩) (by rw [HL.out]; exact hpr.out) (fun x hx => by have := HX1.out x hx; unfold maxLen; omega)
            injection e' with e1 e2 e3
            subst e1 e2 e3
            obtain ⟨bt, ot, t, rfl, hbt, hxt, _, hct⟩ := hS.str hlt
            have hnc3 := hS.le
            have q1' : (k : Int) < (n : Int) := by omega
            have q2' : (n : Int) ≤ (c2 : Int) := by omega
            have hts : t.size ≤ maxLen := by have := HX1.out t (List.mem_of_getElem? hxt); unfold maxLen; omega
            have HT : Hid (rl[k]? = some (l2N t)) := by show _ = _; rw [← hrl9.out]; unfold rdL; rw [List.getElem?_map, hxt]; rfl
            obtain ⟨hbtl, hbth⟩ : w3.heap.size + 1 ≤ bt ∧ bt < w4.heap.size := ⟨(hpr.out.lt bt rfl).1, hP2.out bt rfl⟩
            have C0 : wr.drew.cell? ⟨bt, ot + k, none⟩ = some (.string t) := hct
            have xl := hXr.out.lt
            have x1c : wr.drew.cell? ⟨w3.heap.size, 3, none⟩ = some (.slice A5 k c5) := hXr.out.cell 3
            have hrow : ∀ q, (Value.slice A5 k c5).ownBlock = some q → w4.heap.size ≤ q := fun q hq => (hown.out.lt q hq).1
            have h63 : k + 1 ≤ maxLen := by unfold maxLen; omega
            have hby : (k + 1) * 8 ≤ 140737488355328 := by omega
            clear hS hxt hct
            go_wp2_with fail
            refine wp_region_T 8 (fun w' => w'.cell? ⟨w3.heap.size, 3, none⟩ = some (.slice A5 k c5) ∧ w'.cell? ⟨bt, ot + k, none⟩ = some (.string t)) (by kernel_rfl) ⟨x1c, C0⟩ (fun hC => ?_)
            refine wpAnyT_take (i := 0) (v := ?v9_0y) rfl (by kernel_rfl) (fun _ _ _ h => h) (Or.inl ⟨by rfl, ?h9_0y⟩) (by assumption) ?r9_0y; (case h9_0y => (intro w9 hC9; (try dsimp only at hC9); go_simp; (try with_reducible rfl))); (try simp only [Act.put, List.setIfInBounds_toArray, List.set_cons_zero, List.set_cons_succ])
            refine wpAnyT_take (i := 1) (v := ?v9_1y) rfl (by kernel_rfl) (fun _ _ _ h => h) (Or.inl ⟨by rfl, ?h9_1y⟩) (by assumption) ?r9_1y; (case h9_1y => (intro w9 hC9; (try dsimp only at hC9); go_simp; (try with_reducible rfl))); (try simp only [Act.put, List.setIfInBounds_toArray, List.set_cons_zero, List.set_cons_succ])
            refine wpAnyT_take (i := 2) (v := ?v9_2y) rfl (by kernel_rfl) (fun _ _ _ h => h) (Or.inl ⟨by rfl, ?h9_2y⟩) (by assumption) ?r9_2y; (case h9_2y => (intro w9 hC9; (try dsimp only at hC9); go_simp; (try with_reducible rfl))); (try simp only [Act.put, List.setIfInBounds_toArray, List.set_cons_zero, List.set_cons_succ])
            refine wpAnyT_take (i := 3) (v := ?v9_3y) rfl (by kernel_rfl) (fun _ _ _ h => h) (Or.inl ⟨by rfl, ?h9_3y⟩) (by assumption) ?r9_3y; (case h9_3y => (intro w9 hC9; (try dsimp only at hC9); go_simp; (try with_reducible rfl))); (try simp only [Act.put, List.setIfInBounds_toArray, List.set_cons_zero, List.set_cons_succ])
            refine wpAnyT_take (i := 4) (v := ?v9_4y) rfl (by kernel_rfl) (fun _ _ _ h => h) (Or.inl ⟨by rfl, ?h9_4y⟩) (by assumption) ?r9_4y; (case h9_4y => (intro w9 hC9; (try dsimp only at hC9); go_simp; (try with_reducible rfl))); (try simp only [Act.put, List.setIfInBounds_toArray, List.set_cons_zero, List.set_cons_succ])
            refine wpAnyT_take (i := 5) (v := ?v9_5y) rfl (by kernel_rfl) (fun _ _ _ h => h) (Or.inl ⟨by rfl, ?h9_5y⟩) (by assumption) ?r9_5y; (case h9_5y => (intro w9 hC9; (try dsimp only at hC9); go_simp; (try with_reducible rfl))); (try simp only [Act.put, List.setIfInBounds_toArray, List.set_cons_zero, List.set_cons_succ])
            refine wpAnyT_rest 6 (by kernel_rfl) ?_; simp only [List.drop_succ_cons, List.drop_zero]
            refine wpListT_step rfl ?_
            go_wp2_with fail
            refine (l2Num _ hts).mono ?_
            rintro e w8 ⟨rfl, b8⟩
            have x8 := celB x1c b8 (by simp; omega)
            have C8 := celB C0 b8 (by simp; omega)
            have s8 := b8.size
            go_wp2
            refine ⟨fun _ => ⟨x8, C8⟩, ?_⟩
            refine wpListT_step rfl ?_
            go_wp2
            refine ⟨fun _ => ⟨celA x8 _, celA C8 _⟩, ?_⟩
            refine wpListT_end (by decide) rfl ?_
            have b8' := below_dr76 b8
            have hwr8 := b8'.size
            have hown8 := Lib.hid (own_below hown.out b8')
            have hpr8 := Lib.hid (own_below hpr.out b8')
            have hX8 := Lib.hid ((hXr.out.below b8' xl).alloc (.cells #[.int .i64 (l2N t)] 3))
            have hR8 := Lib.hid ((hRr.out.below b8' hRr.out.lt).alloc (.cells #[.int .i64 (l2N t)] 3))
            have hbw8 := Lib.hid ((hbw.trans (b8'.mono hbw.size)).alloc (by have := hbw.size; omega) (.cells #[.int .i64 (l2N t)] 3))
            clear b8 x8 C8
            go_wp2_with (at_builtin; refine wpList_append_own _ rfl _ _ 22 rfl w4.heap.size 3 i0 (.int .i64 0) 1 8 Try.underlying22 hi hz0 hz1 hz2 rfl (by decide) _ _ _ rfl (hown8.out.alloc _) ⟨w8.heap.size, 0, none⟩ 1 1 [_] rfl rfl (one_new _ _ _) (by simp [Value.oneCell']) (by unfold maxLen; omega) (by omega) (by simp; omega) ?_)
            intro v' w9 hown9 hgrow _
            obtain ⟨A9, c9, rfl, _, _⟩ := own_form hown9
            have hX9 := hX8.out.grown hgrow (fun e => by have := hrow _ e.symm; omega)
            have hR9 := hR8.out.grown hgrow (fun e => by have := hrow _ e.symm; have := hRr.out.lt; have := hbw.size; omega)
            have hpr9 := own_grown (hpr8.out.alloc _) hgrow (fun g hg e => by have := hrow g e.symm; have := hP2.out g hg; omega)
            have hB9 := Lib.hid (hbw8.out.grown hgrow (by have := hbw.size; simp; omega) (fun q hq => by have := hrow q hq; have := hbw.size; omega))
            have f1 := hX9.free 3
            have y1 : w9.cell? ⟨w3.heap.size, 3, none⟩ = some (.slice A5 k c5) := hX9.cell 3
            have hlt9 := hX9.lt
            have hs9 := hgrow.size
            simp at hs9
            have X10 : Hid (Row (w9.setCell ⟨w3.heap.size, 3, none⟩ (.slice A9 (k + 1) c9)) w3.heap.size 30 [.int .i64 3, .int .i64 fl, .int .i64 0, .slice A9 (k + 1) c9, .slice none 0 0]) := hX9.set 3 _
            have R10 : Hid (Row (w9.setCell ⟨w3.heap.size, 3, none⟩ (.slice A9 (k + 1) c9)) w.heap.size 30 [.int .i64 0, .int .i64 0, .int .i64 0, .slice none 0 0, .slice none 0 0]) := hR9.far (by show w.heap.size ≠ w3.heap.size; omega) _
            have P10 := Lib.hid (ownsRow_setCell_below hpr9 (a := ⟨w3.heap.size, 3, none⟩) (by show w3.heap.size < _; omega) (.slice A9 (k + 1) c9))
            have O10 : Hid ((w9.setCell ⟨w3.heap.size, 3, none⟩ (.slice A9 (k + 1) c9)).ownsRow w4.heap.size 3 1 (.slice A9 (k + 1) c9) (k + 1) ((rl.take (k + 1)).map (Value.int .i64))) := by
              have := ownsRow_setCell_below hown9 (a := ⟨w3.heap.size, 3, none⟩) (by show w3.heap.size < _; omega) (.slice A9 (k + 1) c9)
              obtain ⟨hl9, e9⟩ := List.getElem?_eq_some_iff.1 HT.out
              show World.ownsRow _ _ _ _ _ _ _
              rw [List.take_succ_eq_append_getElem hl9, e9, List.map_append, List.map_take]
              exact this
            have B10 := Lib.hid (hB9.out.setCell (p := ⟨w3.heap.size, 3, none⟩) (by show w.heap.size ≤ w3.heap.size; omega) (.slice A9 (k + 1) c9))
            clear hX9 hR9 hpr9 hown9 hgrow hbw
            go_wp2
            go_roundw
            case rel => exact ⟨k + 1, A9, c9, by omega, by go_num, O10.out, P10.out, X10.out, R10.out, by simp; omega, B10.out⟩
            case measure => simp [intOf]; omega
          · have hkn : k = n := by omega
            subst hkn
            have q1' : ¬ (k : Int) < (k : Int) := by omega
            have OL := hown.out
            have HR9 := HRL.out
            rw [List.take_of_length_le (by omega)] at OL
            have XX := hXr.out
            have RX := hRr.out
            have BB := hbw
            have hlo4 : w3.heap.size + 1 ≤ w4.heap.size := z4
            have OL := own_mono (b' := w3.heap.size + 1) OL hlo4
            rw [← HR9] at OL XX
            have HC : Hid (candS a b c9 = ⟨3, fl, 0, rl, []⟩) := by show _ = _; rw [HC0.out, hrl9.out]
            have S1 : Sl RI 1 wr wr.heap.size A5 rl.length c5 rl := by
              obtain ⟨A', n', c', e', hS⟩ := own_ints OL HRF.out
              injection e' with e1 e2 e3
              subst e1 e2 e3
              exact hS
            have FF : Hid (FitW ⟨3, fl, 0, rl, []⟩) := ⟨by unfold Fit; simp, FL, by unfold Fit; simp, HRF.out, by simp⟩
            have HKL : Hid (k = rl.length) := HR9.symm
            clear hown hXr hRr hpr hbw HR9
            have HEND : Hid ((wishS ⟨3, fl, 0, rl, []⟩ = s → parW s = ⟨3, fl, 0, rl, []⟩ ∧ parWB s = true) ∧ (wishS ⟨3, fl, 0, rl, []⟩ ≠ s → parW s = zeroW ∧ parWB s = false)) := by
              have h9 := HE.out _ HCAND.out
              rw [HC.out] at h9
              exact h9
            have OP : (wr).ownsRow (w3.heap.size + 1) 82 2 (.slice none 0 0) 0 (prc []) := World.ownsRow_nil _ _ _ _
            have S2 : Sl RP 2 (wr) (wr).heap.size none 0 0 [] := Sl.nil _ _
            have y0 : wr.cell? ⟨w3.heap.size, 0, none⟩ = some (.int .i64 3) := XX.cell 0
            have y1 : wr.cell? ⟨w3.heap.size, 1, none⟩ = some (.int .i64 fl) := XX.cell 1
            have y2 : wr.cell? ⟨w3.heap.size, 2, none⟩ = some (.int .i64 0) := XX.cell 2
            have y3 : wr.cell? ⟨w3.heap.size, 3, none⟩ = some (.slice A5 rl.length c5) := XX.cell 3
            have y4 : wr.cell? ⟨w3.heap.size, 4, none⟩ = some (.slice none 0 0) := XX.cell 4
            have hltx := XX.lt
            have hltr := RX.lt
            have XH := Lib.hid XX
            have RH := Lib.hid RX
            have OLH := Lib.hid OL
            have OPH := Lib.hid OP
            have BH := Lib.hid BB
            clear XX RX OL OP BB
            go_wp2_with fail
            refine (specFormatWish (x := ⟨3, fl, 0, rl, []⟩) _ S1 S2 FF.out.1 FF.out.2.1 FF.out.2.2.1).mono ?_
            rintro e w6 ⟨rfl, b6⟩
            clear y0 y1 y2 y3 y4 S1 S2
            have R6 := RH.out.below b6 hltr
            have X6 := XH.out.below b6 hltx
            have O6 := own_below OLH.out b6
            have P6 := own_below OPH.out b6
            have B6 := BH.out.trans (b6.mono BH.out.size)
            have f0 := R6.free 0
            have f1 := R6.free 1
            have f2 := R6.free 2
            have f3 := R6.free 3
            have f4 := R6.free 4
            have hlt := R6.lt
            have hlty := X6.lt
            have c0 : w6.cell? ⟨w.heap.size, 0, none⟩ = some (.int .i64 0) := R6.cell 0
            have c1 : w6.cell? ⟨w.heap.size, 1, none⟩ = some (.int .i64 0) := R6.cell 1
            have c2 : w6.cell? ⟨w.heap.size, 2, none⟩ = some (.int .i64 0) := R6.cell 2
            have c3 : w6.cell? ⟨w.heap.size, 3, none⟩ = some (.slice none 0 0) := R6.cell 3
            have c4 : w6.cell? ⟨w.heap.size, 4, none⟩ = some (.slice none 0 0) := R6.cell 4
            have y0 : w6.cell? ⟨w3.heap.size, 0, none⟩ = some (.int .i64 3) := X6.cell 0
            have y1 : w6.cell? ⟨w3.heap.size, 1, none⟩ = some (.int .i64 fl) := X6.cell 1
            have y2 : w6.cell? ⟨w3.heap.size, 2, none⟩ = some (.int .i64 0) := X6.cell 2
            have y3 : w6.cell? ⟨w3.heap.size, 3, none⟩ = some (.slice A5 rl.length c5) := X6.cell 3
            have y4 : w6.cell? ⟨w3.heap.size, 4, none⟩ = some (.slice none 0 0) := X6.cell 4
            have BF := Lib.hid (((((B6.setCell (p := ⟨w.heap.size, 0, none⟩) (Nat.le_refl _) (.int .i64 3)).setCell (p := ⟨w.heap.size, 1, none⟩) (Nat.le_refl _) (.int .i64 fl)).setCell (p := ⟨w.heap.size, 2, none⟩) (Nat.le_refl _) (.int .i64 0)).setCell (p := ⟨w.heap.size, 3, none⟩) (Nat.le_refl _) (.slice A5 rl.length c5)).setCell (p := ⟨w.heap.size, 4, none⟩) (Nat.le_refl _) (.slice none 0 0))
            have BN := Lib.hid (((((B6.setCell (p := ⟨w.heap.size, 0, none⟩) (Nat.le_refl _) (.int .i64 0)).setCell (p := ⟨w.heap.size, 1, none⟩) (Nat.le_refl _) (.int .i64 0)).setCell (p := ⟨w.heap.size, 2, none⟩) (Nat.le_refl _) (.int .i64 0)).setCell (p := ⟨w.heap.size, 3, none⟩) (Nat.le_refl _) (.slice none 0 0)).setCell (p := ⟨w.heap.size, 4, none⟩) (Nat.le_refl _) (.slice none 0 0))
            have OF := Lib.hid (own_mono (b' := w.heap.size) (ownsRow_setCell_below (ownsRow_setCell_below (ownsRow_setCell_below (ownsRow_setCell_below (ownsRow_setCell_below O6 (a := ⟨w.heap.size, 0, none⟩) hlo (.int .i64 3)) (a := ⟨w.heap.size, 1, none⟩) hlo (.int .i64 fl)) (a := ⟨w.heap.size, 2, none⟩) hlo (.int .i64 0)) (a := ⟨w.heap.size, 3, none⟩) hlo (.slice A5 rl.length c5)) (a := ⟨w.heap.size, 4, none⟩) hlo (.slice none 0 0)) (Nat.le_of_lt hlo))
            have PF := Lib.hid (own_mono (b' := w.heap.size) (ownsRow_setCell_below (ownsRow_setCell_below (ownsRow_setCell_below (ownsRow_setCell_below (ownsRow_setCell_below P6 (a := ⟨w.heap.size, 0, none⟩) hlo (.int .i64 3)) (a := ⟨w.heap.size, 1, none⟩) hlo (.int .i64 fl)) (a := ⟨w.heap.size, 2, none⟩) hlo (.int .i64 0)) (a := ⟨w.heap.size, 3, none⟩) hlo (.slice A5 rl.length c5)) (a := ⟨w.heap.size, 4, none⟩) hlo (.slice none 0 0)) (Nat.le_of_lt hlo))
            clear R6 X6 O6 P6 B6 b6
            by_cases e : wishS ⟨3, fl, 0, rl, []⟩ = s
            · have HP := Lib.hid (HEND.out.1 e)
              have q9 := ba_yes e
              clear e HEND
              go_wp2
              refine bodyPost_ret (v := .tuple #[.agg #[.int .i64 3, .int .i64 fl, .int .i64 0, .slice A5 rl.length c5, .slice none 0 0], .bool true]) (by simp [results, Try.results25, go_sem, c0, c1, c2, c3, c4]) rfl ?_
              refine ⟨_, _, ret_wb (x := ⟨3, fl, 0, rl, []⟩) (b := true) ⟨HP.out.1.symm, HP.out.2.symm⟩, ?_, BF.out⟩
              rw [HP.out.1]
              exact ⟨OF.out, PF.out, far_nilR _⟩
            · have HP := Lib.hid (HEND.out.2 e)
              have q9 := ba_no e
              clear e HEND
              go_wp2
              refine bodyPost_ret (v := .tuple #[.agg #[.int .i64 0, .int .i64 0, .int .i64 0, .slice none 0 0, .slice none 0 0], .bool false]) (by simp [results, Try.results25, go_sem, c0, c1, c2, c3, c4]) rfl ?_
              refine ⟨_, _, ret_wb (x := zeroW) (u := .slice none 0 0) (v := .slice none 0 0) (b := false) ⟨HP.out.1.symm, HP.out.2.symm⟩, ?_, BN.out⟩
              rw [HP.out.1]; exact ownW_nil _ _
      have t3 : (a.toList == [97, 109, 111, 110, 103]) = false := lit_no n3
      by_cases n4 : a = kindW 4
      · have t4 : (a.toList == [111, 114, 100, 101, 114]) = true := lit_yes n4
        have X4 := Row.new w3 30 [.int .i64 4, .int .i64 fl, .int .i64 0, .slice none 0 0, .slice none 0 0]
        have R4 := R3.out.alloc (.cells #[.int .i64 4, .int .i64 fl, .int .i64 0, .slice none 0 0, .slice none 0 0] 30)
        have B4 := B3.out.alloc hlw (.cells #[.int .i64 4, .int .i64 fl, .int .i64 0, .slice none 0 0, .slice none 0 0] 30)
        have fr0 := X3.out.free 0
        have xlt := X3.out.lt
        have zW : ((w3.alloc (.cells #[.int .i64 4, .int .i64 fl, .int .i64 0, .slice none 0 0, .slice none 0 0] 30))).heap.size = w3.heap.size + 1 := by simp
        have HC0 : Hid (candS a b c9 = ⟨4, fl, 0, [], parP c9⟩) := by show _ = _; unfold candS; rw [if_neg n1, if_neg n2, if_neg n3, if_pos n4, hfl]
        clear n1 n2 n3 n4 hfl HK2
        go_wp2_with fail
        refine (specParsePairs _ hargs2).mono ?_
        rintro e w5 ⟨vq, rfl, Oq, b5⟩
        have FQ := Lib.hid (parP_fit c9)
        obtain ⟨ps, hps⟩ : ∃ ps, parP c9 = ps := ⟨_, rfl⟩
        rw [hps] at HC0 Oq FQ
        have HC := HC0
        obtain ⟨E5, d5, rfl, _, _⟩ := own_form Oq.1
        have z5 := b5.size
        rw [zW] at z5
        have X5 := X4.below b5 X4.lt
        have R5 := R4.below b5 R4.lt
        have B5 := B4.trans (b5.mono B4.size)
        have O5 := Oq.1
        rw [zW] at O5
        have fr4 := X5.free 4
        have xc4 : w5.cell? ⟨w3.heap.size, 4, none⟩ = some (.slice none 0 0) := X5.cell 4
        have xlt5 := X5.lt
        have XX : Row (w5.setCell ⟨w3.heap.size, 4, none⟩ (.slice E5 ps.length d5)) w3.heap.size 30 [.int .i64 4, .int .i64 fl, .int .i64 0, .slice none 0 0, .slice E5 ps.length d5] := X5.set 4 (.slice E5 ps.length d5)
        have RX := R5.far (p := ⟨w3.heap.size, 4, none⟩) (by show w.heap.size ≠ w3.heap.size; omega) (.slice E5 ps.length d5)
        have BB := B5.setCell (p := ⟨w3.heap.size, 4, none⟩) (by show w.heap.size ≤ w3.heap.size; omega) (.slice E5 ps.length d5)
        have OP := ownsRow_setCell_below O5 (a := ⟨w3.heap.size, 4, none⟩) (by show w3.heap.size < w3.heap.size + 1; omega) (.slice E5 ps.length d5)
        have S2 : Sl RP 2 (w5.setCell ⟨w3.heap.size, 4, none⟩ (.slice E5 ps.length d5)) (w5.setCell ⟨w3.heap.size, 4, none⟩ (.slice E5 ps.length d5)).heap.size E5 ps.length d5 ps := by
          obtain ⟨A', n', c', e', hS⟩ := own_pairs OP FQ.out
          injection e' with e1 e2 e3
          subst e1 e2 e3
          exact hS
        have HEND : Hid ((wishS ⟨4, fl, 0, [], ps⟩ = s → parW s = ⟨4, fl, 0, [], ps⟩ ∧ parWB s = true) ∧ (wishS ⟨4, fl, 0, [], ps⟩ ≠ s → parW s = zeroW ∧ parWB s = false)) := by
          have h9 := HE.out _ HCAND.out
          rw [HC.out] at h9
          exact h9
        have FF : Hid (FitW ⟨4, fl, 0, [], ps⟩) := ⟨by unfold Fit; simp, FL, by unfold Fit; simp, by simp, FQ.out⟩
        have OL : ((w5.setCell ⟨w3.heap.size, 4, none⟩ (.slice E5 ps.length d5))).ownsRow (w3.heap.size + 1) 3 1 (.slice none 0 0) 0 (([] : List Int).map (Value.int .i64)) := World.ownsRow_nil _ _ _ _
        have S1 : Sl RI 1 ((w5.setCell ⟨w3.heap.size, 4, none⟩ (.slice E5 ps.length d5))) ((w5.setCell ⟨w3.heap.size, 4, none⟩ (.slice E5 ps.length d5))).heap.size none 0 0 [] := Sl.nil _ _
        clear X5 R5 B5 b5 X4 R4 B4 hps O5 Oq
        have y0 : (w5.setCell ⟨w3.heap.size, 4, none⟩ (.slice E5 ps.length d5)).cell? ⟨w3.heap.size, 0, none⟩ = some (.int .i64 4) := XX.cell 0
        have y1 : (w5.setCell ⟨w3.heap.size, 4, none⟩ (.slice E5 ps.length d5)).cell? ⟨w3.heap.size, 1, none⟩ = some (.int .i64 fl) := XX.cell 1
        have y2 : (w5.setCell ⟨w3.heap.size, 4, none⟩ (.slice E5 ps.length d5)).cell? ⟨w3.heap.size, 2, none⟩ = some (.int .i64 0) := XX.cell 2
        have y3 : (w5.setCell ⟨w3.heap.size, 4, none⟩ (.slice E5 ps.length d5)).cell? ⟨w3.heap.size, 3, none⟩ = some (.slice none 0 0) := XX.cell 3
        have y4 : (w5.setCell ⟨w3.heap.size, 4, none⟩ (.slice E5 ps.length d5)).cell? ⟨w3.heap.size, 4, none⟩ = some (.slice E5 ps.length d5) := XX.cell 4
        have hltx := XX.lt
        have hltr := RX.lt
        have XH := Lib.hid XX
        have RH := Lib.hid RX
        have OLH := Lib.hid OL
        have OPH := Lib.hid OP
        have BH := Lib.hid BB
        clear XX RX OL OP BB
        go_wp2_with fail
        refine (specFormatWish (x := ⟨4, fl, 0, [], ps⟩) _ S1 S2 FF.out.1 FF.out.2.1 FF.out.2.2.1).mono ?_
        rintro e w6 ⟨rfl, b6⟩
        clear y0 y1 y2 y3 y4 S1 S2
        have R6 := RH.out.below b6 hltr
        have X6 := XH.out.below b6 hltx
        have O6 := own_below OLH.out b6
        have P6 := own_below OPH.out b6
        have B6 := BH.out.trans (b6.mono BH.out.size)
        have f0 := R6.free 0
        have f1 := R6.free 1
        have f2 := R6.free 2
        have f3 := R6.free 3
        have f4 := R6.free 4
        have hlt := R6.lt
        have hlty := X6.lt
        have c0 : w6.cell? ⟨w.heap.size, 0, none⟩ = some (.int .i64 0) := R6.cell 0
        have c1 : w6.cell? ⟨w.heap.size, 1, none⟩ = some (.int .i64 0) := R6.cell 1
        have c2 : w6.cell? ⟨w.heap.size, 2, none⟩ = some (.int .i64 0) := R6.cell 2
        have c3 : w6.cell? ⟨w.heap.size, 3, none⟩ = some (.slice none 0 0) := R6.cell 3
        have c4 : w6.cell? ⟨w.heap.size, 4, none⟩ = some (.slice none 0 0) := R6.cell 4
        have y0 : w6.cell? ⟨w3.heap.size, 0, none⟩ = some (.int .i64 4) := X6.cell 0
        have y1 : w6.cell? ⟨w3.heap.size, 1, none⟩ = some (.int .i64 fl) := X6.cell 1
        have y2 : w6.cell? ⟨w3.heap.size, 2, none⟩ = some (.int .i64 0) := X6.cell 2
        have y3 : w6.cell? ⟨w3.heap.size, 3, none⟩ = some (.slice none 0 0) := X6.cell 3
        have y4 : w6.cell? ⟨w3.heap.size, 4, none⟩ = some (.slice E5 ps.length d5) := X6.cell 4
        have BF := Lib.hid (((((B6.setCell (p := ⟨w.heap.size, 0, none⟩) (Nat.le_refl _) (.int .i64 4)).setCell (p := ⟨w.heap.size, 1, none⟩) (Nat.le_refl _) (.int .i64 fl)).setCell (p := ⟨w.heap.size, 2, none⟩) (Nat.le_refl _) (.int .i64 0)).setCell (p := ⟨w.heap.size, 3, none⟩) (Nat.le_refl _) (.slice none 0 0)).setCell (p := ⟨w.heap.size, 4, none⟩) (Nat.le_refl _) (.slice E5 ps.length d5))
        have BN := Lib.hid (((((B6.setCell (p := ⟨w.heap.size, 0, none⟩) (Nat.le_refl _) (.int .i64 0)).setCell (p := ⟨w.heap.size, 1, none⟩) (Nat.le_refl _) (.int .i64 0)).setCell (p := ⟨w.heap.size, 2, none⟩) (Nat.le_refl _) (.int .i64 0)).setCell (p := ⟨w.heap.size, 3, none⟩) (Nat.le_refl _) (.slice none 0 0)).setCell (p := ⟨w.heap.size, 4, none⟩) (Nat.le_refl _) (.slice none 0 0))
        have OF := Lib.hid (own_mono (b' := w.heap.size) (ownsRow_setCell_below (ownsRow_setCell_below (ownsRow_setCell_below (ownsRow_setCell_below (ownsRow_setCell_below O6 (a := ⟨w.heap.size, 0, none⟩) hlo (.int .i64 4)) (a := ⟨w.heap.size, 1, none⟩) hlo (.int .i64 fl)) (a := ⟨w.heap.size, 2, none⟩) hlo (.int .i64 0)) (a := ⟨w.heap.size, 3, none⟩) hlo (.slice none 0 0)) (a := ⟨w.heap.size, 4, none⟩) hlo (.slice E5 ps.length d5)) (Nat.le_of_lt hlo))
        have PF := Lib.hid (own_mono (b' := w.heap.size) (ownsRow_setCell_below (ownsRow_setCell_below (ownsRow_setCell_below (ownsRow_setCell_below (ownsRow_setCell_below P6 (a := ⟨w.heap.size, 0, none⟩) hlo (.int .i64 4)) (a := ⟨w.heap.size, 1, none⟩) hlo (.int .i64 fl)) (a := ⟨w.heap.size, 2, none⟩) hlo (.int .i64 0)) (a := ⟨w.heap.size, 3, none⟩) hlo (.slice none 0 0)) (a := ⟨w.heap.size, 4, none⟩) hlo (.slice E5 ps.length d5)) (Nat.le_of_lt hlo))
        clear R6 X6 O6 P6 B6 b6
        by_cases e : wishS ⟨4, fl, 0, [], ps⟩ = s
        · have HP := Lib.hid (HEND.out.1 e)
          have q9 := ba_yes e
          clear e HEND
          go_wp2
          refine bodyPost_ret (v := .tuple #[.agg #[.int .i64 4, .int .i64 fl, .int .i64 0, .slice none 0 0, .slice E5 ps.length d5], .bool true]) (by simp [results, Try.results25, go_sem, c0, c1, c2, c3, c4]) rfl ?_
          refine ⟨_, _, ret_wb (x := ⟨4, fl, 0, [], ps⟩) (b := true) ⟨HP.out.1.symm, HP.out.2.symm⟩, ?_, BF.out⟩
          rw [HP.out.1]
          exact ⟨OF.out, PF.out, .inl rfl⟩
        · have HP := Lib.hid (HEND.out.2 e)
          have q9 := ba_no e
          clear e HEND
          go_wp2
          refine bodyPost_ret (v := .tuple #[.agg #[.int .i64 0, .int .i64 0, .int .i64 0, .slice none 0 0, .slice none 0 0], .bool false]) (by simp [results, Try.results25, go_sem, c0, c1, c2, c3, c4]) rfl ?_
          refine ⟨_, _, ret_wb (x := zeroW) (u := .slice none 0 0) (v := .slice none 0 0) (b := false) ⟨HP.out.1.symm, HP.out.2.symm⟩, ?_, BN.out⟩
          rw [HP.out.1]; exact ownW_nil _ _
      have t4 : (a.toList == [111, 114, 100, 101, 114]) = false := lit_no n4
      have HC : Hid (candS a b c9 = ⟨0, fl, 0, [], []⟩) := by show _ = _; unfold candS; rw [if_neg n1, if_neg n2, if_neg n3, if_neg n4, hfl]
      have HEND : Hid ((wishS ⟨0, fl, 0, [], []⟩ = s → parW s = ⟨0, fl, 0, [], []⟩ ∧ parWB s = true) ∧ (wishS ⟨0, fl, 0, [], []⟩ ≠ s → parW s = zeroW ∧ parWB s = false)) := by
        have h9 := HE.out _ HCAND.out
        rw [HC.out] at h9
        exact h9
      have FF : Hid (FitW ⟨0, fl, 0, [], []⟩) := ⟨by unfold Fit; simp, FL, by unfold Fit; simp, by simp, by simp⟩
      have XX := Row.new w3 30 [.int .i64 0, .int .i64 fl, .int .i64 0, .slice none 0 0, .slice none 0 0]
      have RX := R3.out.alloc (.cells #[.int .i64 0, .int .i64 fl, .int .i64 0, .slice none 0 0, .slice none 0 0] 30)
      have BB := B3.out.alloc hlw (.cells #[.int .i64 0, .int .i64 fl, .int .i64 0, .slice none 0 0, .slice none 0 0] 30)
      have fr0 := X3.out.free 0
      have xlt := X3.out.lt
      have OL : ((w3.alloc (.cells #[.int .i64 0, .int .i64 fl, .int .i64 0, .slice none 0 0, .slice none 0 0] 30))).ownsRow (w3.heap.size + 1) 3 1 (.slice none 0 0) 0 (([] : List Int).map (Value.int .i64)) := World.ownsRow_nil _ _ _ _
      have S1 : Sl RI 1 ((w3.alloc (.cells #[.int .i64 0, .int .i64 fl, .int .i64 0, .slice none 0 0, .slice none 0 0] 30))) ((w3.alloc (.cells #[.int .i64 0, .int .i64 fl, .int .i64 0, .slice none 0 0, .slice none 0 0] 30))).heap.size none 0 0 [] := Sl.nil _ _
      have OP : ((w3.alloc (.cells #[.int .i64 0, .int .i64 fl, .int .i64 0, .slice none 0 0, .slice none 0 0] 30))).ownsRow (w3.heap.size + 1) 82 2 (.slice none 0 0) 0 (prc []) := World.ownsRow_nil _ _ _ _
      have S2 : Sl RP 2 ((w3.alloc (.cells #[.int .i64 0, .int .i64 fl, .int .i64 0, .slice none 0 0, .slice none 0 0] 30))) ((w3.alloc (.cells #[.int .i64 0, .int .i64 fl, .int .i64 0, .slice none 0 0, .slice none 0 0] 30))).heap.size none 0 0 [] := Sl.nil _ _
      clear n1 n2 n3 n4 hfl HK2
      have y0 : (w3.alloc (.cells #[.int .i64 0, .int .i64 fl, .int .i64 0, .slice none 0 0, .slice none 0 0] 30)).cell? ⟨w3.heap.size, 0, none⟩ = some (.int .i64 0) := XX.cell 0
      have y1 : (w3.alloc (.cells #[.int .i64 0, .int .i64 fl, .int .i64 0, .slice none 0 0, .slice none 0 0] 30)).cell? ⟨w3.heap.size, 1, none⟩ = some (.int .i64 fl) := XX.cell 1
      have y2 : (w3.alloc (.cells #[.int .i64 0, .int .i64 fl, .int .i64 0, .slice none 0 0, .slice none 0 0] 30)).cell? ⟨w3.heap.size, 2, none⟩ = some (.int .i64 0) := XX.cell 2
      have y3 : (w3.alloc (.cells #[.int .i64 0, .int .i64 fl, .int .i64 0, .slice none 0 0, .slice none 0 0] 30)).cell? ⟨w3.heap.size, 3, none⟩ = some (.slice none 0 0) := XX.cell 3
      have y4 : (w3.alloc (.cells #[.int .i64 0, .int .i64 fl, .int .i64 0, .slice none 0 0, .slice none 0 0] 30)).cell? ⟨w3.heap.size, 4, none⟩ = some (.slice none 0 0) := XX.cell 4
      have hltx := XX.lt
      have hltr := RX.lt
      have XH := Lib.hid XX
      have RH := Lib.hid RX
      have OLH := Lib.hid OL
      have OPH := Lib.hid OP
      have BH := Lib.hid BB
      clear XX RX OL OP BB
      go_wp2_with fail
      refine (specFormatWish (x := ⟨0, fl, 0, [], []⟩) _ S1 S2 FF.out.1 FF.out.2.1 FF.out.2.2.1).mono ?_
      rintro e w6 ⟨rfl, b6⟩
      clear y0 y1 y2 y3 y4 S1 S2
      have R6 := RH.out.below b6 hltr
      have X6 := XH.out.below b6 hltx
      have O6 := own_below OLH.out b6
      have P6 := own_below OPH.out b6
      have B6 := BH.out.trans (b6.mono BH.out.size)
      have f0 := R6.free 0
      have f1 := R6.free 1
      have f2 := R6.free 2
      have f3 := R6.free 3
      have f4 := R6.free 4
      have hlt := R6.lt
      have hlty := X6.lt
      have c0 : w6.cell? ⟨w.heap.size, 0, none⟩ = some (.int .i64 0) := R6.cell 0
      have c1 : w6.cell? ⟨w.heap.size, 1, none⟩ = some (.int .i64 0) := R6.cell 1
      have c2 : w6.cell? ⟨w.heap.size, 2, none⟩ = some (.int .i64 0) := R6.cell 2
      have c3 : w6.cell? ⟨w.heap.size, 3, none⟩ = some (.slice none 0 0) := R6.cell 3
      have c4 : w6.cell? ⟨w.heap.size, 4, none⟩ = some (.slice none 0 0) := R6.cell 4
      have y0 : w6.cell? ⟨w3.heap.size, 0, none⟩ = some (.int .i64 0) := X6.cell 0
      have y1 : w6.cell? ⟨w3.heap.size, 1, none⟩ = some (.int .i64 fl) := X6.cell 1
      have y2 : w6.cell? ⟨w3.heap.size, 2, none⟩ = some (.int .i64 0) := X6.cell 2
      have y3 : w6.cell? ⟨w3.heap.size, 3, none⟩ = some (.slice none 0 0) := X6.cell 3
      have y4 : w6.cell? ⟨w3.heap.size, 4, none⟩ = some (.slice none 0 0) := X6.cell 4
      have BF := Lib.hid (((((B6.setCell (p := ⟨w.heap.size, 0, none⟩) (Nat.le_refl _) (.int .i64 0)).setCell (p := ⟨w.heap.size, 1, none⟩) (Nat.le_refl _) (.int .i64 fl)).setCell (p := ⟨w.heap.size, 2, none⟩) (Nat.le_refl _) (.int .i64 0)).setCell (p := ⟨w.heap.size, 3, none⟩) (Nat.le_refl _) (.slice none 0 0)).setCell (p := ⟨w.heap.size, 4, none⟩) (Nat.le_refl _) (.slice none 0 0))
      have BN := Lib.hid (((((B6.setCell (p := ⟨w.heap.size, 0, none⟩) (Nat.le_refl _) (.int .i64 0)).setCell (p := ⟨w.heap.size, 1, none⟩) (Nat.le_refl _) (.int .i64 0)).setCell (p := ⟨w.heap.size, 2, none⟩) (Nat.le_refl _) (.int .i64 0)).setCell (p := ⟨w.heap.size, 3, none⟩) (Nat.le_refl _) (.slice none 0 0)).setCell (p := ⟨w.heap.size, 4, none⟩) (Nat.le_refl _) (.slice none 0 0))
      have OF := Lib.hid (own_mono (b' := w.heap.size) (ownsRow_setCell_below (ownsRow_setCell_below (ownsRow_setCell_below (ownsRow_setCell_below (ownsRow_setCell_below O6 (a := ⟨w.heap.size, 0, none⟩) hlo (.int .i64 0)) (a := ⟨w.heap.size, 1, none⟩) hlo (.int .i64 fl)) (a := ⟨w.heap.size, 2, none⟩) hlo (.int .i64 0)) (a := ⟨w.heap.size, 3, none⟩) hlo (.slice none 0 0)) (a := ⟨w.heap.size, 4, none⟩) hlo (.slice none 0 0)) (Nat.le_of_lt hlo))
      have PF := Lib.hid (own_mono (b' := w.heap.size) (ownsRow_setCell_below (ownsRow_setCell_below (ownsRow_setCell_below (ownsRow_setCell_below (ownsRow_setCell_below P6 (a := ⟨w.heap.size, 0, none⟩) hlo (.int .i64 0)) (a := ⟨w.heap.size, 1, none⟩) hlo (.int .i64 fl)) (a := ⟨w.heap.size, 2, none⟩) hlo (.int .i64 0)) (a := ⟨w.heap.size, 3, none⟩) hlo (.slice none 0 0)) (a := ⟨w.heap.size, 4, none⟩) hlo (.slice none 0 0)) (Nat.le_of_lt hlo))
      clear R6 X6 O6 P6 B6 b6
      by_cases e : wishS ⟨0, fl, 0, [], []⟩ = s
      · have HP := Lib.hid (HEND.out.1 e)
        have q9 := ba_yes e
        clear e HEND
        go_wp2
        refine bodyPost_ret (v := .tuple #[.agg #[.int .i64 0, .int .i64 fl, .int .i64 0, .slice none 0 0, .slice none 0 0], .bool true]) (by simp [results, Try.results25, go_sem, c0, c1, c2, c3, c4]) rfl ?_
        refine ⟨_, _, ret_wb (x := ⟨0, fl, 0, [], []⟩) (b := true) ⟨HP.out.1.symm, HP.out.2.symm⟩, ?_, BF.out⟩
        rw [HP.out.1]
        exact ⟨OF.out, PF.out, far_nilR _⟩
      · have HP := Lib.hid (HEND.out.2 e)
        have q9 := ba_no e
        clear e HEND
        go_wp2
        refine bodyPost_ret (v := .tuple #[.agg #[.int .i64 0, .int .i64 0, .int .i64 0, .slice none 0 0, .slice none 0 0], .bool false]) (by simp [results, Try.results25, go_sem, c0, c1, c2, c3, c4]) rfl ?_
        refine ⟨_, _, ret_wb (x := zeroW) (u := .slice none 0 0) (v := .slice none 0 0) (b := false) ⟨HP.out.1.symm, HP.out.2.symm⟩, ?_, BN.out⟩
        rw [HP.out.1]; exact ownW_nil _ _
set_option maxHeartbeats 6400000 in
set_option maxRecDepth 100000 in
theorem implParseWish (w : World) {s : ByteArray} (hs : s.size ≤ 1048576) : Calls Try.prog 26 #[.string s] w (RetWB w (parW s) (parWB s)) := by
  obtain ⟨i0, hi, hz0, hz1, hz2⟩ := info_parts info_i2
  have HX := Lib.hid (P.cut_size s ⟨#[32]⟩)
  go_enter Try.func26, Try.ntmps26
  go_wp2_with fail
  refine (cut _ hs (by decide) (by decide)).mono ?_
  rintro e w2 ⟨vp, rfl, hP, b2⟩
  have B2 := ((Below.refl w.heap.size w).alloc (Nat.le_refl _) (.cells #[.int .i64 0, .int .i64 0, .int .i64 0, .slice none 0 0, .slice none 0 0] 30)).trans (b2.mono (by simp))
  have R2 := (Row.new w 30 [.int .i64 0, .int .i64 0, .int .i64 0, .slice none 0 0, .slice none 0 0]).below b2 (by simp)
  obtain ⟨A, c, rfl, _, _⟩ := own_form hP.1
  obtain ⟨A', n', c', e', hS⟩ := own_strs hP.1 (fun x hx => by have := HX.out x hx; unfold maxLen; omega)
  injection e' with e1 e2 e3
  subst e1 e3
  have hsz2 := b2.size
  simp at hsz2
  have hnc := hS.le
  clear hP b2
  by_cases hl : (P.cut s ⟨#[32]⟩).length < 2 ∨ 3 < (P.cut s ⟨#[32]⟩).length
  · have HP : Hid (parW s = zeroW ∧ parWB s = false) := parW_bad (by rcases hl with h | h; exact .inl h; exact .inr (.inl h))
    obtain ⟨m, hm⟩ : ∃ m, (P.cut s ⟨#[32]⟩).length = m := ⟨_, rfl⟩
    rw [hm] at hl ⊢
    have hw : P.inR (m : Int) 2 3 = false := P.inR_no (by omega)
    go_wp2_with fail
    refine (within _ _ _ _).mono ?_
    rintro e w9 ⟨rfl, rfl⟩
    rw [hw]
    have f0 := R2.free 0
    have f1 := R2.free 1
    have f2 := R2.free 2
    have f3 := R2.free 3
    have f4 := R2.free 4
    have hlt := R2.lt
    have c0 : w2.cell? ⟨w.heap.size, 0, none⟩ = some (.int .i64 0) := R2.cell 0
    have c1 : w2.cell? ⟨w.heap.size, 1, none⟩ = some (.int .i64 0) := R2.cell 1
    have c2 : w2.cell? ⟨w.heap.size, 2, none⟩ = some (.int .i64 0) := R2.cell 2
    have c3 : w2.cell? ⟨w.heap.size, 3, none⟩ = some (.slice none 0 0) := R2.cell 3
    have c4 : w2.cell? ⟨w.heap.size, 4, none⟩ = some (.slice none 0 0) := R2.cell 4
    have BN := Lib.hid (((((B2.setCell (p := ⟨w.heap.size, 0, none⟩) (Nat.le_refl _) (.int .i64 0)).setCell (p := ⟨w.heap.size, 1, none⟩) (Nat.le_refl _) (.int .i64 0)).setCell (p := ⟨w.heap.size, 2, none⟩) (Nat.le_refl _) (.int .i64 0)).setCell (p := ⟨w.heap.size, 3, none⟩) (Nat.le_refl _) (.slice none 0 0)).setCell (p := ⟨w.heap.size, 4, none⟩) (Nat.le_refl _) (.slice none 0 0))
    go_wp2
    refine bodyPost_ret (v := .tuple #[.agg #[.int .i64 0, .int .i64 0, .int .i64 0, .slice none 0 0, .slice none 0 0], .bool false]) (by simp [results, Try.results26, go_sem, c0, c1, c2, c3, c4]) rfl ?_
    refine ⟨_, _, ret_wb (x := zeroW) (u := .slice none 0 0) (v := .slice none 0 0) (b := false) ⟨HP.out.1.symm, HP.out.2.symm⟩, ?_, BN.out⟩
    rw [HP.out.1]; exact ownW_nil _ _
  · have h2 : 2 ≤ (P.cut s ⟨#[32]⟩).length := by omega
    have HE := Lib.hid (fun (y : Wi) hb => parW_end (s := s) (y := y) h2 hb)
    obtain ⟨a, b, rest, hab, hrl⟩ : ∃ a b rest, P.cut s ⟨#[32]⟩ = a :: b :: rest ∧ rest.length ≤ 1 := by
      match hc : P.cut s ⟨#[32]⟩, hl, h2 with
      | a :: b :: rest, hl, _ => exact ⟨a, b, rest, rfl, by simp at hl; omega⟩
    rw [hab] at HE
    have has : a.size ≤ 1048576 := Nat.le_trans (HX.out a (by rw [hab]; simp)) hs
    have hbs : b.size ≤ 1048576 := Nat.le_trans (HX.out b (by rw [hab]; simp)) hs
    obtain ⟨m, hm⟩ : ∃ m, rest.length + 1 + 1 = m := ⟨_, rfl⟩
    have hlen : (P.cut s ⟨#[32]⟩).length = m := by rw [hab]; exact hm
    rw [hlen] at e2 ⊢
    subst e2
    have hm2 : 2 ≤ m := by omega
    have hm3 : m ≤ 3 := by omega
    obtain ⟨bb, o, x, rfl, hbb, hx0, _, hc0⟩ := hS.str (k := 0) (by omega)
    obtain ⟨bb1, o1, x1, hbe, _, hx1, _, hc1⟩ := hS.str (k := 1) (by omega)
    injection hbe with hbe
    injection hbe with hbe1 hbe2 _
    subst hbe1 hbe2
    rw [hab] at hx0 hx1
    simp at hx0 hx1
    subst hx0 hx1
    rw [Nat.add_zero] at hc0
    have HC2 : Hid (∀ c, rest = [c] → w2.cell? ⟨bb, o + 2, none⟩ = some (.string c)) := by
      rintro c rfl
      obtain ⟨bb2, o2, x2, hbe, _, hx2, _, hc2⟩ := hS.str (k := 2) (by simp at hm; omega)
      injection hbe with hbe
      injection hbe with hbe1 hbe2 _
      subst hbe1 hbe2
      rw [hab] at hx2
      simp at hx2
      subst hx2
      exact hc2
    have HAB := Lib.hid hab
    have HRC : Hid (∀ c, rest = [c] → c.size ≤ 1048576) := fun c hc => Nat.le_trans (HX.out c (by rw [HAB.out, hc]; simp)) hs
    clear hl h2 hab hS
    have p2 : (2 : Int) ≤ (m : Int) := by omega
    have p3 : (m : Int) ≤ 3 := by omega
    have p1 : (1 : Int) < (m : Int) := by omega
    have p0 : (0 : Int) < (m : Int) := by omega
    have p4 : (m : Int) ≤ (c : Int) := by omega
    have hw : P.inR (m : Int) 2 3 = true := P.inR_mk (by omega)
    by_cases hb2 : b.size < 2
    · have q2 : (b.size : Int) < 2 := by omega
      have HP : Hid (parW s = zeroW ∧ parWB s = false) := parW_bad (.inr (.inr (by rw [HAB.out]; exact hb2)))
      go_wp2_with fail
      refine (within _ _ _ _).mono ?_
      rintro e w9 ⟨rfl, rfl⟩
      rw [hw]
      have f0 := R2.free 0
      have f1 := R2.free 1
      have f2 := R2.free 2
      have f3 := R2.free 3
      have f4 := R2.free 4
      have hlt := R2.lt
      have c0 : w2.cell? ⟨w.heap.size, 0, none⟩ = some (.int .i64 0) := R2.cell 0
      have c1 : w2.cell? ⟨w.heap.size, 1, none⟩ = some (.int .i64 0) := R2.cell 1
      have c2 : w2.cell? ⟨w.heap.size, 2, none⟩ = some (.int .i64 0) := R2.cell 2
      have c3 : w2.cell? ⟨w.heap.size, 3, none⟩ = some (.slice none 0 0) := R2.cell 3
      have c4 : w2.cell? ⟨w.heap.size, 4, none⟩ = some (.slice none 0 0) := R2.cell 4
      have BN := Lib.hid (((((B2.setCell (p := ⟨w.heap.size, 0, none⟩) (Nat.le_refl _) (.int .i64 0)).setCell (p := ⟨w.heap.size, 1, none⟩) (Nat.le_refl _) (.int .i64 0)).setCell (p := ⟨w.heap.size, 2, none⟩) (Nat.le_refl _) (.int .i64 0)).setCell (p := ⟨w.heap.size, 3, none⟩) (Nat.le_refl _) (.slice none 0 0)).setCell (p := ⟨w.heap.size, 4, none⟩) (Nat.le_refl _) (.slice none 0 0))
      go_wp2
      refine bodyPost_ret (v := .tuple #[.agg #[.int .i64 0, .int .i64 0, .int .i64 0, .slice none 0 0, .slice none 0 0], .bool false]) (by simp [results, Try.results26, go_sem, c0, c1, c2, c3, c4]) rfl ?_
      refine ⟨_, _, ret_wb (x := zeroW) (u := .slice none 0 0) (v := .slice none 0 0) (b := false) ⟨HP.out.1.symm, HP.out.2.symm⟩, ?_, BN.out⟩
      rw [HP.out.1]; exact ownW_nil _ _
    have q2 : ¬ (b.size : Int) < 2 := by omega
    have q3 : (1 : Int) ≤ (b.size : Int) := by omega
    have hbx : (b.extract 1 b.size).size ≤ maxLen := by rw [ByteArray.size_extract]; unfold maxLen; omega
    have BX := (Below.refl w2.heap.size w2).alloc (Nat.le_refl _) (.cells #[.int .i64 0, .int .i64 0, .int .i64 0, .slice none 0 0, .slice none 0 0] 30)
    have HB2 := Lib.hid B2
    have HR2 := Lib.hid R2
    clear B2 R2
    go_wp2_with fail
    refine (within _ _ _ _).mono ?_
    rintro e w9 ⟨rfl, rfl⟩
    rw [hw]
    go_wp2_with fail
    refine (implParseInt _ hbx _).mono ?_
    rintro e w3 ⟨rfl, b3⟩
    obtain ⟨fl, hfl⟩ : ∃ fl, piN (b.extract 1 b.size).data.toList = fl := ⟨_, rfl⟩
    have FL : Fit fl := by rw [← hfl]; exact piN_fit _
    rw [hfl]
    have b3' := BX.trans (b3.mono (by simp))
    have hsz3 := b3.size
    simp at hsz3
    have X3 := (Row.new w2 30 [.int .i64 0, .int .i64 0, .int .i64 0, .slice none 0 0, .slice none 0 0]).below b3 (by simp)
    have R3 := (HR2.out.below b3' HR2.out.lt)
    have B3 := HB2.out.trans (b3'.mono (by omega))
    have k0 := celB hc0 b3' hbb
    have HK2 : Hid (∀ c, rest = [c] → w3.cell? ⟨bb, o + 2, none⟩ = some (.string c)) := fun c hc => celB (HC2.out c hc) b3' hbb
    have fr1 := X3.free 1
    have xc1 : w3.cell? ⟨w2.heap.size, 1, none⟩ = some (.int .i64 0) := X3.cell 1
    have xl3 := X3.lt
    have X4 : Row (w3.setCell ⟨w2.heap.size, 1, none⟩ (.int .i64 fl)) w2.heap.size 30 [.int .i64 0, .int .i64 fl, .int .i64 0, .slice none 0 0, .slice none 0 0] := X3.set 1 (.int .i64 fl)
    have R4 := R3.far (p := ⟨w2.heap.size, 1, none⟩) (by show w.heap.size ≠ w2.heap.size; omega) (.int .i64 fl)
    have B4 := B3.setCell (p := ⟨w2.heap.size, 1, none⟩) (by show w.heap.size ≤ w2.heap.size; omega) (.int .i64 fl)
    have k4 := celS (p := ⟨w2.heap.size, 1, none⟩) k0 (by show w2.heap.size ≠ bb; omega) (.int .i64 fl)
    have HK4 : Hid (∀ c, rest = [c] → (w3.setCell ⟨w2.heap.size, 1, none⟩ (.int .i64 fl)).cell? ⟨bb, o + 2, none⟩ = some (.string c)) := fun c hc => celS (HK2.out c hc) (by show w2.heap.size ≠ bb; omega) _
    obtain ⟨w4, hw4⟩ : ∃ w4, w3.setCell ⟨w2.heap.size, 1, none⟩ (.int .i64 fl) = w4 := ⟨_, rfl⟩
    have z4 : w4.heap.size = w3.heap.size := by rw [← hw4]; simp
    rw [hw4] at X4 R4 B4 k4 HK4
    have hlit : Row (w4.alloc (.cells #[.string ⟨#[108, 111, 119]⟩, .string ⟨#[104, 105, 103, 104]⟩, .string ⟨#[110, 101, 97, 114]⟩, .string ⟨#[97, 109, 111, 110, 103]⟩, .string ⟨#[111, 114, 100, 101, 114]⟩] 9)) w4.heap.size 9 ([kindW 0, kindW 1, kindW 2, kindW 3, kindW 4].map Value.string) := Row.new w4 9 [.string ⟨#[108, 111, 119]⟩, .string ⟨#[104, 105, 103, 104]⟩, .string ⟨#[110, 101, 97, 114]⟩, .string ⟨#[97, 109, 111, 110, 103]⟩, .string ⟨#[111, 114, 100, 101, 114]⟩]
    rw [z4] at hlit
    have HLI := Lib.hid hlit
    have X5 := Lib.hid (X4.alloc (.cells #[.string ⟨#[108, 111, 119]⟩, .string ⟨#[104, 105, 103, 104]⟩, .string ⟨#[110, 101, 97, 114]⟩, .string ⟨#[97, 109, 111, 110, 103]⟩, .string ⟨#[111, 114, 100, 101, 114]⟩] 9))
    have R5 := Lib.hid (R4.alloc (.cells #[.string ⟨#[108, 111, 119]⟩, .string ⟨#[104, 105, 103, 104]⟩, .string ⟨#[110, 101, 97, 114]⟩, .string ⟨#[97, 109, 111, 110, 103]⟩, .string ⟨#[111, 114, 100, 101, 114]⟩] 9))
    have B5 := Lib.hid (B4.alloc (by omega) (.cells #[.string ⟨#[108, 111, 119]⟩, .string ⟨#[104, 105, 103, 104]⟩, .string ⟨#[110, 101, 97, 114]⟩, .string ⟨#[97, 109, 111, 110, 103]⟩, .string ⟨#[111, 114, 100, 101, 114]⟩] 9))
    have k5 := celA k4 (.cells #[.string ⟨#[108, 111, 119]⟩, .string ⟨#[104, 105, 103, 104]⟩, .string ⟨#[110, 101, 97, 114]⟩, .string ⟨#[97, 109, 111, 110, 103]⟩, .string ⟨#[111, 114, 100, 101, 114]⟩] 9)
    have HK5 : Hid (∀ c, rest = [c] → (w4.alloc (.cells #[.string ⟨#[108, 111, 119]⟩, .string ⟨#[104, 105, 103, 104]⟩, .string ⟨#[110, 101, 97, 114]⟩, .string ⟨#[97, 109, 111, 110, 103]⟩, .string ⟨#[111, 114, 100, 101, 114]⟩] 9)).cell? ⟨bb, o + 2, none⟩ = some (.string c)) := fun c hc => celA (HK4.out c hc) _
    have hbb4 : bb < w4.heap.size := by omega
    have HFL : Hid (fldI b = fl) := hfl
    have hx2 : w2.heap.size < w4.heap.size := by omega
    have hx1 : w.heap.size < w2.heap.size := by omega
    have HF1 := Lib.hid fr1
    have HX1 := Lib.hid xc1
    have HK3 := Lib.hid k4
    clear hc0 hc1 HC2 b3 b3' BX X3 R3 B3 k0 HK2 hfl xc1 fr1 X4 R4 B4 k4 HK4 hlit HR2 HB2
    have fr1 : w3.frozen? ⟨w2.heap.size, 1, none⟩ = false := HF1.out
    have xc1 : w3.cell? ⟨w2.heap.size, 1, none⟩ = some (.int .i64 0) := HX1.out
    have k3' : (w3.setCell ⟨w2.heap.size, 1, none⟩ (.int .i64 fl)).cell? ⟨bb, o, none⟩ = some (.string a) := by rw [hw4]; exact HK3.out
    go_wp2_with fail
    try rw [hw4]
    refine (indexStrs (n := 5) (c := 5) _ HLI.out rfl (by omega) (by omega)).mono ?_
    rintro e w9 ⟨⟨k, rfl, hk⟩, rfl⟩
    have hkI := idx5 hk
    obtain ⟨kb1, kb2⟩ := kindI_bd a
    rw [← hkI] at kb1 kb2
    have HKI : Hid (kindI a = k) := hkI.symm
    obtain ⟨w5, hw5⟩ : ∃ w5, w4.alloc (.cells #[.string ⟨#[108, 111, 119]⟩, .string ⟨#[104, 105, 103, 104]⟩, .string ⟨#[110, 101, 97, 114]⟩, .string ⟨#[97, 109, 111, 110, 103]⟩, .string ⟨#[111, 114, 100, 101, 114]⟩] 9) = w5 := ⟨_, rfl⟩
    have z5 : w5.heap.size = w4.heap.size + 1 := by rw [← hw5]; simp
    rw [hw5] at X5 R5 B5 k5 HK5 ⊢
    clear hk hkI fr1 xc1
    have fr0 := X5.out.free 0
    have xc0 : w5.cell? ⟨w2.heap.size, 0, none⟩ = some (.int .i64 0) := X5.out.cell 0
    have xl5 := X5.out.lt
    have X6 : Row (w5.setCell ⟨w2.heap.size, 0, none⟩ (.int .i64 k)) w2.heap.size 30 [.int .i64 k, .int .i64 fl, .int .i64 0, .slice none 0 0, .slice none 0 0] := X5.out.set 0 (.int .i64 k)
    have R6 := R5.out.far (p := ⟨w2.heap.size, 0, none⟩) (by show w.heap.size ≠ w2.heap.size; omega) (.int .i64 k)
    have B6 := B5.out.setCell (p := ⟨w2.heap.size, 0, none⟩) (by show w.heap.size ≤ w2.heap.size; omega) (.int .i64 k)
    have HK6 : Hid (∀ c, rest = [c] → (w5.setCell ⟨w2.heap.size, 0, none⟩ (.int .i64 k)).cell? ⟨bb, o + 2, none⟩ = some (.string c)) := fun c hc => celS (HK5.out c hc) (by show w2.heap.size ≠ bb; omega) _
    have zW : (w5.setCell ⟨w2.heap.size, 0, none⟩ (.int .i64 k)).heap.size = w4.heap.size + 1 := by simp [z5]
    have FK : Fit k := by unfold Fit; omega
    by_cases hr0 : rest = []
    · have hm9 : m = 2 := by rw [hr0] at hm; simpa using hm.symm
      have t0 : ((m : Int) == 3) = false := by rw [hm9]; rfl
      have HCAND : Hid (∀ x, P.okW x = true → kindW x.kind :: fldW x.field :: argW x = a :: b :: rest → candI a b none = x) := fun x hx h => candI_two hx (by rw [h, hr0])
      clear hm9
      have HC : Hid (candI a b none = ⟨k, fl, 0, [], []⟩) := by
        show _ = _
        unfold candI
        rw [HKI.out, HFL.out]
        simp
      have HEND : Hid ((wishS ⟨k, fl, 0, [], []⟩ = s → parW s = ⟨k, fl, 0, [], []⟩ ∧ parWB s = true) ∧ (wishS ⟨k, fl, 0, [], []⟩ ≠ s → parW s = zeroW ∧ parWB s = false)) := by
        have h9 := HE.out _ HCAND.out
        rw [HC.out] at h9
        exact h9
      have FF : Hid (FitW ⟨k, fl, 0, [], []⟩) := ⟨FK, FL, by unfold Fit; simp, by simp, by simp⟩
      have XX := X6
      have RX := R6
      have BB := B6
      have hlo : w.heap.size < w2.heap.size + 1 := by omega
      have OL : ((w5.setCell ⟨w2.heap.size, 0, none⟩ (.int .i64 k))).ownsRow (w2.heap.size + 1) 3 1 (.slice none 0 0) 0 (([] : List Int).map (Value.int .i64)) := World.ownsRow_nil _ _ _ _
      have S1 : Sl RI 1 ((w5.setCell ⟨w2.heap.size, 0, none⟩ (.int .i64 k))) ((w5.setCell ⟨w2.heap.size, 0, none⟩ (.int .i64 k))).heap.size none 0 0 [] := Sl.nil _ _
      have OP : ((w5.setCell ⟨w2.heap.size, 0, none⟩ (.int .i64 k))).ownsRow (w2.heap.size + 1) 82 2 (.slice none 0 0) 0 (prc []) := World.ownsRow_nil _ _ _ _
      have S2 : Sl RP 2 ((w5.setCell ⟨w2.heap.size, 0, none⟩ (.int .i64 k))) ((w5.setCell ⟨w2.heap.size, 0, none⟩ (.int .i64 k))).heap.size none 0 0 [] := Sl.nil _ _
      clear X6 R6 B6
      have y0 : (w5.setCell ⟨w2.heap.size, 0, none⟩ (.int .i64 k)).cell? ⟨w2.heap.size, 0, none⟩ = some (.int .i64 k) := XX.cell 0
      have y1 : (w5.setCell ⟨w2.heap.size, 0, none⟩ (.int .i64 k)).cell? ⟨w2.heap.size, 1, none⟩ = some (.int .i64 fl) := XX.cell 1
      have y2 : (w5.setCell ⟨w2.heap.size, 0, none⟩ (.int .i64 k)).cell? ⟨w2.heap.size, 2, none⟩ = some (.int .i64 0) := XX.cell 2
      have y3 : (w5.setCell ⟨w2.heap.size, 0, none⟩ (.int .i64 k)).cell? ⟨w2.heap.size, 3, none⟩ = some (.slice none 0 0) := XX.cell 3
      have y4 : (w5.setCell ⟨w2.heap.size, 0, none⟩ (.int .i64 k)).cell? ⟨w2.heap.size, 4, none⟩ = some (.slice none 0 0) := XX.cell 4
      have hltx := XX.lt
      have hltr := RX.lt
      have XH := Lib.hid XX
      have RH := Lib.hid RX
      have OLH := Lib.hid OL
      have OPH := Lib.hid OP
      have BH := Lib.hid BB
      clear XX RX OL OP BB
      go_wp2_with fail
      refine (implFormatWish (x := ⟨k, fl, 0, [], []⟩) _ S1 S2 FF.out.1 FF.out.2.1 FF.out.2.2.1).mono ?_
      rintro e w6 ⟨rfl, b6⟩
      clear y0 y1 y2 y3 y4 S1 S2
      have R6 := RH.out.below b6 hltr
      have X6 := XH.out.below b6 hltx
      have O6 := own_below OLH.out b6
      have P6 := own_below OPH.out b6
      have B6 := BH.out.trans (b6.mono BH.out.size)
      have f0 := R6.free 0
      have f1 := R6.free 1
      have f2 := R6.free 2
      have f3 := R6.free 3
      have f4 := R6.free 4
      have hlt := R6.lt
      have hlty := X6.lt
      have c0 : w6.cell? ⟨w.heap.size, 0, none⟩ = some (.int .i64 0) := R6.cell 0
      have c1 : w6.cell? ⟨w.heap.size, 1, none⟩ = some (.int .i64 0) := R6.cell 1
      have c2 : w6.cell? ⟨w.heap.size, 2, none⟩ = some (.int .i64 0) := R6.cell 2
      have c3 : w6.cell? ⟨w.heap.size, 3, none⟩ = some (.slice none 0 0) := R6.cell 3
      have c4 : w6.cell? ⟨w.heap.size, 4, none⟩ = some (.slice none 0 0) := R6.cell 4
      have y0 : w6.cell? ⟨w2.heap.size, 0, none⟩ = some (.int .i64 k) := X6.cell 0
      have y1 : w6.cell? ⟨w2.heap.size, 1, none⟩ = some (.int .i64 fl) := X6.cell 1
      have y2 : w6.cell? ⟨w2.heap.size, 2, none⟩ = some (.int .i64 0) := X6.cell 2
      have y3 : w6.cell? ⟨w2.heap.size, 3, none⟩ = some (.slice none 0 0) := X6.cell 3
      have y4 : w6.cell? ⟨w2.heap.size, 4, none⟩ = some (.slice none 0 0) := X6.cell 4
      have BF := Lib.hid (((((B6.setCell (p := ⟨w.heap.size, 0, none⟩) (Nat.le_refl _) (.int .i64 k)).setCell (p := ⟨w.heap.size, 1, none⟩) (Nat.le_refl _) (.int .i64 fl)).setCell (p := ⟨w.heap.size, 2, none⟩) (Nat.le_refl _) (.int .i64 0)).setCell (p := ⟨w.heap.size, 3, none⟩) (Nat.le_refl _) (.slice none 0 0)).setCell (p := ⟨w.heap.size, 4, none⟩) (Nat.le_refl _) (.slice none 0 0))
      have BN := Lib.hid (((((B6.setCell (p := ⟨w.heap.size, 0, none⟩) (Nat.le_refl _) (.int .i64 0)).setCell (p := ⟨w.heap.size, 1, none⟩) (Nat.le_refl _) (.int .i64 0)).setCell (p := ⟨w.heap.size, 2, none⟩) (Nat.le_refl _) (.int .i64 0)).setCell (p := ⟨w.heap.size, 3, none⟩) (Nat.le_refl _) (.slice none 0 0)).setCell (p := ⟨w.heap.size, 4, none⟩) (Nat.le_refl _) (.slice none 0 0))
      have OF := Lib.hid (own_mono (b' := w.heap.size) (ownsRow_setCell_below (ownsRow_setCell_below (ownsRow_setCell_below (ownsRow_setCell_below (ownsRow_setCell_below O6 (a := ⟨w.heap.size, 0, none⟩) hlo (.int .i64 k)) (a := ⟨w.heap.size, 1, none⟩) hlo (.int .i64 fl)) (a := ⟨w.heap.size, 2, none⟩) hlo (.int .i64 0)) (a := ⟨w.heap.size, 3, none⟩) hlo (.slice none 0 0)) (a := ⟨w.heap.size, 4, none⟩) hlo (.slice none 0 0)) (Nat.le_of_lt hlo))
      have PF := Lib.hid (own_mono (b' := w.heap.size) (ownsRow_setCell_below (ownsRow_setCell_below (ownsRow_setCell_below (ownsRow_setCell_below (ownsRow_setCell_below P6 (a := ⟨w.heap.size, 0, none⟩) hlo (.int .i64 k)) (a := ⟨w.heap.size, 1, none⟩) hlo (.int .i64 fl)) (a := ⟨w.heap.size, 2, none⟩) hlo (.int .i64 0)) (a := ⟨w.heap.size, 3, none⟩) hlo (.slice none 0 0)) (a := ⟨w.heap.size, 4, none⟩) hlo (.slice none 0 0)) (Nat.le_of_lt hlo))
      clear R6 X6 O6 P6 B6 b6
      by_cases e : wishS ⟨k, fl, 0, [], []⟩ = s
      · have HP := Lib.hid (HEND.out.1 e)
        have q9 := ba_yes e
        clear e HEND
        go_wp2
        refine bodyPost_ret (v := .tuple #[.agg #[.int .i64 k, .int .i64 fl, .int .i64 0, .slice none 0 0, .slice none 0 0], .bool true]) (by simp [results, Try.results26, go_sem, c0, c1, c2, c3, c4]) rfl ?_
        refine ⟨_, _, ret_wb (x := ⟨k, fl, 0, [], []⟩) (b := true) ⟨HP.out.1.symm, HP.out.2.symm⟩, ?_, BF.out⟩
        rw [HP.out.1]
        exact ⟨OF.out, PF.out, far_nilR _⟩
      · have HP := Lib.hid (HEND.out.2 e)
        have q9 := ba_no e
        clear e HEND
        go_wp2
        refine bodyPost_ret (v := .tuple #[.agg #[.int .i64 0, .int .i64 0, .int .i64 0, .slice none 0 0, .slice none 0 0], .bool false]) (by simp [results, Try.results26, go_sem, c0, c1, c2, c3, c4]) rfl ?_
        refine ⟨_, _, ret_wb (x := zeroW) (u := .slice none 0 0) (v := .slice none 0 0) (b := false) ⟨HP.out.1.symm, HP.out.2.symm⟩, ?_, BN.out⟩
        rw [HP.out.1]; exact ownW_nil _ _
    · obtain ⟨c9, hr1⟩ : ∃ c9, rest = [c9] := by
        match rest, hrl, hr0 with
        | [c9], _, _ => exact ⟨c9, rfl⟩
      have hm9 : m = 3 := by rw [hr1] at hm; simpa using hm.symm
      have t0 : ((m : Int) == 3) = true := by rw [hm9]; rfl
      have p5 : (2 : Int) < (m : Int) := by omega
      have HCAND : Hid (∀ x, P.okW x = true → kindW x.kind :: fldW x.field :: argW x = a :: b :: rest → candI a b (some c9) = x) := fun x hx h => candI_three hx (by rw [h, hr1])
      have hargs2 : c9.size ≤ 1048576 := HRC.out c9 hr1
      have hargs : c9.size ≤ maxLen := Nat.le_trans hargs2 (by decide)
      have k2 := HK6.out c9 hr1
      have k2b := HK5.out c9 hr1
      have nb1 : ¬ bb = w2.heap.size := by omega
      have nb2 : ¬ w2.heap.size = bb := by omega
      clear hm9 hr0
      by_cases n2 : k = 2
      · have s2 : (k == 2) = true := by simp [n2]
        have N2 := Lib.hid n2
        clear n2
        have xk : (w5.setCell ⟨w2.heap.size, 0, none⟩ (.int .i64 k)).cell? ⟨w2.heap.size, 0, none⟩ = some (.int .i64 k) := X6.cell 0
        have x6l := X6.lt
        have XH6 := Lib.hid X6
        have RH6 := Lib.hid R6
        have BH6 := Lib.hid B6
        clear X6 R6 B6
        have HC0 : Hid (candI a b (some c9) = ⟨k, fl, piN c9.data.toList, [], []⟩) := by
          show _ = _
          unfold candI
          rw [HKI.out, HFL.out, if_pos N2.out, if_neg (by have := N2.out; omega), if_neg (by have := N2.out; omega)]
        go_wp2_with fail
        refine (implParseInt c9 hargs _).mono ?_
        rintro e w7 ⟨rfl, b7⟩
        obtain ⟨nv, hnv⟩ : ∃ nv, piN c9.data.toList = nv := ⟨_, rfl⟩
        have FN : Fit nv := by rw [← hnv]; exact piN_fit _
        rw [hnv] at HC0 ⊢
        have HC := HC0
        have z7 := b7.size
        rw [zW] at z7
        have X7 := XH6.out.below b7 XH6.out.lt
        have R7 := RH6.out.below b7 RH6.out.lt
        have B7 := BH6.out.trans (b7.mono BH6.out.size)
        have fr7 := X7.free 2
        have xlt7 := X7.lt
        have xc7 : w7.cell? ⟨w2.heap.size, 2, none⟩ = some (.int .i64 0) := X7.cell 2
        have XX : Row (w7.setCell ⟨w2.heap.size, 2, none⟩ (.int .i64 nv)) w2.heap.size 30 [.int .i64 k, .int .i64 fl, .int .i64 nv, .slice none 0 0, .slice none 0 0] := X7.set 2 (.int .i64 nv)
        have RX := R7.far (p := ⟨w2.heap.size, 2, none⟩) (by show w.heap.size ≠ w2.heap.size; omega) (.int .i64 nv)
        have BB := B7.setCell (p := ⟨w2.heap.size, 2, none⟩) (by show w.heap.size ≤ w2.heap.size; omega) (.int .i64 nv)
        have hlo : w.heap.size < w2.heap.size + 1 := by omega
        have HEND : Hid ((wishS ⟨k, fl, nv, [], []⟩ = s → parW s = ⟨k, fl, nv, [], []⟩ ∧ parWB s = true) ∧ (wishS ⟨k, fl, nv, [], []⟩ ≠ s → parW s = zeroW ∧ parWB s = false)) := by
          have h9 := HE.out _ HCAND.out
          rw [HC.out] at h9
          exact h9
        have FF : Hid (FitW ⟨k, fl, nv, [], []⟩) := ⟨FK, FL, FN, by simp, by simp⟩
        have OL : ((w7.setCell ⟨w2.heap.size, 2, none⟩ (.int .i64 nv))).ownsRow (w2.heap.size + 1) 3 1 (.slice none 0 0) 0 (([] : List Int).map (Value.int .i64)) := World.ownsRow_nil _ _ _ _
        have S1 : Sl RI 1 ((w7.setCell ⟨w2.heap.size, 2, none⟩ (.int .i64 nv))) ((w7.setCell ⟨w2.heap.size, 2, none⟩ (.int .i64 nv))).heap.size none 0 0 [] := Sl.nil _ _
        have OP : ((w7.setCell ⟨w2.heap.size, 2, none⟩ (.int .i64 nv))).ownsRow (w2.heap.size + 1) 82 2 (.slice none 0 0) 0 (prc []) := World.ownsRow_nil _ _ _ _
        have S2 : Sl RP 2 ((w7.setCell ⟨w2.heap.size, 2, none⟩ (.int .i64 nv))) ((w7.setCell ⟨w2.heap.size, 2, none⟩ (.int .i64 nv))).heap.size none 0 0 [] := Sl.nil _ _
        clear X7 R7 B7 b7 hnv
        have y0 : (w7.setCell ⟨w2.heap.size, 2, none⟩ (.int .i64 nv)).cell? ⟨w2.heap.size, 0, none⟩ = some (.int .i64 k) := XX.cell 0
        have y1 : (w7.setCell ⟨w2.heap.size, 2, none⟩ (.int .i64 nv)).cell? ⟨w2.heap.size, 1, none⟩ = some (.int .i64 fl) := XX.cell 1
        have y2 : (w7.setCell ⟨w2.heap.size, 2, none⟩ (.int .i64 nv)).cell? ⟨w2.heap.size, 2, none⟩ = some (.int .i64 nv) := XX.cell 2
        have y3 : (w7.setCell ⟨w2.heap.size, 2, none⟩ (.int .i64 nv)).cell? ⟨w2.heap.size, 3, none⟩ = some (.slice none 0 0) := XX.cell 3
        have y4 : (w7.setCell ⟨w2.heap.size, 2, none⟩ (.int .i64 nv)).cell? ⟨w2.heap.size, 4, none⟩ = some (.slice none 0 0) := XX.cell 4
        have hltx := XX.lt
        have hltr := RX.lt
        have XH := Lib.hid XX
        have RH := Lib.hid RX
        have OLH := Lib.hid OL
        have OPH := Lib.hid OP
        have BH := Lib.hid BB
        clear XX RX OL OP BB
        go_wp2_with fail
        refine (implFormatWish (x := ⟨k, fl, nv, [], []⟩) _ S1 S2 FF.out.1 FF.out.2.1 FF.out.2.2.1).mono ?_
        rintro e w6 ⟨rfl, b6⟩
        clear y0 y1 y2 y3 y4 S1 S2
        have R6 := RH.out.below b6 hltr
        have X6 := XH.out.below b6 hltx
        have O6 := own_below OLH.out b6
        have P6 := own_below OPH.out b6
        have B6 := BH.out.trans (b6.mono BH.out.size)
        have f0 := R6.free 0
        have f1 := R6.free 1
        have f2 := R6.free 2
        have f3 := R6.free 3
        have f4 := R6.free 4
        have hlt := R6.lt
        have hlty := X6.lt
        have c0 : w6.cell? ⟨w.heap.size, 0, none⟩ = some (.int .i64 0) := R6.cell 0
        have c1 : w6.cell? ⟨w.heap.size, 1, none⟩ = some (.int .i64 0) := R6.cell 1
        have c2 : w6.cell? ⟨w.heap.size, 2, none⟩ = some (.int .i64 0) := R6.cell 2
        have c3 : w6.cell? ⟨w.heap.size, 3, none⟩ = some (.slice none 0 0) := R6.cell 3
        have c4 : w6.cell? ⟨w.heap.size, 4, none⟩ = some (.slice none 0 0) := R6.cell 4
        have y0 : w6.cell? ⟨w2.heap.size, 0, none⟩ = some (.int .i64 k) := X6.cell 0
        have y1 : w6.cell? ⟨w2.heap.size, 1, none⟩ = some (.int .i64 fl) := X6.cell 1
        have y2 : w6.cell? ⟨w2.heap.size, 2, none⟩ = some (.int .i64 nv) := X6.cell 2
        have y3 : w6.cell? ⟨w2.heap.size, 3, none⟩ = some (.slice none 0 0) := X6.cell 3
        have y4 : w6.cell? ⟨w2.heap.size, 4, none⟩ = some (.slice none 0 0) := X6.cell 4
        have BF := Lib.hid (((((B6.setCell (p := ⟨w.heap.size, 0, none⟩) (Nat.le_refl _) (.int .i64 k)).setCell (p := ⟨w.heap.size, 1, none⟩) (Nat.le_refl _) (.int .i64 fl)).setCell (p := ⟨w.heap.size, 2, none⟩) (Nat.le_refl _) (.int .i64 nv)).setCell (p := ⟨w.heap.size, 3, none⟩) (Nat.le_refl _) (.slice none 0 0)).setCell (p := ⟨w.heap.size, 4, none⟩) (Nat.le_refl _) (.slice none 0 0))
        have BN := Lib.hid (((((B6.setCell (p := ⟨w.heap.size, 0, none⟩) (Nat.le_refl _) (.int .i64 0)).setCell (p := ⟨w.heap.size, 1, none⟩) (Nat.le_refl _) (.int .i64 0)).setCell (p := ⟨w.heap.size, 2, none⟩) (Nat.le_refl _) (.int .i64 0)).setCell (p := ⟨w.heap.size, 3, none⟩) (Nat.le_refl _) (.slice none 0 0)).setCell (p := ⟨w.heap.size, 4, none⟩) (Nat.le_refl _) (.slice none 0 0))
        have OF := Lib.hid (own_mono (b' := w.heap.size) (ownsRow_setCell_below (ownsRow_setCell_below (ownsRow_setCell_below (ownsRow_setCell_below (ownsRow_setCell_below O6 (a := ⟨w.heap.size, 0, none⟩) hlo (.int .i64 k)) (a := ⟨w.heap.size, 1, none⟩) hlo (.int .i64 fl)) (a := ⟨w.heap.size, 2, none⟩) hlo (.int .i64 nv)) (a := ⟨w.heap.size, 3, none⟩) hlo (.slice none 0 0)) (a := ⟨w.heap.size, 4, none⟩) hlo (.slice none 0 0)) (Nat.le_of_lt hlo))
        have PF := Lib.hid (own_mono (b' := w.heap.size) (ownsRow_setCell_below (ownsRow_setCell_below (ownsRow_setCell_below (ownsRow_setCell_below (ownsRow_setCell_below P6 (a := ⟨w.heap.size, 0, none⟩) hlo (.int .i64 k)) (a := ⟨w.heap.size, 1, none⟩) hlo (.int .i64 fl)) (a := ⟨w.heap.size, 2, none⟩) hlo (.int .i64 nv)) (a := ⟨w.heap.size, 3, none⟩) hlo (.slice none 0 0)) (a := ⟨w.heap.size, 4, none⟩) hlo (.slice none 0 0)) (Nat.le_of_lt hlo))
        clear R6 X6 O6 P6 B6 b6
        by_cases e : wishS ⟨k, fl, nv, [], []⟩ = s
        · have HP := Lib.hid (HEND.out.1 e)
          have q9 := ba_yes e
          clear e HEND
          go_wp2
          refine bodyPost_ret (v := .tuple #[.agg #[.int .i64 k, .int .i64 fl, .int .i64 nv, .slice none 0 0, .slice none 0 0], .bool true]) (by simp [results, Try.results26, go_sem, c0, c1, c2, c3, c4]) rfl ?_
          refine ⟨_, _, ret_wb (x := ⟨k, fl, nv, [], []⟩) (b := true) ⟨HP.out.1.symm, HP.out.2.symm⟩, ?_, BF.out⟩
          rw [HP.out.1]
          exact ⟨OF.out, PF.out, far_nilR _⟩
        · have HP := Lib.hid (HEND.out.2 e)
          have q9 := ba_no e
          clear e HEND
          go_wp2
          refine bodyPost_ret (v := .tuple #[.agg #[.int .i64 0, .int .i64 0, .int .i64 0, .slice none 0 0, .slice none 0 0], .bool false]) (by simp [results, Try.results26, go_sem, c0, c1, c2, c3, c4]) rfl ?_
          refine ⟨_, _, ret_wb (x := zeroW) (u := .slice none 0 0) (v := .slice none 0 0) (b := false) ⟨HP.out.1.symm, HP.out.2.symm⟩, ?_, BN.out⟩
          rw [HP.out.1]; exact ownW_nil _ _
      have s2 : (k == 2) = false := by simp [n2]
      by_cases n3 : k = 3
      · have s3 : (k == 3) = true := by simp [n3]
        have N3 := Lib.hid n3
        clear n3
        have xk : (w5.setCell ⟨w2.heap.size, 0, none⟩ (.int .i64 k)).cell? ⟨w2.heap.size, 0, none⟩ = some (.int .i64 k) := X6.cell 0
        have x6l := X6.lt
        have XH6 := Lib.hid X6
        have RH6 := Lib.hid R6
        have BH6 := Lib.hid B6
        clear X6 R6 B6
        have HC0 : Hid (candI a b (some c9) = ⟨k, fl, 0, rdN c9, []⟩) := by
          show _ = _
          unfold candI
          rw [HKI.out, HFL.out, if_neg n2, if_pos N3.out, if_neg (by have := N3.out; omega)]
        go_wp2_with fail
        refine (readNumbers _ hargs2).mono ?_
        rintro e w7 ⟨vq, rfl, Oq, b7⟩
        have FQ : Hid (∀ y ∈ rdN c9, Fit y) := by
          show ∀ y ∈ rdN c9, Fit y
          intro y hy
          unfold rdN at hy
          obtain ⟨t, _, rfl⟩ := List.mem_map.1 hy
          exact piN_fit _
        obtain ⟨rl, hrl9⟩ : ∃ rl, rdN c9 = rl := ⟨_, rfl⟩
        rw [hrl9] at HC0 Oq FQ
        have HC := HC0
        obtain ⟨A5, c5, rfl, _, _⟩ := own_form Oq.1
        have z7 := b7.size
        rw [zW] at z7
        have X7 := XH6.out.below b7 XH6.out.lt
        have R7 := RH6.out.below b7 RH6.out.lt
        have B7 := BH6.out.trans (b7.mono BH6.out.size)
        have fr7 := X7.free 3
        have xlt7 := X7.lt
        have xc7 : w7.cell? ⟨w2.heap.size, 3, none⟩ = some (.slice none 0 0) := X7.cell 3
        have O7 := own_mono (b' := w2.heap.size + 1) Oq.1 (by rw [zW]; omega)
        have XX : Row (w7.setCell ⟨w2.heap.size, 3, none⟩ (.slice A5 rl.length c5)) w2.heap.size 30 [.int .i64 k, .int .i64 fl, .int .i64 0, .slice A5 rl.length c5, .slice none 0 0] := X7.set 3 (.slice A5 rl.length c5)
        have RX := R7.far (p := ⟨w2.heap.size, 3, none⟩) (by show w.heap.size ≠ w2.heap.size; omega) (.slice A5 rl.length c5)
        have BB := B7.setCell (p := ⟨w2.heap.size, 3, none⟩) (by show w.heap.size ≤ w2.heap.size; omega) (.slice A5 rl.length c5)
        have hlo : w.heap.size < w2.heap.size + 1 := by omega
        have OL := ownsRow_setCell_below O7 (a := ⟨w2.heap.size, 3, none⟩) (by show w2.heap.size < w2.heap.size + 1; omega) (.slice A5 rl.length c5)
        have S1 : Sl RI 1 (w7.setCell ⟨w2.heap.size, 3, none⟩ (.slice A5 rl.length c5)) (w7.setCell ⟨w2.heap.size, 3, none⟩ (.slice A5 rl.length c5)).heap.size A5 rl.length c5 rl := by
          obtain ⟨A', n', c', e', hS⟩ := own_ints OL FQ.out
          injection e' with e1 e2 e3
          subst e1 e2 e3
          exact hS
        have HEND : Hid ((wishS ⟨k, fl, 0, rl, []⟩ = s → parW s = ⟨k, fl, 0, rl, []⟩ ∧ parWB s = true) ∧ (wishS ⟨k, fl, 0, rl, []⟩ ≠ s → parW s = zeroW ∧ parWB s = false)) := by
          have h9 := HE.out _ HCAND.out
          rw [HC.out] at h9
          exact h9
        have FF : Hid (FitW ⟨k, fl, 0, rl, []⟩) := ⟨FK, FL, by unfold Fit; simp, FQ.out, by simp⟩
        have OP : ((w7.setCell ⟨w2.heap.size, 3, none⟩ (.slice A5 rl.length c5))).ownsRow (w2.heap.size + 1) 82 2 (.slice none 0 0) 0 (prc []) := World.ownsRow_nil _ _ _ _
        have S2 : Sl RP 2 ((w7.setCell ⟨w2.heap.size, 3, none⟩ (.slice A5 rl.length c5))) ((w7.setCell ⟨w2.heap.size, 3, none⟩ (.slice A5 rl.length c5))).heap.size none 0 0 [] := Sl.nil _ _
        clear X7 R7 B7 b7 O7 Oq n2
        have y0 : (w7.setCell ⟨w2.heap.size, 3, none⟩ (.slice A5 rl.length c5)).cell? ⟨w2.heap.size, 0, none⟩ = some (.int .i64 k) := XX.cell 0
        have y1 : (w7.setCell ⟨w2.heap.size, 3, none⟩ (.slice A5 rl.length c5)).cell? ⟨w2.heap.size, 1, none⟩ = some (.int .i64 fl) := XX.cell 1
        have y2 : (w7.setCell ⟨w2.heap.size, 3, none⟩ (.slice A5 rl.length c5)).cell? ⟨w2.heap.size, 2, none⟩ = some (.int .i64 0) := XX.cell 2
        have y3 : (w7.setCell ⟨w2.heap.size, 3, none⟩ (.slice A5 rl.length c5)).cell? ⟨w2.heap.size, 3, none⟩ = some (.slice A5 rl.length c5) := XX.cell 3
        have y4 : (w7.setCell ⟨w2.heap.size, 3, none⟩ (.slice A5 rl.length c5)).cell? ⟨w2.heap.size, 4, none⟩ = some (.slice none 0 0) := XX.cell 4
        have hltx := XX.lt
        have hltr := RX.lt
        have XH := Lib.hid XX
        have RH := Lib.hid RX
        have OLH := Lib.hid OL
        have OPH := Lib.hid OP
        have BH := Lib.hid BB
        clear XX RX OL OP BB
        go_wp2_with fail
        refine (implFormatWish (x := ⟨k, fl, 0, rl, []⟩) _ S1 S2 FF.out.1 FF.out.2.1 FF.out.2.2.1).mono ?_
        rintro e w6 ⟨rfl, b6⟩
        clear y0 y1 y2 y3 y4 S1 S2
        have R6 := RH.out.below b6 hltr
        have X6 := XH.out.below b6 hltx
        have O6 := own_below OLH.out b6
        have P6 := own_below OPH.out b6
        have B6 := BH.out.trans (b6.mono BH.out.size)
        have f0 := R6.free 0
        have f1 := R6.free 1
        have f2 := R6.free 2
        have f3 := R6.free 3
        have f4 := R6.free 4
        have hlt := R6.lt
        have hlty := X6.lt
        have c0 : w6.cell? ⟨w.heap.size, 0, none⟩ = some (.int .i64 0) := R6.cell 0
        have c1 : w6.cell? ⟨w.heap.size, 1, none⟩ = some (.int .i64 0) := R6.cell 1
        have c2 : w6.cell? ⟨w.heap.size, 2, none⟩ = some (.int .i64 0) := R6.cell 2
        have c3 : w6.cell? ⟨w.heap.size, 3, none⟩ = some (.slice none 0 0) := R6.cell 3
        have c4 : w6.cell? ⟨w.heap.size, 4, none⟩ = some (.slice none 0 0) := R6.cell 4
        have y0 : w6.cell? ⟨w2.heap.size, 0, none⟩ = some (.int .i64 k) := X6.cell 0
        have y1 : w6.cell? ⟨w2.heap.size, 1, none⟩ = some (.int .i64 fl) := X6.cell 1
        have y2 : w6.cell? ⟨w2.heap.size, 2, none⟩ = some (.int .i64 0) := X6.cell 2
        have y3 : w6.cell? ⟨w2.heap.size, 3, none⟩ = some (.slice A5 rl.length c5) := X6.cell 3
        have y4 : w6.cell? ⟨w2.heap.size, 4, none⟩ = some (.slice none 0 0) := X6.cell 4
        have BF := Lib.hid (((((B6.setCell (p := ⟨w.heap.size, 0, none⟩) (Nat.le_refl _) (.int .i64 k)).setCell (p := ⟨w.heap.size, 1, none⟩) (Nat.le_refl _) (.int .i64 fl)).setCell (p := ⟨w.heap.size, 2, none⟩) (Nat.le_refl _) (.int .i64 0)).setCell (p := ⟨w.heap.size, 3, none⟩) (Nat.le_refl _) (.slice A5 rl.length c5)).setCell (p := ⟨w.heap.size, 4, none⟩) (Nat.le_refl _) (.slice none 0 0))
        have BN := Lib.hid (((((B6.setCell (p := ⟨w.heap.size, 0, none⟩) (Nat.le_refl _) (.int .i64 0)).setCell (p := ⟨w.heap.size, 1, none⟩) (Nat.le_refl _) (.int .i64 0)).setCell (p := ⟨w.heap.size, 2, none⟩) (Nat.le_refl _) (.int .i64 0)).setCell (p := ⟨w.heap.size, 3, none⟩) (Nat.le_refl _) (.slice none 0 0)).setCell (p := ⟨w.heap.size, 4, none⟩) (Nat.le_refl _) (.slice none 0 0))
        have OF := Lib.hid (own_mono (b' := w.heap.size) (ownsRow_setCell_below (ownsRow_setCell_below (ownsRow_setCell_below (ownsRow_setCell_below (ownsRow_setCell_below O6 (a := ⟨w.heap.size, 0, none⟩) hlo (.int .i64 k)) (a := ⟨w.heap.size, 1, none⟩) hlo (.int .i64 fl)) (a := ⟨w.heap.size, 2, none⟩) hlo (.int .i64 0)) (a := ⟨w.heap.size, 3, none⟩) hlo (.slice A5 rl.length c5)) (a := ⟨w.heap.size, 4, none⟩) hlo (.slice none 0 0)) (Nat.le_of_lt hlo))
        have PF := Lib.hid (own_mono (b' := w.heap.size) (ownsRow_setCell_below (ownsRow_setCell_below (ownsRow_setCell_below (ownsRow_setCell_below (ownsRow_setCell_below P6 (a := ⟨w.heap.size, 0, none⟩) hlo (.int .i64 k)) (a := ⟨w.heap.size, 1, none⟩) hlo (.int .i64 fl)) (a := ⟨w.heap.size, 2, none⟩) hlo (.int .i64 0)) (a := ⟨w.heap.size, 3, none⟩) hlo (.slice A5 rl.length c5)) (a := ⟨w.heap.size, 4, none⟩) hlo (.slice none 0 0)) (Nat.le_of_lt hlo))
        clear R6 X6 O6 P6 B6 b6
        by_cases e : wishS ⟨k, fl, 0, rl, []⟩ = s
        · have HP := Lib.hid (HEND.out.1 e)
          have q9 := ba_yes e
          clear e HEND
          go_wp2
          refine bodyPost_ret (v := .tuple #[.agg #[.int .i64 k, .int .i64 fl, .int .i64 0, .slice A5 rl.length c5, .slice none 0 0], .bool true]) (by simp [results, Try.results26, go_sem, c0, c1, c2, c3, c4]) rfl ?_
          refine ⟨_, _, ret_wb (x := ⟨k, fl, 0, rl, []⟩) (b := true) ⟨HP.out.1.symm, HP.out.2.symm⟩, ?_, BF.out⟩
          rw [HP.out.1]
          exact ⟨OF.out, PF.out, far_nilR _⟩
        · have HP := Lib.hid (HEND.out.2 e)
          have q9 := ba_no e
          clear e HEND
          go_wp2
          refine bodyPost_ret (v := .tuple #[.agg #[.int .i64 0, .int .i64 0, .int .i64 0, .slice none 0 0, .slice none 0 0], .bool false]) (by simp [results, Try.results26, go_sem, c0, c1, c2, c3, c4]) rfl ?_
          refine ⟨_, _, ret_wb (x := zeroW) (u := .slice none 0 0) (v := .slice none 0 0) (b := false) ⟨HP.out.1.symm, HP.out.2.symm⟩, ?_, BN.out⟩
          rw [HP.out.1]; exact ownW_nil _ _
      have s3 : (k == 3) = false := by simp [n3]
      by_cases n4 : k = 4
      · have s4 : (k == 4) = true := by simp [n4]
        have N4 := Lib.hid n4
        clear n4
        have xk : (w5.setCell ⟨w2.heap.size, 0, none⟩ (.int .i64 k)).cell? ⟨w2.heap.size, 0, none⟩ = some (.int .i64 k) := X6.cell 0
        have x6l := X6.lt
        have XH6 := Lib.hid X6
        have RH6 := Lib.hid R6
        have BH6 := Lib.hid B6
        clear X6 R6 B6
        have HC0 : Hid (candI a b (some c9) = ⟨k, fl, 0, [], parP c9⟩) := by
          show _ = _
          unfold candI
          rw [HKI.out, HFL.out, if_neg n2, if_neg n3, if_pos N4.out]
        go_wp2_with fail
        refine (implParsePairs _ hargs2).mono ?_
        rintro e w7 ⟨vq, rfl, Oq, b7⟩
        have FQ := Lib.hid (parP_fit c9)
        obtain ⟨ps, hps⟩ : ∃ ps, parP c9 = ps := ⟨_, rfl⟩
        rw [hps] at HC0 Oq FQ
        have HC := HC0
        obtain ⟨E5, d5, rfl, _, _⟩ := own_form Oq.1
        have z7 := b7.size
        rw [zW] at z7
        have X7 := XH6.out.below b7 XH6.out.lt
        have R7 := RH6.out.below b7 RH6.out.lt
        have B7 := BH6.out.trans (b7.mono BH6.out.size)
        have fr7 := X7.free 4
        have xlt7 := X7.lt
        have xc7 : w7.cell? ⟨w2.heap.size, 4, none⟩ = some (.slice none 0 0) := X7.cell 4
        have O7 := own_mono (b' := w2.heap.size + 1) Oq.1 (by rw [zW]; omega)
        have XX : Row (w7.setCell ⟨w2.heap.size, 4, none⟩ (.slice E5 ps.length d5)) w2.heap.size 30 [.int .i64 k, .int .i64 fl, .int .i64 0, .slice none 0 0, .slice E5 ps.length d5] := X7.set 4 (.slice E5 ps.length d5)
        have RX := R7.far (p := ⟨w2.heap.size, 4, none⟩) (by show w.heap.size ≠ w2.heap.size; omega) (.slice E5 ps.length d5)
        have BB := B7.setCell (p := ⟨w2.heap.size, 4, none⟩) (by show w.heap.size ≤ w2.heap.size; omega) (.slice E5 ps.length d5)
        have hlo : w.heap.size < w2.heap.size + 1 := by omega
        have OP := ownsRow_setCell_below O7 (a := ⟨w2.heap.size, 4, none⟩) (by show w2.heap.size < w2.heap.size + 1; omega) (.slice E5 ps.length d5)
        have S2 : Sl RP 2 (w7.setCell ⟨w2.heap.size, 4, none⟩ (.slice E5 ps.length d5)) (w7.setCell ⟨w2.heap.size, 4, none⟩ (.slice E5 ps.length d5)).heap.size E5 ps.length d5 ps := by
          obtain ⟨A', n', c', e', hS⟩ := own_pairs OP FQ.out
          injection e' with e1 e2 e3
          subst e1 e2 e3
          exact hS
        have HEND : Hid ((wishS ⟨k, fl, 0, [], ps⟩ = s → parW s = ⟨k, fl, 0, [], ps⟩ ∧ parWB s = true) ∧ (wishS ⟨k, fl, 0, [], ps⟩ ≠ s → parW s = zeroW ∧ parWB s = false)) := by
          have h9 := HE.out _ HCAND.out
          rw [HC.out] at h9
          exact h9
        have FF : Hid (FitW ⟨k, fl, 0, [], ps⟩) := ⟨FK, FL, by unfold Fit; simp, by simp, FQ.out⟩
        have OL : ((w7.setCell ⟨w2.heap.size, 4, none⟩ (.slice E5 ps.length d5))).ownsRow (w2.heap.size + 1) 3 1 (.slice none 0 0) 0 (([] : List Int).map (Value.int .i64)) := World.ownsRow_nil _ _ _ _
        have S1 : Sl RI 1 ((w7.setCell ⟨w2.heap.size, 4, none⟩ (.slice E5 ps.length d5))) ((w7.setCell ⟨w2.heap.size, 4, none⟩ (.slice E5 ps.length d5))).heap.size none 0 0 [] := Sl.nil _ _
        clear X7 R7 B7 b7 O7 Oq n2 n3
        have y0 : (w7.setCell ⟨w2.heap.size, 4, none⟩ (.slice E5 ps.length d5)).cell? ⟨w2.heap.size, 0, none⟩ = some (.int .i64 k) := XX.cell 0
        have y1 : (w7.setCell ⟨w2.heap.size, 4, none⟩ (.slice E5 ps.length d5)).cell? ⟨w2.heap.size, 1, none⟩ = some (.int .i64 fl) := XX.cell 1
        have y2 : (w7.setCell ⟨w2.heap.size, 4, none⟩ (.slice E5 ps.length d5)).cell? ⟨w2.heap.size, 2, none⟩ = some (.int .i64 0) := XX.cell 2
        have y3 : (w7.setCell ⟨w2.heap.size, 4, none⟩ (.slice E5 ps.length d5)).cell? ⟨w2.heap.size, 3, none⟩ = some (.slice none 0 0) := XX.cell 3
        have y4 : (w7.setCell ⟨w2.heap.size, 4, none⟩ (.slice E5 ps.length d5)).cell? ⟨w2.heap.size, 4, none⟩ = some (.slice E5 ps.length d5) := XX.cell 4
        have hltx := XX.lt
        have hltr := RX.lt
        have XH := Lib.hid XX
        have RH := Lib.hid RX
        have OLH := Lib.hid OL
        have OPH := Lib.hid OP
        have BH := Lib.hid BB
        clear XX RX OL OP BB
        go_wp2_with fail
        refine (implFormatWish (x := ⟨k, fl, 0, [], ps⟩) _ S1 S2 FF.out.1 FF.out.2.1 FF.out.2.2.1).mono ?_
        rintro e w6 ⟨rfl, b6⟩
        clear y0 y1 y2 y3 y4 S1 S2
        have R6 := RH.out.below b6 hltr
        have X6 := XH.out.below b6 hltx
        have O6 := own_below OLH.out b6
        have P6 := own_below OPH.out b6
        have B6 := BH.out.trans (b6.mono BH.out.size)
        have f0 := R6.free 0
        have f1 := R6.free 1
        have f2 := R6.free 2
        have f3 := R6.free 3
        have f4 := R6.free 4
        have hlt := R6.lt
        have hlty := X6.lt
        have c0 : w6.cell? ⟨w.heap.size, 0, none⟩ = some (.int .i64 0) := R6.cell 0
        have c1 : w6.cell? ⟨w.heap.size, 1, none⟩ = some (.int .i64 0) := R6.cell 1
        have c2 : w6.cell? ⟨w.heap.size, 2, none⟩ = some (.int .i64 0) := R6.cell 2
        have c3 : w6.cell? ⟨w.heap.size, 3, none⟩ = some (.slice none 0 0) := R6.cell 3
        have c4 : w6.cell? ⟨w.heap.size, 4, none⟩ = some (.slice none 0 0) := R6.cell 4
        have y0 : w6.cell? ⟨w2.heap.size, 0, none⟩ = some (.int .i64 k) := X6.cell 0
        have y1 : w6.cell? ⟨w2.heap.size, 1, none⟩ = some (.int .i64 fl) := X6.cell 1
        have y2 : w6.cell? ⟨w2.heap.size, 2, none⟩ = some (.int .i64 0) := X6.cell 2
        have y3 : w6.cell? ⟨w2.heap.size, 3, none⟩ = some (.slice none 0 0) := X6.cell 3
        have y4 : w6.cell? ⟨w2.heap.size, 4, none⟩ = some (.slice E5 ps.length d5) := X6.cell 4
        have BF := Lib.hid (((((B6.setCell (p := ⟨w.heap.size, 0, none⟩) (Nat.le_refl _) (.int .i64 k)).setCell (p := ⟨w.heap.size, 1, none⟩) (Nat.le_refl _) (.int .i64 fl)).setCell (p := ⟨w.heap.size, 2, none⟩) (Nat.le_refl _) (.int .i64 0)).setCell (p := ⟨w.heap.size, 3, none⟩) (Nat.le_refl _) (.slice none 0 0)).setCell (p := ⟨w.heap.size, 4, none⟩) (Nat.le_refl _) (.slice E5 ps.length d5))
        have BN := Lib.hid (((((B6.setCell (p := ⟨w.heap.size, 0, none⟩) (Nat.le_refl _) (.int .i64 0)).setCell (p := ⟨w.heap.size, 1, none⟩) (Nat.le_refl _) (.int .i64 0)).setCell (p := ⟨w.heap.size, 2, none⟩) (Nat.le_refl _) (.int .i64 0)).setCell (p := ⟨w.heap.size, 3, none⟩) (Nat.le_refl _) (.slice none 0 0)).setCell (p := ⟨w.heap.size, 4, none⟩) (Nat.le_refl _) (.slice none 0 0))
        have OF := Lib.hid (own_mono (b' := w.heap.size) (ownsRow_setCell_below (ownsRow_setCell_below (ownsRow_setCell_below (ownsRow_setCell_below (ownsRow_setCell_below O6 (a := ⟨w.heap.size, 0, none⟩) hlo (.int .i64 k)) (a := ⟨w.heap.size, 1, none⟩) hlo (.int .i64 fl)) (a := ⟨w.heap.size, 2, none⟩) hlo (.int .i64 0)) (a := ⟨w.heap.size, 3, none⟩) hlo (.slice none 0 0)) (a := ⟨w.heap.size, 4, none⟩) hlo (.slice E5 ps.length d5)) (Nat.le_of_lt hlo))
        have PF := Lib.hid (own_mono (b' := w.heap.size) (ownsRow_setCell_below (ownsRow_setCell_below (ownsRow_setCell_below (ownsRow_setCell_below (ownsRow_setCell_below P6 (a := ⟨w.heap.size, 0, none⟩) hlo (.int .i64 k)) (a := ⟨w.heap.size, 1, none⟩) hlo (.int .i64 fl)) (a := ⟨w.heap.size, 2, none⟩) hlo (.int .i64 0)) (a := ⟨w.heap.size, 3, none⟩) hlo (.slice none 0 0)) (a := ⟨w.heap.size, 4, none⟩) hlo (.slice E5 ps.length d5)) (Nat.le_of_lt hlo))
        clear R6 X6 O6 P6 B6 b6
        by_cases e : wishS ⟨k, fl, 0, [], ps⟩ = s
        · have HP := Lib.hid (HEND.out.1 e)
          have q9 := ba_yes e
          clear e HEND
          go_wp2
          refine bodyPost_ret (v := .tuple #[.agg #[.int .i64 k, .int .i64 fl, .int .i64 0, .slice none 0 0, .slice E5 ps.length d5], .bool true]) (by simp [results, Try.results26, go_sem, c0, c1, c2, c3, c4]) rfl ?_
          refine ⟨_, _, ret_wb (x := ⟨k, fl, 0, [], ps⟩) (b := true) ⟨HP.out.1.symm, HP.out.2.symm⟩, ?_, BF.out⟩
          rw [HP.out.1]
          exact ⟨OF.out, PF.out, .inl rfl⟩
        · have HP := Lib.hid (HEND.out.2 e)
          have q9 := ba_no e
          clear e HEND
          go_wp2
          refine bodyPost_ret (v := .tuple #[.agg #[.int .i64 0, .int .i64 0, .int .i64 0, .slice none 0 0, .slice none 0 0], .bool false]) (by simp [results, Try.results26, go_sem, c0, c1, c2, c3, c4]) rfl ?_
          refine ⟨_, _, ret_wb (x := zeroW) (u := .slice none 0 0) (v := .slice none 0 0) (b := false) ⟨HP.out.1.symm, HP.out.2.symm⟩, ?_, BN.out⟩
          rw [HP.out.1]; exact ownW_nil _ _
      have s4 : (k == 4) = false := by simp [n4]
      have HC : Hid (candI a b (some c9) = ⟨k, fl, 0, [], []⟩) := by
        show _ = _
        unfold candI
        rw [HKI.out, HFL.out]
        rw [if_neg n2, if_neg n3, if_neg n4]
      have HEND : Hid ((wishS ⟨k, fl, 0, [], []⟩ = s → parW s = ⟨k, fl, 0, [], []⟩ ∧ parWB s = true) ∧ (wishS ⟨k, fl, 0, [], []⟩ ≠ s → parW s = zeroW ∧ parWB s = false)) := by
        have h9 := HE.out _ HCAND.out
        rw [HC.out] at h9
        exact h9
      have FF : Hid (FitW ⟨k, fl, 0, [], []⟩) := ⟨FK, FL, by unfold Fit; simp, by simp, by simp⟩
      have XX := X6
      have RX := R6
      have BB := B6
      have hlo : w.heap.size < w2.heap.size + 1 := by omega
      have OL : ((w5.setCell ⟨w2.heap.size, 0, none⟩ (.int .i64 k))).ownsRow (w2.heap.size + 1) 3 1 (.slice none 0 0) 0 (([] : List Int).map (Value.int .i64)) := World.ownsRow_nil _ _ _ _
      have S1 : Sl RI 1 ((w5.setCell ⟨w2.heap.size, 0, none⟩ (.int .i64 k))) ((w5.setCell ⟨w2.heap.size, 0, none⟩ (.int .i64 k))).heap.size none 0 0 [] := Sl.nil _ _
      have OP : ((w5.setCell ⟨w2.heap.size, 0, none⟩ (.int .i64 k))).ownsRow (w2.heap.size + 1) 82 2 (.slice none 0 0) 0 (prc []) := World.ownsRow_nil _ _ _ _
      have S2 : Sl RP 2 ((w5.setCell ⟨w2.heap.size, 0, none⟩ (.int .i64 k))) ((w5.setCell ⟨w2.heap.size, 0, none⟩ (.int .i64 k))).heap.size none 0 0 [] := Sl.nil _ _
      clear X6 R6 B6 n2 n3 n4
      have y0 : (w5.setCell ⟨w2.heap.size, 0, none⟩ (.int .i64 k)).cell? ⟨w2.heap.size, 0, none⟩ = some (.int .i64 k) := XX.cell 0
      have y1 : (w5.setCell ⟨w2.heap.size, 0, none⟩ (.int .i64 k)).cell? ⟨w2.heap.size, 1, none⟩ = some (.int .i64 fl) := XX.cell 1
      have y2 : (w5.setCell ⟨w2.heap.size, 0, none⟩ (.int .i64 k)).cell? ⟨w2.heap.size, 2, none⟩ = some (.int .i64 0) := XX.cell 2
      have y3 : (w5.setCell ⟨w2.heap.size, 0, none⟩ (.int .i64 k)).cell? ⟨w2.heap.size, 3, none⟩ = some (.slice none 0 0) := XX.cell 3
      have y4 : (w5.setCell ⟨w2.heap.size, 0, none⟩ (.int .i64 k)).cell? ⟨w2.heap.size, 4, none⟩ = some (.slice none 0 0) := XX.cell 4
      have hltx := XX.lt
      have hltr := RX.lt
      have XH := Lib.hid XX
      have RH := Lib.hid RX
      have OLH := Lib.hid OL
      have OPH := Lib.hid OP
      have BH := Lib.hid BB
      clear XX RX OL OP BB
      go_wp2_with fail
      refine (implFormatWish (x := ⟨k, fl, 0, [], []⟩) _ S1 S2 FF.out.1 FF.out.2.1 FF.out.2.2.1).mono ?_
      rintro e w6 ⟨rfl, b6⟩
      clear y0 y1 y2 y3 y4 S1 S2
      have R6 := RH.out.below b6 hltr
      have X6 := XH.out.below b6 hltx
      have O6 := own_below OLH.out b6
      have P6 := own_below OPH.out b6
      have B6 := BH.out.trans (b6.mono BH.out.size)
      have f0 := R6.free 0
      have f1 := R6.free 1
      have f2 := R6.free 2
      have f3 := R6.free 3
      have f4 := R6.free 4
      have hlt := R6.lt
      have hlty := X6.lt
      have c0 : w6.cell? ⟨w.heap.size, 0, none⟩ = some (.int .i64 0) := R6.cell 0
      have c1 : w6.cell? ⟨w.heap.size, 1, none⟩ = some (.int .i64 0) := R6.cell 1
      have c2 : w6.cell? ⟨w.heap.size, 2, none⟩ = some (.int .i64 0) := R6.cell 2
      have c3 : w6.cell? ⟨w.heap.size, 3, none⟩ = some (.slice none 0 0) := R6.cell 3
      have c4 : w6.cell? ⟨w.heap.size, 4, none⟩ = some (.slice none 0 0) := R6.cell 4
      have y0 : w6.cell? ⟨w2.heap.size, 0, none⟩ = some (.int .i64 k) := X6.cell 0
      have y1 : w6.cell? ⟨w2.heap.size, 1, none⟩ = some (.int .i64 fl) := X6.cell 1
      have y2 : w6.cell? ⟨w2.heap.size, 2, none⟩ = some (.int .i64 0) := X6.cell 2
      have y3 : w6.cell? ⟨w2.heap.size, 3, none⟩ = some (.slice none 0 0) := X6.cell 3
      have y4 : w6.cell? ⟨w2.heap.size, 4, none⟩ = some (.slice none 0 0) := X6.cell 4
      have BF := Lib.hid (((((B6.setCell (p := ⟨w.heap.size, 0, none⟩) (Nat.le_refl _) (.int .i64 k)).setCell (p := ⟨w.heap.size, 1, none⟩) (Nat.le_refl _) (.int .i64 fl)).setCell (p := ⟨w.heap.size, 2, none⟩) (Nat.le_refl _) (.int .i64 0)).setCell (p := ⟨w.heap.size, 3, none⟩) (Nat.le_refl _) (.slice none 0 0)).setCell (p := ⟨w.heap.size, 4, none⟩) (Nat.le_refl _) (.slice none 0 0))
      have BN := Lib.hid (((((B6.setCell (p := ⟨w.heap.size, 0, none⟩) (Nat.le_refl _) (.int .i64 0)).setCell (p := ⟨w.heap.size, 1, none⟩) (Nat.le_refl _) (.int .i64 0)).setCell (p := ⟨w.heap.size, 2, none⟩) (Nat.le_refl _) (.int .i64 0)).setCell (p := ⟨w.heap.size, 3, none⟩) (Nat.le_refl _) (.slice none 0 0)).setCell (p := ⟨w.heap.size, 4, none⟩) (Nat.le_refl _) (.slice none 0 0))
      have OF := Lib.hid (own_mono (b' := w.heap.size) (ownsRow_setCell_below (ownsRow_setCell_below (ownsRow_setCell_below (ownsRow_setCell_below (ownsRow_setCell_below O6 (a := ⟨w.heap.size, 0, none⟩) hlo (.int .i64 k)) (a := ⟨w.heap.size, 1, none⟩) hlo (.int .i64 fl)) (a := ⟨w.heap.size, 2, none⟩) hlo (.int .i64 0)) (a := ⟨w.heap.size, 3, none⟩) hlo (.slice none 0 0)) (a := ⟨w.heap.size, 4, none⟩) hlo (.slice none 0 0)) (Nat.le_of_lt hlo))
      have PF := Lib.hid (own_mono (b' := w.heap.size) (ownsRow_setCell_below (ownsRow_setCell_below (ownsRow_setCell_below (ownsRow_setCell_below (ownsRow_setCell_below P6 (a := ⟨w.heap.size, 0, none⟩) hlo (.int .i64 k)) (a := ⟨w.heap.size, 1, none⟩) hlo (.int .i64 fl)) (a := ⟨w.heap.size, 2, none⟩) hlo (.int .i64 0)) (a := ⟨w.heap.size, 3, none⟩) hlo (.slice none 0 0)) (a := ⟨w.heap.size, 4, none⟩) hlo (.slice none 0 0)) (Nat.le_of_lt hlo))
      clear R6 X6 O6 P6 B6 b6
      by_cases e : wishS ⟨k, fl, 0, [], []⟩ = s
      · have HP := Lib.hid (HEND.out.1 e)
        have q9 := ba_yes e
        clear e HEND
        go_wp2
        refine bodyPost_ret (v := .tuple #[.agg #[.int .i64 k, .int .i64 fl, .int .i64 0, .slice none 0 0, .slice none 0 0], .bool true]) (by simp [results, Try.results26, go_sem, c0, c1, c2, c3, c4]) rfl ?_
        refine ⟨_, _, ret_wb (x := ⟨k, fl, 0, [], []⟩) (b := true) ⟨HP.out.1.symm, HP.out.2.symm⟩, ?_, BF.out⟩
        rw [HP.out.1]
        exact ⟨OF.out, PF.out, far_nilR _⟩
      · have HP := Lib.hid (HEND.out.2 e)
        have q9 := ba_no e
        clear e HEND
        go_wp2
        refine bodyPost_ret (v := .tuple #[.agg #[.int .i64 0, .int .i64 0, .int .i64 0, .slice none 0 0, .slice none 0 0], .bool false]) (by simp [results, Try.results26, go_sem, c0, c1, c2, c3, c4]) rfl ?_
        refine ⟨_, _, ret_wb (x := zeroW) (u := .slice none 0 0) (v := .slice none 0 0) (b := false) ⟨HP.out.1.symm, HP.out.2.symm⟩, ?_, BN.out⟩
        rw [HP.out.1]; exact ownW_nil _ _
end Go.Proofs.Ytoinkpbngghloaa.Wk

namespace Go.Proofs.Ytoinkpbngghloaa.M
open Go Go.RowKit

/-- From w to w' of the old blocks only those from lo on below hi have turned. -/
structure Mk (lo hi : Nat) (w w' : World) : Prop where
  os : w'.os = w.os
  tape : w'.tape = w.tape
  output : w'.output = w.output
  size : w.heap.size ≤ w'.heap.size
  block : ∀ b, b < w.heap.size → ¬ (lo ≤ b ∧ b < hi) → w'.heap[b]? = w.heap[b]?
section
variable {w w' w'' : World} {lo hi B base E sz n : Nat} {v : Value} {xs : List Value}
theorem Mk.refl (lo hi : Nat) (w : World) : Mk lo hi w w := ⟨rfl, rfl, rfl, Nat.le_refl _, fun _ _ _ => rfl⟩
theorem Mk.trans (h : Mk lo hi w w') (h' : Mk lo hi w' w'') : Mk lo hi w w'' := ⟨h'.os.trans h.os, h'.tape.trans h.tape, h'.output.trans h.output, Nat.le_trans h.size h'.size, fun b hb hp => (h'.block b (Nat.lt_of_lt_of_le hb h.size) hp).trans (h.block b hb hp)⟩
theorem Mk.of_below (h : Below B w w') (hB : w.heap.size ≤ B) : Mk lo hi w w' := ⟨h.os, h.tape, h.output, h.size, fun b hb _ => h.block b (Nat.lt_of_lt_of_le hb hB)⟩
theorem Mk.of_chg {S : Nat → Prop} (h : Chg S w w') (hS : ∀ b, S b → lo ≤ b ∧ b < hi) : Mk lo hi w w' := ⟨h.os, h.tape, h.output, Nat.le_of_eq h.size.symm, fun b _ hn => h.block b fun hb => hn (hS b hb)⟩
theorem Mk.below (h : Mk lo hi w w') (hB : B ≤ lo) (hs : B ≤ w.heap.size) : Below B w w' := ⟨h.os, h.tape, h.output, h.size, fun b hb => h.block b (by omega) (by omega)⟩
theorem Row.mkd {g : Nat} (h : Row w g E xs) (ho : Mk lo hi w w') (hg : g < lo ∨ hi ≤ g) : Row w' g E xs := ⟨(ho.block g h.lt (by omega)).trans h.is⟩
end
end Go.Proofs.Ytoinkpbngghloaa.M

namespace Go.Proofs.Ytoinkpbngghloaa.Wk
open Go.RowKit Go.Proofs.Ytoinkpbngghloaa.M
set_option linter.unusedVariables false

theorem far_sym9 {u v : Value} (h : Far u v) : ∀ g, v.ownBlock = some g → ¬ (u.ownBlock = some g) := by
  intro g hg hh
  rcases h with h | h
  · rw [hh] at h; cases h
  · exact h (hh.trans hg.symm)
theorem far_sym8 {u v : Value} (h : Far u v) : ∀ g, u.ownBlock = some g → ¬ (v.ownBlock = some g) := fun g hg hh => far_sym9 h g hh hg
section
variable {lo hi n c m d : Nat} {A E : Option Addr} {xs : List Int} {ps : List (Int × Int)} {K F V k : Int}
theorem mark_wish (w : World) (h : OwnQ w lo hi (.slice A n c) xs) (g : OwnPs w lo hi (.slice E m d) ps) (hf : Far (.slice A n c) (.slice E m d)) (hn : xs.length = n) (hm : ps.length = m) (h0 : 0 ≤ k) (h1 : k + n + 2 * m ≤ 4611686018427387904) (hh : hi ≤ w.heap.size) :
    Calls Try.prog 27 #[.agg #[.int .i64 K, .int .i64 F, .int .i64 V, .slice A n c, .slice E m d], .int .i64 k] w fun e w' => e = .returned (.int .i64 (k + n + 2 * m)) ∧ OwnQ w' lo hi (.slice A n c) (allI n k) ∧ OwnPs w' lo hi (.slice E m d) (allP m (k + n)) ∧ Mk lo hi w w' := by
  subst hn hm
  have B1 := (Below.refl w.heap.size w).alloc (Nat.le_refl _) (.cells #[.int .i64 K, .int .i64 F, .int .i64 V, .slice A xs.length c, .slice E ps.length d] 30)
  have R1 := Row.new w 30 [.int .i64 K, .int .i64 F, .int .i64 V, .slice A xs.length c, .slice E ps.length d]
  have H := Lib.hid (h.below B1)
  have G := Lib.hid (g.below B1)
  obtain ⟨n, hn⟩ : ∃ n, xs.length = n := ⟨_, rfl⟩
  obtain ⟨m, hm⟩ : ∃ m, ps.length = m := ⟨_, rfl⟩
  have HN := Lib.hid hn
  have HM := Lib.hid hm
  have hf' := Lib.hid hf
  rw [hn, hm] at B1 R1 H G hf' ⊢
  rw [hn, hm] at h1
  clear h g hf hn hm
  go_enter Try.func27, Try.ntmps27
  go_wp2_with fail
  refine (markIntS (k := k) (xs := xs) _ (by rw [HN.out]; have := H.out.1; rw [HN.out] at this; exact this) h0 (by rw [HN.out]; omega)).mono ?_
  rw [HN.out]
  rintro e w2 ⟨rfl, o2, c2⟩
  have R2 := R1.chg c2 (fun hb => by have := H.out.2 _ hb; omega)
  have y4 : w2.cell? ⟨w.heap.size, 4, none⟩ = some (.slice E m d) := R2.cell 4
  have hlt := R2.lt
  have p2 := own_chg G.out.1 c2 (far_sym9 hf'.out)
  go_wp2_with fail
  refine (markPairS (k := k + n) (xs := ps) _ (by rw [HM.out]; rw [HM.out] at p2; exact p2) (by omega) (by rw [HM.out]; omega)).mono ?_
  rw [HM.out]
  rintro e w3 ⟨rfl, o3, c3⟩
  have o4 := own_chg o2 c3 (far_sym8 hf'.out)
  go_wp2
  go_ret
  refine ⟨rfl, ⟨by rw [allI_len]; exact o4, H.out.2⟩, ⟨by rw [allP_len]; exact o3, G.out.2⟩, ?_⟩
  refine ((Mk.of_below B1 (Nat.le_refl _)).trans (Mk.of_chg c2 fun b hb => ?_)).trans (Mk.of_chg c3 fun b hb => ?_)
  · exact ⟨(H.out.1.lt b hb).1, H.out.2 b hb⟩
  · exact ⟨(G.out.1.lt b hb).1, G.out.2 b hb⟩
theorem held_wish (w : World) (h : OwnQ w lo hi (.slice A n c) (allI n k)) (g : OwnPs w lo hi (.slice E m d) (allP m (k + n))) (h0 : 0 ≤ k) (h1 : k + n + 2 * m ≤ 4611686018427387904) :
    Calls Try.prog 28 #[.agg #[.int .i64 K, .int .i64 F, .int .i64 V, .slice A n c, .slice E m d], .int .i64 k] w fun e w' => e = .returned (.int .i64 (k + n + 2 * m)) ∧ Below w.heap.size w w' := by
  have B1 := (Below.refl w.heap.size w).alloc (Nat.le_refl _) (.cells #[.int .i64 K, .int .i64 F, .int .i64 V, .slice A n c, .slice E m d] 30)
  have H := Lib.hid (h.below B1)
  have G := Lib.hid (g.below B1)
  have q1 : ¬ (k + (n : Int) < 0) := by omega
  have q2 : ¬ (k + (n : Int) + 2 * (m : Int) < 0) := by omega
  clear h g
  go_enter Try.func28, Try.ntmps28
  go_wp2_with fail
  refine (held_ints (k := k) (m := n) _ H.out h0 (by omega)).mono ?_
  rintro e w2 ⟨rfl, rfl⟩
  go_wp2_with fail
  refine (held_pairs (k := k + n) (m := m) _ G.out (by omega) (by omega)).mono ?_
  rintro e w3 ⟨rfl, rfl⟩
  go_wp2
  go_ret
  exact ⟨rfl, B1⟩
end
end Go.Proofs.Ytoinkpbngghloaa.Wk

namespace Go.Proofs.Ytoinkpbngghloaa
open Go Go.RowKit Go.ChangeShapes Go.WideShapes Go.Deep Go.Proofs.Ytoinkpbngghloaa.M

/-- A wish by value. -/
def WishV (w : World) (v : Value) (x : Wi) : Prop := ∃ A n c E m d, v = .agg #[.int .i64 x.kind, .int .i64 x.field, .int .i64 x.value, .slice A n c, .slice E m d] ∧ Fit x.kind ∧ Fit x.field ∧ Fit x.value ∧ Sl RI 1 w w.heap.size A n c x.list ∧ Sl RP 2 w w.heap.size E m d x.pairs
set_option maxRecDepth 100000 in
theorem open_wish {H : Type} {enc : TypeId × Value → H} {W : World} {b0 : Nat} {v : Value} {d : DataW H} {p : List MemPlace} (hv : Value.okWide Try.prog W .any b0 25 v) (h : DataW.Trod enc Try.prog W 0 (fun _ => true) true 25 v d p) : ∃ l, WishV W v l := by
  obtain ⟨cs, rfl, hsz⟩ := Go.WideShapes.okWide_struct Try.underlying25 hv
  obtain ⟨fuel, hf⟩ := h
  obtain ⟨a, u, u', hcs, h1, h2, h3, ⟨A, n, c, rfl, hs⟩, ⟨E, m, d, rfl, ht⟩⟩ := opW (show DataW.trod enc Try.prog W 0 (fun _ => true) true fuel 25 cs.toList = some (_, p) from hf)
  refine ⟨a, A, n, c, E, m, d, ?_, h1, h2, h3, hs, ht⟩
  obtain ⟨l⟩ := cs
  simp at hcs
  rw [hcs]
end Go.Proofs.Ytoinkpbngghloaa

namespace Go.Proofs.Ytoinkpbngghloaa.Wk
open Go.RowKit Go.Proofs.Ytoinkpbngghloaa.M
set_option linter.unusedVariables false
attribute [local go_sem] cell_grow

theorem V_sl {α : Type} {R : Rep α} {sz B n c : Nat} {w : World} {A : Option Addr} {l : List α} (h : V R sz w B (.slice A n c) l) : Sl R sz w B A n c l := by
  obtain ⟨A', n', c', e, hs⟩ := h
  injection e with e1 e2 e3
  subst e1 e2 e3
  exact hs
/-- It returns a wish by value that reads as x. -/
abbrev RetW (w : World) (x : Wi) (e : Ending) (w' : World) : Prop :=
  ∃ A n c E m d, e = .returned (.agg #[.int .i64 x.kind, .int .i64 x.field, .int .i64 x.value, .slice A n c, .slice E m d]) ∧ Sl RI 1 w' w'.heap.size A n c x.list ∧ Sl RP 2 w' w'.heap.size E m d x.pairs ∧ Below w.heap.size w w'
/-- It returns a wish by value, whose rows are the call's own. -/
def RetWO (w : World) (x : Wi) (e : Ending) (w' : World) : Prop :=
  ∃ u v, e = .returned (.agg #[.int .i64 x.kind, .int .i64 x.field, .int .i64 x.value, u, v]) ∧ OwnW w' w.heap.size 3 82 x u v ∧ Below w.heap.size w w'
set_option maxHeartbeats 800000 in
theorem sz_wish {A E : Option Addr} {n c m d : Nat} {x : Wi} {left : Int} (w : World) (h : Sl RI 1 w w.heap.size A n c x.list) (h' : Sl RP 2 w w.heap.size E m d x.pairs) (h0 : 0 ≤ left) (h1 : left ≤ 1048576) :
    Calls Try.prog 9 #[.agg #[.int .i64 x.kind, .int .i64 x.field, .int .i64 x.value, .slice A n c, .slice E m d], .int .i64 left] w fun e w' => e = .returned (.int .i64 (less left (x.list.length + x.pairs.length))) ∧ Below w.heap.size w w' := by
  have hn := Nat.le_trans h.le h.max
  have B1 := (Below.refl w.heap.size w).alloc (Nat.le_refl _) (.cells #[.int .i64 x.kind, .int .i64 x.field, .int .i64 x.value, .slice A n c, .slice E m d] 25)
  have H' := Lib.hid (h'.on RP.keeps B1)
  have HL := Lib.hid h.len
  by_cases h2 : left < n
  · have hv : less left n = -1 := less_no h2
    have HE : Hid (less left (x.list.length + x.pairs.length) = -1) := less_no (by have := HL.out; omega)
    clear h h'
    go_enter Try.func9, Try.ntmps9
    go_wp2_with (go_at_call 29; refine (szIntS A n c left h0 h1 hn _).mono ?_; rintro e w' ⟨rfl, rfl⟩; rw [hv])
    go_ret
    exact ⟨ret_int HE.out.symm, B1⟩
  · have hv : less left n = left - n := less_fit (by omega)
    clear h h'
    by_cases h3 : left - n < x.pairs.length
    · have hv2 : less (left - n) x.pairs.length = -1 := less_no h3
      have HE : Hid (less left (x.list.length + x.pairs.length) = -1) := less_no (by have := HL.out; omega)
      go_enter Try.func9, Try.ntmps9
      go_wp2_with (first | (go_at_call 29; refine (szIntS A n c left h0 h1 hn _).mono ?_; rintro e w' ⟨rfl, rfl⟩; rw [hv]) | (go_at_call 30; refine (sz_pairs _ H'.out (by omega) (by omega)).mono ?_; rintro e w2 ⟨rfl, b2⟩; rw [hv2]))
      go_ret
      exact ⟨ret_int HE.out.symm, B1.trans (b2.mono B1.size)⟩
    · have hv2 : less (left - n) x.pairs.length = left - n - x.pairs.length := less_fit (by omega)
      have HE : Hid (less left (x.list.length + x.pairs.length) = left - n - x.pairs.length) := by
        show _ = _
        rw [less_fit (by have := HL.out; omega)]
        have := HL.out; omega
      go_enter Try.func9, Try.ntmps9
      go_wp2_with (first | (go_at_call 29; refine (szIntS A n c left h0 h1 hn _).mono ?_; rintro e w' ⟨rfl, rfl⟩; rw [hv]) | (go_at_call 30; refine (sz_pairs _ H'.out (by omega) (by omega)).mono ?_; rintro e w2 ⟨rfl, b2⟩; rw [hv2]))
      go_ret
      exact ⟨ret_int HE.out.symm, B1.trans (b2.mono B1.size)⟩
theorem eqInts_same {A A' : Option Addr} {n n' c c' : Nat} {xs : List Int} (w : World) (h : Sl RI 1 w w.heap.size A n c xs) (h' : Sl RI 1 w w.heap.size A' n' c' xs) :
    Calls Try.prog 38 #[.slice A n c, .slice A' n' c'] w fun e w' => e = .returned (.bool true) ∧ Below w.heap.size w w' :=
  (eqIntS w h h').mono fun e w' hh => by
    obtain ⟨he, hb⟩ := hh.below
    exact ⟨by rw [he]; simp, hb⟩
set_option maxHeartbeats 800000 in
theorem eq_wish {A E A' E' : Option Addr} {n c m d n' c' m' d' : Nat} {x : Wi} (w : World) (h : Sl RI 1 w w.heap.size A n c x.list) (g : Sl RP 2 w w.heap.size E m d x.pairs) (h' : Sl RI 1 w w.heap.size A' n' c' x.list) (g' : Sl RP 2 w w.heap.size E' m' d' x.pairs) :
    Calls Try.prog 13 #[.agg #[.int .i64 x.kind, .int .i64 x.field, .int .i64 x.value, .slice A n c, .slice E m d], .agg #[.int .i64 x.kind, .int .i64 x.field, .int .i64 x.value, .slice A' n' c', .slice E' m' d']] w fun e w' => e = .returned (.bool true) ∧ Below w.heap.size w w' := by
  have B2 := ((Below.refl w.heap.size w).alloc (Nat.le_refl _) (.cells #[.int .i64 x.kind, .int .i64 x.field, .int .i64 x.value, .slice A n c, .slice E m d] 30)).alloc (by simp) (.cells #[.int .i64 x.kind, .int .i64 x.field, .int .i64 x.value, .slice A' n' c', .slice E' m' d'] 30)
  have H := Lib.hid (h.on RI.keeps B2)
  have H' := Lib.hid (h'.on RI.keeps B2)
  have G := Lib.hid (g.on RP.keeps B2)
  have G' := Lib.hid (g'.on RP.keeps B2)
  have q1 : (x.kind != x.kind) = false := by simp
  have q2 : (x.field != x.field) = false := by simp
  have q3 : (x.value != x.value) = false := by simp
  clear h h' g g'
  go_enter Try.func13, Try.ntmps13
  go_wp2_with fail
  refine (eqInts_same _ H.out H'.out).mono ?_
  rintro e w2 ⟨rfl, b2⟩
  have K := G.out.on RP.keeps b2
  have K' := G'.out.on RP.keeps b2
  have hC := cell_of b2
  have z1 : w.heap.size < w2.heap.size := by have := b2.size; simp at this; omega
  have z2 : w.heap.size + 1 < w2.heap.size := by have := b2.size; simp at this; omega
  go_wp2_with fail
  refine (eq_pairs _ K K').mono ?_
  rintro e w3 ⟨rfl, b3⟩
  have B3 := (B2.trans (b2.mono B2.size)).trans (b3.mono (B2.trans (b2.mono B2.size)).size)
  clear K K' hC b2 b3 B2
  go_wp2_with fail
  go_ret
  exact ⟨rfl, B3⟩
set_option maxHeartbeats 1600000 in
theorem toWish {A E : Option Addr} {n c m d : Nat} {x : Wi} (w : World) (h : Sl RI 1 w w.heap.size A n c x.list) (g : Sl RP 2 w w.heap.size E m d x.pairs) (ht : x.list.length + x.pairs.length ≤ 1048576) :
    Calls Try.prog 11 #[.agg #[.int .i64 x.kind, .int .i64 x.field, .int .i64 x.value, .slice A n c, .slice E m d]] w (RetWO w x) := by
  have hn : n ≤ 1048576 := by have := h.len; omega
  have hb3 : ∀ o1 o2 o3, Below w.heap.size w (((w.alloc o1).alloc o2).alloc o3) := fun o1 o2 o3 => (((Below.refl _ _).alloc (Nat.le_refl _) _).alloc (by simp) _).alloc (by simp; omega) _
  go_enter Try.func11, Try.ntmps11
  go_wp2_with fail
  refine (toIntS _ (h.on RI.keeps (hb3 _ _ _)) hn).mono ?_
  rintro e w1 ⟨v1, rfl, ho1, b1⟩
  obtain ⟨A1, c1, rfl, _, _⟩ := own_form ho1
  have B0 := hb3 (.cells [Value.int .i64 x.kind, .int .i64 x.field, .int .i64 x.value, .slice A n c, .slice E m d].toArray 25) (.cells [Value.int .i64 0, .int .i64 0, .int .i64 0, .slice none 0 0, .slice none 0 0].toArray 30) (.cells [Value.int .i64 x.kind, .int .i64 x.field, .int .i64 x.value, .slice none 0 0, .slice none 0 0].toArray 30)
  have R0 := (((Row.new w 25 [.int .i64 x.kind, .int .i64 x.field, .int .i64 x.value, .slice A n c, .slice E m d]).alloc (.cells [Value.int .i64 0, .int .i64 0, .int .i64 0, .slice none 0 0, .slice none 0 0].toArray 30)).alloc (.cells [Value.int .i64 x.kind, .int .i64 x.field, .int .i64 x.value, .slice none 0 0, .slice none 0 0].toArray 30)).below b1 (by simp; omega)
  have R1 := ((Row.new (w.alloc (.cells [Value.int .i64 x.kind, .int .i64 x.field, .int .i64 x.value, .slice A n c, .slice E m d].toArray 25)) 30 [.int .i64 0, .int .i64 0, .int .i64 0, .slice none 0 0, .slice none 0 0]).alloc (.cells [Value.int .i64 x.kind, .int .i64 x.field, .int .i64 x.value, .slice none 0 0, .slice none 0 0].toArray 30)).below b1 (by simp)
  have R2 := (Row.new ((w.alloc (.cells [Value.int .i64 x.kind, .int .i64 x.field, .int .i64 x.value, .slice A n c, .slice E m d].toArray 25)).alloc (.cells [Value.int .i64 0, .int .i64 0, .int .i64 0, .slice none 0 0, .slice none 0 0].toArray 30)) 30 [.int .i64 x.kind, .int .i64 x.field, .int .i64 x.value, .slice none 0 0, .slice none 0 0]).below b1 (by simp)
  have BB := B0.trans (b1.mono B0.size)
  simp only [World.size_alloc] at R1 R2 ho1
  have K0 := Lib.hid (R0.far (p := ⟨w.heap.size + 1 + 1, 3, none⟩) (by simp; omega) (.slice A1 x.list.length c1))
  have K1 := Lib.hid (R1.far (p := ⟨w.heap.size + 1 + 1, 3, none⟩) (by simp) (.slice A1 x.list.length c1))
  have K2 := Lib.hid (R2.set 3 (.slice A1 x.list.length c1))
  have KO := Lib.hid (ownsRow_setCell_below ho1 (a := ⟨w.heap.size + 1 + 1, 3, none⟩) (by simp) (.slice A1 x.list.length c1))
  have KB := Lib.hid (BB.setCell (p := ⟨w.heap.size + 1 + 1, 3, none⟩) (by simp; omega) (.slice A1 x.list.length c1))
  have c23 := R2.cell 3
  have f23 := R2.free 3
  have c04 := R0.cell 4
  simp at c23 c04
  have z2 := R2.lt
  have z0 := R0.lt
  have K := Lib.hid (g.on RP.keeps KB.out)
  clear R0 R1 R2 b1 ho1 B0 BB hb3 h g
  go_wp2_with fail
  refine (toPairS _ K.out (by omega)).mono ?_
  rintro e w3 ⟨v2, rfl, ho2, b3⟩
  obtain ⟨E2, d2, rfl, _, _⟩ := own_form ho2
  have BB := KB.out.trans (b3.mono KB.out.size)
  have R1 := K1.out.below b3 K1.out.lt
  have R2 := K2.out.below b3 K2.out.lt
  have HFar : Hid (Far (.slice A1 x.list.length c1) (.slice E2 x.pairs.length d2)) := by
    cases hv : (Value.slice A1 x.list.length c1).ownBlock with
    | none => exact .inl hv
    | some g =>
      refine .inr fun hh => ?_
      rw [hv] at hh
      have g1 := (KO.out.lt g hv).2
      have g2 := (ho2.lt g hh.symm).1
      omega
  have O1 := Lib.hid (own_below KO.out b3)
  have O2 := Lib.hid ho2
  have c13 := R2.cell 0
  have c20 := R2.cell 0
  have c21 := R2.cell 1
  have c22 := R2.cell 2
  have c23' := R2.cell 3
  have c24 := R2.cell 4
  have f24 := R2.free 4
  have c10 := R1.cell 0
  have c11 := R1.cell 1
  have c12 := R1.cell 2
  have c13 := R1.cell 3
  have c14 := R1.cell 4
  have f10 := R1.free 0
  have f11 := R1.free 1
  have f12 := R1.free 2
  have f13 := R1.free 3
  have f14 := R1.free 4
  simp at c20 c21 c22 c23' c24 c10 c11 c12 c13 c14
  have z3 := R2.lt
  have z4 := R1.lt
  have HBB := Lib.hid BB
  have hbase : w.heap.size + 1 + 1 < (w1.setCell ⟨w.heap.size + 1 + 1, 3, none⟩ (.slice A1 x.list.length c1)).heap.size := by simpa using z2
  clear K0 K1 K2 KO KB K b3 ho2 BB R1 R2 c23 f23 c04 z2 z0
  go_wp2
  refine bodyPost_ret (v := .agg #[.int .i64 x.kind, .int .i64 x.field, .int .i64 x.value, .slice A1 x.list.length c1, .slice E2 x.pairs.length d2]) (by simp [results, Try.results11, go_sem, c10, c11, c12, c13, c14]) rfl ?_
  refine ⟨_, _, rfl, OwnW.mono (lo := w.heap.size + 1 + 1 + 1) ⟨?_, ?_, HFar.out⟩ (by omega), ?_⟩
  · exact ownsRow_setCell_below (ownsRow_setCell_below (ownsRow_setCell_below (ownsRow_setCell_below (ownsRow_setCell_below (ownsRow_setCell_below O1.out (by simp) _) (by simp) _) (by simp) _) (by simp) _) (by simp) _) (by simp) _
  · exact ownsRow_setCell_below (ownsRow_setCell_below (ownsRow_setCell_below (ownsRow_setCell_below (ownsRow_setCell_below (ownsRow_setCell_below (own_mono O2.out (by omega)) (by simp) _) (by simp) _) (by simp) _) (by simp) _) (by simp) _) (by simp) _
  · exact (((((HBB.out.setCell (p := ⟨w.heap.size + 1 + 1, 4, none⟩) (by simp; omega) _).setCell (p := ⟨w.heap.size + 1, 0, none⟩) (by simp) _).setCell (p := ⟨w.heap.size + 1, 1, none⟩) (by simp) _).setCell (p := ⟨w.heap.size + 1, 2, none⟩) (by simp) _).setCell (p := ⟨w.heap.size + 1, 3, none⟩) (by simp) _).setCell (p := ⟨w.heap.size + 1, 4, none⟩) (by simp) _
theorem to_wish {A E : Option Addr} {n c m d : Nat} {x : Wi} (w : World) (h : Sl RI 1 w w.heap.size A n c x.list) (g : Sl RP 2 w w.heap.size E m d x.pairs) (ht : x.list.length + x.pairs.length ≤ 1048576) :
    Calls Try.prog 11 #[.agg #[.int .i64 x.kind, .int .i64 x.field, .int .i64 x.value, .slice A n c, .slice E m d]] w (RetW w x) :=
  (toWish w h g ht).mono fun e w' ⟨u, v, he, ho, hb⟩ => by
    obtain ⟨⟨A', n', c', rfl, r1⟩, ⟨E', m', d', rfl, r2⟩⟩ := ho.read ⟨V.fit ⟨A, n, c, rfl, h⟩, fitPairs g⟩
    exact ⟨A', n', c', E', m', d', he, r1, r2, hb⟩
end Go.Proofs.Ytoinkpbngghloaa.Wk

namespace Go.Proofs.Ytoinkpbngghloaa.Wk
open Go.RowKit Go.Proofs.Ytoinkpbngghloaa.M
set_option linter.unusedVariables false

set_option maxHeartbeats 3200000 in
set_option maxRecDepth 100000 in
theorem FnExactParseWish (s : ByteArray) (hs0 : s.size ≤ maxLen) (w : World) : Calls Try.prog 8 #[.string s] w fun e w' => e = .returned (.bool true) ∧ Below w.heap.size w w' := by
  unfold maxLen at hs0
  by_cases hbig : 1048576 < s.size
  · have q : (1048576 : Int) < (s.size : Int) := by omega
    go_enter Try.func8, Try.ntmps8
    go_wp2
    go_ret
    exact ⟨rfl, Below.refl _ _⟩
  have q : ¬ (1048576 : Int) < (s.size : Int) := by omega
  have hs : s.size ≤ 1048576 := by omega
  obtain ⟨x, hx⟩ : ∃ x, parW s = x := ⟨_, rfl⟩
  obtain ⟨tb, htb⟩ : ∃ tb, parWB s = tb := ⟨_, rfl⟩
  have qb : (tb != tb) = false := by cases tb <;> rfl
  have FR := Lib.hid (parW_fit s)
  have CS : Hid (∀ w : World, Calls Try.prog 25 #[.string s] w (RetWB w x tb)) := fun w => by rw [← hx, ← htb]; exact specParseWish w hs
  have CI : Hid (∀ w : World, Calls Try.prog 26 #[.string s] w (RetWB w x tb)) := fun w => by rw [← hx, ← htb]; exact implParseWish w hs
  obtain ⟨ln, lm⟩ := parW_cnt s
  rw [hx] at FR ln lm
  obtain ⟨n, hn⟩ : ∃ n, x.list.length = n := ⟨_, rfl⟩
  obtain ⟨m, hm⟩ : ∃ m, x.pairs.length = m := ⟨_, rfl⟩
  rw [hn] at ln
  rw [hm] at lm
  have HN := Lib.hid hn
  have HM := Lib.hid hm
  clear hx htb hn hm
  go_enter Try.func8, Try.ntmps8
  go_wp2_with fail
  refine (CS.out _).mono ?_
  rintro e w1 ⟨uw, vw, rfl, Ow, b1⟩
  obtain ⟨Aw, cw, rfl, _, _⟩ := own_form Ow.1
  obtain ⟨Ew, dw, rfl, _, _⟩ := own_form Ow.2.1
  obtain ⟨Vw, Uw⟩ := Ow.read ⟨FR.out.2.2.2.1, FR.out.2.2.2.2⟩
  rw [HN.out] at Vw
  rw [HM.out] at Uw
  rw [HN.out, HM.out]
  have z1 := b1.size
  have BA := (Below.refl w1.heap.size w1).alloc (Nat.le_refl _) (.cells #[.int .i64 x.kind, .int .i64 x.field, .int .i64 x.value, .slice Aw n cw, .slice Ew m dw] 30)
  have Ba := b1.trans (BA.mono z1)
  have R1 := Row.new w1 30 [.int .i64 x.kind, .int .i64 x.field, .int .i64 x.value, .slice Aw n cw, .slice Ew m dw]
  have Vw := Vw.below RI.keeps BA
  have Uw := Uw.below RP.keeps BA
  have za := BA.size
  clear Ow b1 BA
  go_wp2_with fail
  refine (CI.out _).mono ?_
  rintro e w2 ⟨ug, vg, rfl, Og, b2⟩
  obtain ⟨Ag, cg, rfl, _, _⟩ := own_form Og.1
  obtain ⟨Eg, dg, rfl, _, _⟩ := own_form Og.2.1
  have HF := Lib.hid Og.2.2
  have Qg : OwnQ w2 (w1.alloc (.cells #[.int .i64 x.kind, .int .i64 x.field, .int .i64 x.value, .slice Aw n cw, .slice Ew m dw] 30)).heap.size w2.heap.size (.slice Ag x.list.length cg) x.list := ⟨Og.1, own_und Og.1⟩
  have Pg : OwnPs w2 (w1.alloc (.cells #[.int .i64 x.kind, .int .i64 x.field, .int .i64 x.value, .slice Aw n cw, .slice Ew m dw] 30)).heap.size w2.heap.size (.slice Eg x.pairs.length dg) x.pairs := ⟨Og.2.1, own_und Og.2.1⟩
  rw [HN.out] at Qg HF
  rw [HM.out] at Pg HF
  rw [HN.out, HM.out]
  have z2 := b2.size
  simp at z2
  have BB := (Below.refl w2.heap.size w2).alloc (Nat.le_refl _) (.cells #[.int .i64 x.kind, .int .i64 x.field, .int .i64 x.value, .slice Ag n cg, .slice Eg m dg] 30)
  have zb := BB.size
  have B3 := (Ba.trans (b2.mono (by simp; omega))).trans (BB.mono (by omega))
  have R1 := (R1.below b2 (by simp)).below BB (by omega)
  have R2 := Row.new w2 30 [.int .i64 x.kind, .int .i64 x.field, .int .i64 x.value, .slice Ag n cg, .slice Eg m dg]
  have Vw := (Vw.below RI.keeps (b2.mono (by simp))).below RI.keeps (BB.mono (by omega))
  have Uw := (Uw.below RP.keeps (b2.mono (by simp))).below RP.keeps (BB.mono (by omega))
  have Qg := Lib.hid (Qg.below BB)
  have Pg := Lib.hid (Pg.below BB)
  clear b2 BB Ba Og
  have a0 : (w2.alloc (.cells #[.int .i64 x.kind, .int .i64 x.field, .int .i64 x.value, .slice Ag n cg, .slice Eg m dg] 30)).cell? ⟨w1.heap.size, 0, none⟩ = some (.int .i64 x.kind) := R1.cell 0
  have a1 : (w2.alloc (.cells #[.int .i64 x.kind, .int .i64 x.field, .int .i64 x.value, .slice Ag n cg, .slice Eg m dg] 30)).cell? ⟨w1.heap.size, 1, none⟩ = some (.int .i64 x.field) := R1.cell 1
  have a2 : (w2.alloc (.cells #[.int .i64 x.kind, .int .i64 x.field, .int .i64 x.value, .slice Ag n cg, .slice Eg m dg] 30)).cell? ⟨w1.heap.size, 2, none⟩ = some (.int .i64 x.value) := R1.cell 2
  have a3 : (w2.alloc (.cells #[.int .i64 x.kind, .int .i64 x.field, .int .i64 x.value, .slice Ag n cg, .slice Eg m dg] 30)).cell? ⟨w1.heap.size, 3, none⟩ = some (.slice Aw n cw) := R1.cell 3
  have a4 : (w2.alloc (.cells #[.int .i64 x.kind, .int .i64 x.field, .int .i64 x.value, .slice Ag n cg, .slice Eg m dg] 30)).cell? ⟨w1.heap.size, 4, none⟩ = some (.slice Ew m dw) := R1.cell 4
  have g0 : (w2.alloc (.cells #[.int .i64 x.kind, .int .i64 x.field, .int .i64 x.value, .slice Ag n cg, .slice Eg m dg] 30)).cell? ⟨w2.heap.size, 0, none⟩ = some (.int .i64 x.kind) := R2.cell 0
  have g1 : (w2.alloc (.cells #[.int .i64 x.kind, .int .i64 x.field, .int .i64 x.value, .slice Ag n cg, .slice Eg m dg] 30)).cell? ⟨w2.heap.size, 1, none⟩ = some (.int .i64 x.field) := R2.cell 1
  have g2 : (w2.alloc (.cells #[.int .i64 x.kind, .int .i64 x.field, .int .i64 x.value, .slice Ag n cg, .slice Eg m dg] 30)).cell? ⟨w2.heap.size, 2, none⟩ = some (.int .i64 x.value) := R2.cell 2
  have g3 : (w2.alloc (.cells #[.int .i64 x.kind, .int .i64 x.field, .int .i64 x.value, .slice Ag n cg, .slice Eg m dg] 30)).cell? ⟨w2.heap.size, 3, none⟩ = some (.slice Ag n cg) := R2.cell 3
  have g4 : (w2.alloc (.cells #[.int .i64 x.kind, .int .i64 x.field, .int .i64 x.value, .slice Ag n cg, .slice Eg m dg] 30)).cell? ⟨w2.heap.size, 4, none⟩ = some (.slice Eg m dg) := R2.cell 4
  have lr1 := R1.lt
  have lr2 := R2.lt
  obtain ⟨A', n', c', e', Sw⟩ := id Vw
  injection e' with e1 e2 e3
  subst e1 e2 e3
  have Sw := Sw.more RI.keeps (show w1.heap.size ≤ (w2.alloc (.cells #[.int .i64 x.kind, .int .i64 x.field, .int .i64 x.value, .slice Ag n cg, .slice Eg m dg] 30)).heap.size by have := R1.lt; omega)
  obtain ⟨A', n', c', e', Tw⟩ := id Uw
  injection e' with e1 e2 e3
  subst e1 e2 e3
  have Tw := Tw.more RP.keeps (show w1.heap.size ≤ (w2.alloc (.cells #[.int .i64 x.kind, .int .i64 x.field, .int .i64 x.value, .slice Ag n cg, .slice Eg m dg] 30)).heap.size by have := R1.lt; omega)
  have Sg : Sl RI 1 (w2.alloc (.cells #[.int .i64 x.kind, .int .i64 x.field, .int .i64 x.value, .slice Ag n cg, .slice Eg m dg] 30)) (w2.alloc (.cells #[.int .i64 x.kind, .int .i64 x.field, .int .i64 x.value, .slice Ag n cg, .slice Eg m dg] 30)).heap.size Ag n cg x.list := by
    obtain ⟨A', n', c', e', S'⟩ := id (Qg.out.read FR.out.2.2.2.1)
    injection e' with e1 e2 e3
    subst e1 e2 e3
    exact S'
  have Tg : Sl RP 2 (w2.alloc (.cells #[.int .i64 x.kind, .int .i64 x.field, .int .i64 x.value, .slice Ag n cg, .slice Eg m dg] 30)) (w2.alloc (.cells #[.int .i64 x.kind, .int .i64 x.field, .int .i64 x.value, .slice Ag n cg, .slice Eg m dg] 30)).heap.size Eg m dg x.pairs := by
    obtain ⟨A', n', c', e', S'⟩ := id (Pg.out.read FR.out.2.2.2.2)
    injection e' with e1 e2 e3
    subst e1 e2 e3
    exact S'
  go_wp2_with fail
  refine (eq_wish (x := x) _ Sg Tg Sw Tw).mono ?_
  clear Sg Sw Tg Tw
  rintro e w3 ⟨rfl, b3⟩
  have z3 := b3.size
  try simp only [World.size_alloc] at z3
  have B3 := B3.trans (b3.mono B3.size)
  have Vw := Vw.below RI.keeps (b3.mono (by first | omega | (simp; done) | (simp; omega)))
  have Uw := Uw.below RP.keeps (b3.mono (by first | omega | (simp; done) | (simp; omega)))
  have R1 := R1.below b3 R1.lt
  have R2 := R2.below b3 R2.lt
  have Qg := Lib.hid (Qg.out.below b3)
  have Pg := Lib.hid (Pg.out.below b3)
  clear b3 a0 g0 a1 g1 a2 g2 a3 g3 a4 g4
  have a0 : w3.cell? ⟨w1.heap.size, 0, none⟩ = some (.int .i64 x.kind) := R1.cell 0
  have a1 : w3.cell? ⟨w1.heap.size, 1, none⟩ = some (.int .i64 x.field) := R1.cell 1
  have a2 : w3.cell? ⟨w1.heap.size, 2, none⟩ = some (.int .i64 x.value) := R1.cell 2
  have a3 : w3.cell? ⟨w1.heap.size, 3, none⟩ = some (.slice Aw n cw) := R1.cell 3
  have a4 : w3.cell? ⟨w1.heap.size, 4, none⟩ = some (.slice Ew m dw) := R1.cell 4
  have g0 : w3.cell? ⟨w2.heap.size, 0, none⟩ = some (.int .i64 x.kind) := R2.cell 0
  have g1 : w3.cell? ⟨w2.heap.size, 1, none⟩ = some (.int .i64 x.field) := R2.cell 1
  have g2 : w3.cell? ⟨w2.heap.size, 2, none⟩ = some (.int .i64 x.value) := R2.cell 2
  have g3 : w3.cell? ⟨w2.heap.size, 3, none⟩ = some (.slice Ag n cg) := R2.cell 3
  have g4 : w3.cell? ⟨w2.heap.size, 4, none⟩ = some (.slice Eg m dg) := R2.cell 4
  have lr1 := R1.lt
  have lr2 := R2.lt
  go_wp2_with fail
  refine (mark_wish (k := 1) _ Qg.out Pg.out HF.out HN.out HM.out (by omega) (by omega) (by omega)).mono ?_
  clear Qg Pg
  rintro e w4 ⟨rfl, Qm, Pm, b4⟩
  have z4 := b4.size
  try simp only [World.size_alloc] at z4
  have B4 := B3.trans (b4.below (by first | omega | (simp; done) | (simp; omega)) B3.size)
  have R1 := R1.mkd b4 (by first | omega | (simp; done) | (simp; omega))
  have R2 := R2.mkd b4 (by first | omega | (simp; done) | (simp; omega))
  have Vw := Vw.below RI.keeps (b4.below (by first | omega | (simp; done) | (simp; omega)) (by first | omega | (simp; done) | (simp; omega)))
  have Uw := Uw.below RP.keeps (b4.below (by first | omega | (simp; done) | (simp; omega)) (by first | omega | (simp; done) | (simp; omega)))
  clear b4 a0 g0 a1 g1 a2 g2 a3 g3 a4 g4
  have Qm := Lib.hid Qm
  have Pm := Lib.hid Pm
  have hq : ¬ (1 + (n : Int) + 2 * (m : Int) < 0) := by omega
  have hm : ((1 + (n : Int) + 2 * (m : Int)) != (1 + (n : Int) + 2 * (m : Int))) = false := by simp
  have a0 : w4.cell? ⟨w1.heap.size, 0, none⟩ = some (.int .i64 x.kind) := R1.cell 0
  have a1 : w4.cell? ⟨w1.heap.size, 1, none⟩ = some (.int .i64 x.field) := R1.cell 1
  have a2 : w4.cell? ⟨w1.heap.size, 2, none⟩ = some (.int .i64 x.value) := R1.cell 2
  have a3 : w4.cell? ⟨w1.heap.size, 3, none⟩ = some (.slice Aw n cw) := R1.cell 3
  have a4 : w4.cell? ⟨w1.heap.size, 4, none⟩ = some (.slice Ew m dw) := R1.cell 4
  have g0 : w4.cell? ⟨w2.heap.size, 0, none⟩ = some (.int .i64 x.kind) := R2.cell 0
  have g1 : w4.cell? ⟨w2.heap.size, 1, none⟩ = some (.int .i64 x.field) := R2.cell 1
  have g2 : w4.cell? ⟨w2.heap.size, 2, none⟩ = some (.int .i64 x.value) := R2.cell 2
  have g3 : w4.cell? ⟨w2.heap.size, 3, none⟩ = some (.slice Ag n cg) := R2.cell 3
  have g4 : w4.cell? ⟨w2.heap.size, 4, none⟩ = some (.slice Eg m dg) := R2.cell 4
  have lr1 := R1.lt
  have lr2 := R2.lt
  go_wp2_with fail
  refine (held_wish (k := 1) _ Qm.out Pm.out (by omega) (by omega)).mono ?_
  rintro e w5 ⟨rfl, b5⟩
  have z5 := b5.size
  try simp only [World.size_alloc] at z5
  have B5 := B4.trans (b5.mono B4.size)
  have Vw := Vw.below RI.keeps (b5.mono (by first | omega | (simp; done) | (simp; omega)))
  have Uw := Uw.below RP.keeps (b5.mono (by first | omega | (simp; done) | (simp; omega)))
  have R1 := R1.below b5 R1.lt
  have R2 := R2.below b5 R2.lt
  have Qm := Lib.hid (Qm.out.below b5)
  have Pm := Lib.hid (Pm.out.below b5)
  clear b5 a0 g0 a1 g1 a2 g2 a3 g3 a4 g4
  have a0 : w5.cell? ⟨w1.heap.size, 0, none⟩ = some (.int .i64 x.kind) := R1.cell 0
  have a1 : w5.cell? ⟨w1.heap.size, 1, none⟩ = some (.int .i64 x.field) := R1.cell 1
  have a2 : w5.cell? ⟨w1.heap.size, 2, none⟩ = some (.int .i64 x.value) := R1.cell 2
  have a3 : w5.cell? ⟨w1.heap.size, 3, none⟩ = some (.slice Aw n cw) := R1.cell 3
  have a4 : w5.cell? ⟨w1.heap.size, 4, none⟩ = some (.slice Ew m dw) := R1.cell 4
  have g0 : w5.cell? ⟨w2.heap.size, 0, none⟩ = some (.int .i64 x.kind) := R2.cell 0
  have g1 : w5.cell? ⟨w2.heap.size, 1, none⟩ = some (.int .i64 x.field) := R2.cell 1
  have g2 : w5.cell? ⟨w2.heap.size, 2, none⟩ = some (.int .i64 x.value) := R2.cell 2
  have g3 : w5.cell? ⟨w2.heap.size, 3, none⟩ = some (.slice Ag n cg) := R2.cell 3
  have g4 : w5.cell? ⟨w2.heap.size, 4, none⟩ = some (.slice Eg m dg) := R2.cell 4
  have lr1 := R1.lt
  have lr2 := R2.lt
  go_wp2_with fail
  refine (CI.out _).mono ?_
  rintro e w6 ⟨uh, vh, rfl, Oh, b6⟩
  obtain ⟨Ah, ch, rfl, _, _⟩ := own_form Oh.1
  obtain ⟨Eh, dh, rfl, _, _⟩ := own_form Oh.2.1
  have Qh : OwnQ w6 w5.heap.size w6.heap.size (.slice Ah x.list.length ch) x.list := ⟨Oh.1, own_und Oh.1⟩
  have Ph : OwnPs w6 w5.heap.size w6.heap.size (.slice Eh x.pairs.length dh) x.pairs := ⟨Oh.2.1, own_und Oh.2.1⟩
  rw [HN.out] at Qh
  rw [HM.out] at Ph
  rw [HN.out, HM.out]
  have z6 := b6.size
  have BB := (Below.refl w6.heap.size w6).alloc (Nat.le_refl _) (.cells #[.int .i64 x.kind, .int .i64 x.field, .int .i64 x.value, .slice Ah n ch, .slice Eh m dh] 30)
  have B6 := (B5.trans (b6.mono B5.size)).trans (BB.mono (by have := B5.size; omega))
  have Vw := (Vw.below RI.keeps (b6.mono (by omega))).below RI.keeps (BB.mono (by omega))
  have Uw := (Uw.below RP.keeps (b6.mono (by omega))).below RP.keeps (BB.mono (by omega))
  have R1 := (R1.below b6 R1.lt).below BB (by have := R1.lt; omega)
  have R2 := (R2.below b6 R2.lt).below BB (by have := R2.lt; omega)
  have R3 := Row.new w6 30 [.int .i64 x.kind, .int .i64 x.field, .int .i64 x.value, .slice Ah n ch, .slice Eh m dh]
  have Qm := Lib.hid ((Qm.out.below b6).below BB)
  have Pm := Lib.hid ((Pm.out.below b6).below BB)
  have Qh := Lib.hid (Qh.below BB)
  have Ph := Lib.hid (Ph.below BB)
  have zb := BB.size
  clear b6 BB Oh a0 g0 a1 g1 a2 g2 a3 g3 a4 g4
  have a0 : (w6.alloc (.cells #[.int .i64 x.kind, .int .i64 x.field, .int .i64 x.value, .slice Ah n ch, .slice Eh m dh] 30)).cell? ⟨w1.heap.size, 0, none⟩ = some (.int .i64 x.kind) := R1.cell 0
  have a1 : (w6.alloc (.cells #[.int .i64 x.kind, .int .i64 x.field, .int .i64 x.value, .slice Ah n ch, .slice Eh m dh] 30)).cell? ⟨w1.heap.size, 1, none⟩ = some (.int .i64 x.field) := R1.cell 1
  have a2 : (w6.alloc (.cells #[.int .i64 x.kind, .int .i64 x.field, .int .i64 x.value, .slice Ah n ch, .slice Eh m dh] 30)).cell? ⟨w1.heap.size, 2, none⟩ = some (.int .i64 x.value) := R1.cell 2
  have a3 : (w6.alloc (.cells #[.int .i64 x.kind, .int .i64 x.field, .int .i64 x.value, .slice Ah n ch, .slice Eh m dh] 30)).cell? ⟨w1.heap.size, 3, none⟩ = some (.slice Aw n cw) := R1.cell 3
  have a4 : (w6.alloc (.cells #[.int .i64 x.kind, .int .i64 x.field, .int .i64 x.value, .slice Ah n ch, .slice Eh m dh] 30)).cell? ⟨w1.heap.size, 4, none⟩ = some (.slice Ew m dw) := R1.cell 4
  have g0 : (w6.alloc (.cells #[.int .i64 x.kind, .int .i64 x.field, .int .i64 x.value, .slice Ah n ch, .slice Eh m dh] 30)).cell? ⟨w2.heap.size, 0, none⟩ = some (.int .i64 x.kind) := R2.cell 0
  have g1 : (w6.alloc (.cells #[.int .i64 x.kind, .int .i64 x.field, .int .i64 x.value, .slice Ah n ch, .slice Eh m dh] 30)).cell? ⟨w2.heap.size, 1, none⟩ = some (.int .i64 x.field) := R2.cell 1
  have g2 : (w6.alloc (.cells #[.int .i64 x.kind, .int .i64 x.field, .int .i64 x.value, .slice Ah n ch, .slice Eh m dh] 30)).cell? ⟨w2.heap.size, 2, none⟩ = some (.int .i64 x.value) := R2.cell 2
  have g3 : (w6.alloc (.cells #[.int .i64 x.kind, .int .i64 x.field, .int .i64 x.value, .slice Ah n ch, .slice Eh m dh] 30)).cell? ⟨w2.heap.size, 3, none⟩ = some (.slice Ag n cg) := R2.cell 3
  have g4 : (w6.alloc (.cells #[.int .i64 x.kind, .int .i64 x.field, .int .i64 x.value, .slice Ah n ch, .slice Eh m dh] 30)).cell? ⟨w2.heap.size, 4, none⟩ = some (.slice Eg m dg) := R2.cell 4
  have lr1 := R1.lt
  have lr2 := R2.lt
  have h0 : (w6.alloc (.cells #[.int .i64 x.kind, .int .i64 x.field, .int .i64 x.value, .slice Ah n ch, .slice Eh m dh] 30)).cell? ⟨w6.heap.size, 0, none⟩ = some (.int .i64 x.kind) := R3.cell 0
  have h1 : (w6.alloc (.cells #[.int .i64 x.kind, .int .i64 x.field, .int .i64 x.value, .slice Ah n ch, .slice Eh m dh] 30)).cell? ⟨w6.heap.size, 1, none⟩ = some (.int .i64 x.field) := R3.cell 1
  have h2 : (w6.alloc (.cells #[.int .i64 x.kind, .int .i64 x.field, .int .i64 x.value, .slice Ah n ch, .slice Eh m dh] 30)).cell? ⟨w6.heap.size, 2, none⟩ = some (.int .i64 x.value) := R3.cell 2
  have h3 : (w6.alloc (.cells #[.int .i64 x.kind, .int .i64 x.field, .int .i64 x.value, .slice Ah n ch, .slice Eh m dh] 30)).cell? ⟨w6.heap.size, 3, none⟩ = some (.slice Ah n ch) := R3.cell 3
  have h4 : (w6.alloc (.cells #[.int .i64 x.kind, .int .i64 x.field, .int .i64 x.value, .slice Ah n ch, .slice Eh m dh] 30)).cell? ⟨w6.heap.size, 4, none⟩ = some (.slice Eh m dh) := R3.cell 4
  obtain ⟨A', n', c', e', Sw⟩ := id Vw
  injection e' with e1 e2 e3
  subst e1 e2 e3
  have Sw := Sw.more RI.keeps (show w1.heap.size ≤ (w6.alloc (.cells #[.int .i64 x.kind, .int .i64 x.field, .int .i64 x.value, .slice Ah n ch, .slice Eh m dh] 30)).heap.size by have := R1.lt; omega)
  obtain ⟨A', n', c', e', Tw⟩ := id Uw
  injection e' with e1 e2 e3
  subst e1 e2 e3
  have Tw := Tw.more RP.keeps (show w1.heap.size ≤ (w6.alloc (.cells #[.int .i64 x.kind, .int .i64 x.field, .int .i64 x.value, .slice Ah n ch, .slice Eh m dh] 30)).heap.size by have := R1.lt; omega)
  have Sg : Sl RI 1 (w6.alloc (.cells #[.int .i64 x.kind, .int .i64 x.field, .int .i64 x.value, .slice Ah n ch, .slice Eh m dh] 30)) (w6.alloc (.cells #[.int .i64 x.kind, .int .i64 x.field, .int .i64 x.value, .slice Ah n ch, .slice Eh m dh] 30)).heap.size Ah n ch x.list := by
    obtain ⟨A', n', c', e', S'⟩ := id (Qh.out.read FR.out.2.2.2.1)
    injection e' with e1 e2 e3
    subst e1 e2 e3
    exact S'
  have Tg : Sl RP 2 (w6.alloc (.cells #[.int .i64 x.kind, .int .i64 x.field, .int .i64 x.value, .slice Ah n ch, .slice Eh m dh] 30)) (w6.alloc (.cells #[.int .i64 x.kind, .int .i64 x.field, .int .i64 x.value, .slice Ah n ch, .slice Eh m dh] 30)).heap.size Eh m dh x.pairs := by
    obtain ⟨A', n', c', e', S'⟩ := id (Ph.out.read FR.out.2.2.2.2)
    injection e' with e1 e2 e3
    subst e1 e2 e3
    exact S'
  go_wp2_with fail
  refine (eq_wish (x := x) _ Sg Tg Sw Tw).mono ?_
  clear Sg Sw Tg Tw Qh Ph h0 h1 h2 h3 h4
  rintro e w7 ⟨rfl, b7⟩
  have B7 := B6.trans (b7.mono B6.size)
  have R1 := R1.below b7 R1.lt
  have R2 := R2.below b7 R2.lt
  have Qm := Lib.hid (Qm.out.below b7)
  have Pm := Lib.hid (Pm.out.below b7)
  clear b7 a0 g0 a1 g1 a2 g2 a3 g3 a4 g4 R3 Vw Uw
  have a0 : w7.cell? ⟨w1.heap.size, 0, none⟩ = some (.int .i64 x.kind) := R1.cell 0
  have a1 : w7.cell? ⟨w1.heap.size, 1, none⟩ = some (.int .i64 x.field) := R1.cell 1
  have a2 : w7.cell? ⟨w1.heap.size, 2, none⟩ = some (.int .i64 x.value) := R1.cell 2
  have a3 : w7.cell? ⟨w1.heap.size, 3, none⟩ = some (.slice Aw n cw) := R1.cell 3
  have a4 : w7.cell? ⟨w1.heap.size, 4, none⟩ = some (.slice Ew m dw) := R1.cell 4
  have g0 : w7.cell? ⟨w2.heap.size, 0, none⟩ = some (.int .i64 x.kind) := R2.cell 0
  have g1 : w7.cell? ⟨w2.heap.size, 1, none⟩ = some (.int .i64 x.field) := R2.cell 1
  have g2 : w7.cell? ⟨w2.heap.size, 2, none⟩ = some (.int .i64 x.value) := R2.cell 2
  have g3 : w7.cell? ⟨w2.heap.size, 3, none⟩ = some (.slice Ag n cg) := R2.cell 3
  have g4 : w7.cell? ⟨w2.heap.size, 4, none⟩ = some (.slice Eg m dg) := R2.cell 4
  have lr1 := R1.lt
  have lr2 := R2.lt
  go_wp2_with fail
  refine (held_wish (k := 1) _ Qm.out Pm.out (by omega) (by omega)).mono ?_
  rintro e w8 ⟨rfl, b8⟩
  have BZ := B7.trans (b8.mono B7.size)
  clear b8
  go_wp2_with fail
  go_ret
  exact ⟨rfl, BZ⟩
end Go.Proofs.Ytoinkpbngghloaa.Wk

namespace Go.Proofs.Ytoinkpbngghloaa.LFnExactParseWish
open Go.ChangeShapes Go.WideShapes Go.ChangeAt Go.RowKit
open Go.ChangeMaps (open_string shut_string)
set_option linter.unusedVariables false

theorem own : ownKnob Try.prog.godebug = none := by kernel_rfl
theorem laidOut : laidOutB Try.prog = true := by kernel_rfl

set_option maxRecDepth 100000 in
theorem lifted (os : Os) (started : os.Started) (H : Type) (enc : TypeId × Value → H) :
    ReturnsInHanded {} Try.checked os 8 .any (Rows.fnExactParseWishSpec.pre6 enc Try.prog Try.f8 Rows.fnExactParseWishRow.domain false) (Rows.fnExactParseWishSpec.post enc Try.prog Try.f8 false true false false) := by
  refine returnsInHanded_of_change (C := Try.checked) own started (by kernel_rfl) Try.func8
    (ChangeSpec.witness6 (enc := enc) (C := Try.checked) false ⟨#[], #[.string ⟨#[]⟩], []⟩ 8 (by kernel_rfl) (by kernel_rfl) (by kernel_rfl) (by kernel_rfl)) ?_
  intro W base args ds gs before hval0 hW hcnd _
  have hval : ∀ (j : Nat) t v, Try.f8.params[j]? = some t → args[j]? = some v → Value.okWide Try.prog W .any base t v := hval0
  have hW' := hW
  obtain ⟨p, q, hA0, hV, rfl, hfz, hnd⟩ := hW
  have hA : DataW.TrodAll enc Try.prog W 0 (fun _ => true) true Try.f8.params.toList args.toList ds p := hA0
  rw [Try.params8] at hA hval
  obtain ⟨v0, vs0, d0, ds0, p0, q0, hargs, rfl, rfl, h0, r0⟩ := trodAll_cons hA
  obtain ⟨rfl, rfl, rfl⟩ := trodAll_nil r0
  obtain rfl : args = #[v0] := by cases args; simp_all
  obtain ⟨rfl, rfl⟩ := trodVars_none hV
  have k0 := h0
  have lt0 : ∀ x ∈ p0, x.block < W.heap.size := by obtain ⟨m, hm⟩ := k0; exact DataW.trod_lt m _ _ _ hm
  obtain ⟨a0, e0, _, _, w0⟩ := open_string Try.underlying9 (hval 0 9 v0 rfl rfl) h0
  subst e0
  clear hA0 hval0
  refine (Wk.FnExactParseWish (w := W) a0 w0).mono fun e W' ⟨he, bel⟩ => ?_
  subst he
  exact ⟨_, rfl, _, _, _, [], _, [], hW', trodAll_mk1 (shut_bool Try.underlying4 _), (trodAll_cons_mk (Below.trod laidOut (by kernel_rfl) (of_decide_eq_true (by kernel_rfl)) k0 bel lt0) trodAll_mk0), rfl, bel.frame _, fun h => by cases h⟩

/-- The given statement. -/
theorem proved : Rows.FnExactParseWishSaid :=
  OpenClaim.holds_of_wide 8 Try.f8 rfl rfl rfl rfl rfl rfl rfl ⟨rfl, rfl, rfl, rfl, rfl⟩ rfl rfl rfl rfl rfl (by as_aux_lemma => kernel_rfl) Try.func8 (by as_aux_lemma => kernel_rfl)
    (of_decide_eq_true (by as_aux_lemma => kernel_rfl)) (by unfold Func.isWrapper; first | (rw [if_pos (by decide +kernel)]; kernel_rfl) | (rw [if_neg (by decide +kernel)]; exact ⟨rfl, rfl⟩))
    (fun os started H enc _ => lifted os started H enc)
#print axioms proved
end Go.Proofs.Ytoinkpbngghloaa.LFnExactParseWish
