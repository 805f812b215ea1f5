/-
  The given statement on laws.FnTexts: for every input that the row speaks of, the call returns true and the arguments read as before.
  Conditions: none beyond the row's own.
-/
import Derived.Test.YtphbochfpidgeaaZFnTextsB
import Derived.Test.YtphbochfpidgeaaM18
import Derived.Test.YtphbochfpidgeaaZFnTextsA
import Derived.Test.YtphbochfpidgeaaW83
import Derived.Deep.DeepCutAuto
import Derived.Test.YtphbochfpidgeaaO1
import Derived.Test.YtphbochfpidgeaaRows
import Derived.ProofKit
import Derived.OpenShut
import Derived.ShutString
import Derived.ChangeOld
import Derived.Below
namespace Go.Proofs.Ytphbochfpidgeaa.Wk
open Go.RowKit Go.Proofs.Ytphbochfpidgeaa.M
set_option linter.unusedVariables false
set_option linter.unusedSimpArgs false
attribute [local go_sem] cell_grow

/-- It returns a wish by value, its rows the call's own, and a truth value. -/
def RetWB (w : World) (x : Wi) (b : Bool) (e : Ending) (w' : World) : Prop := ∃ u v, e = .returned (.tuple #[.agg #[.int .i64 x.kind, .int .i64 x.field, .int .i64 x.value, u, v], .bool b]) ∧ OwnW w' w.heap.size 3 74 x u v ∧ Below w.heap.size w w'
theorem ownW_nil (w : World) (lo : Nat) : OwnW w lo 3 74 zeroW (.slice none 0 0) (.slice none 0 0) := ⟨World.ownsRow_nil _ _ _ _, World.ownsRow_nil _ _ _ _, .inl rfl⟩
theorem far_nilR (u : Value) : Far u (.slice none 0 0) := by
  cases h : u.ownBlock with
  | none => exact .inl h
  | some g => exact .inr (by rw [h]; intro e; cases e)
theorem ret_wb {x y : Wi} {b c : Bool} {u v : Value} (h : x = y ∧ b = c) : Ending.returned (.tuple #[.agg #[.int .i64 x.kind, .int .i64 x.field, .int .i64 x.value, u, v], .bool b]) = .returned (.tuple #[.agg #[.int .i64 y.kind, .int .i64 y.field, .int .i64 y.value, u, v], .bool c]) := by rw [h.1, h.2]
theorem below_dr76 {W w8 : World} (h : Below W.drew.heap.size W.drew w8) : Below W.heap.size W w8 := (Below.refl W.heap.size W).drew.trans h
section
variable {w w' : World} {v : Value} {b o : Nat}
theorem celA (h : w.cell? ⟨b, o, none⟩ = some v) (x : Obj) : (w.alloc x).cell? ⟨b, o, none⟩ = some v := by
  rw [World.cell?_alloc_lt _ _ _ (World.block_lt_of_cell? w _ h)]; exact h
theorem celB {B : Nat} (h : w.cell? ⟨b, o, none⟩ = some v) (hb : Below B w w') (hlt : b < B) : w'.cell? ⟨b, o, none⟩ = some v := ((cell_of hb) b o hlt).trans h
theorem celS {p : Addr} (h : w.cell? ⟨b, o, none⟩ = some v) (hne : p.block ≠ b) (u : Value) : (w.setCell p u).cell? ⟨b, o, none⟩ = some v := by
  rw [World.cell?_setCell_far _ _ _ _ hne]; exact h
end
theorem lit_yes {a : ByteArray} {l : List UInt8} (h : a = ⟨l.toArray⟩) : (a.toList == l) = true := by rw [h, ByteArray.toList_eq]; simp
theorem lit_no {a : ByteArray} {l : List UInt8} (h : a ≠ ⟨l.toArray⟩) : (a.toList == l) = false := by
  cases e : (a.toList == l) with
  | false => rfl
  | true =>
    rw [ByteArray.toList_eq, beq_iff_eq] at e
    exact absurd (P.ba_ext (by rw [e])) h
set_option maxHeartbeats 1600000 in
set_option maxRecDepth 100000 in
theorem indexStrs {g n c : Nat} {E : TypeId} {ws : List ByteArray} {v : ByteArray} (w : World) (hr : Row w g E (ws.map Value.string)) (hn : ws.length = n) (hc : n ≤ c) (hb : n ≤ 100) :
    Calls Try.prog 57 #[.slice (some ⟨g, 0, none⟩) n c, .string v] w fun e w' => (∃ k : Int, e = .returned (.int .i64 k) ∧ ((∃ j : Nat, k = j ∧ ws[j]? = some v ∧ ∀ i, i < j → ws[i]? ≠ some v) ∨ (k = -1 ∧ v ∉ ws))) ∧ w = w' := by
  have HR := Lib.hid hr
  have hg := hr.lt
  go_enter Try.func57, Try.ntmps57
  go_wp2
  go_loop [5, 8] (fun _ vi => ∃ k : Nat, k ≤ n ∧ vi = .int .i64 k ∧ Hid (∀ i, i < k → ws[i]? ≠ some v)) (fun _ vi => n - (intOf vi).toNat)
  case atStart => exact ⟨0, Nat.zero_le _, rfl, fun i hi => absurd hi (Nat.not_lt_zero _)⟩
  case round =>
    obtain ⟨k, hk, rfl, HK⟩ := hrel
    by_cases hlt : k < n
    · have q1 : (k : Int) < (n : Int) := by omega
      have q2 : (n : Int) ≤ (c : Int) := by omega
      obtain ⟨t, ht⟩ : ∃ t, ws[k]? = some t := ⟨_, List.getElem?_eq_getElem (by omega)⟩
      have c0 : w.cell? ⟨g, k, none⟩ = some (.string t) := by rw [HR.out.cell, List.getElem?_map, ht]; rfl
      by_cases e : v = t
      · have HE : Hid (ws[k]? = some v) := by show _ = _; rw [ht, e]
        have q3 := ba_yes e
        clear e ht hr
        go_wp2
        go_ret
        exact ⟨⟨k, rfl, .inl ⟨k, rfl, HE.out, HK.out⟩⟩, rfl⟩
      · have HK2 : Hid (∀ i, i < k + 1 → ws[i]? ≠ some v) := by
          intro i hi h
          by_cases hik : i = k
          · subst hik; rw [ht] at h; injection h with h; exact e h.symm
          · exact HK.out i (by omega) h
        have q3 := ba_no e
        clear e ht hr
        go_wp2
        go_round
        case rel => exact ⟨k + 1, by omega, by go_num, HK2⟩
        case measure => simp [intOf]; omega
    · have hkn : k = n := by omega
      have q1 : ¬ (k : Int) < (n : Int) := by omega
      have HN : Hid (v ∉ ws) := by
        intro hm
        obtain ⟨i, hi⟩ := List.getElem?_of_mem hm
        exact HK.out i (by have := (List.getElem?_eq_some_iff.1 hi).1; omega) hi
      clear hr
      go_wp2
      go_ret
      exact ⟨⟨-1, rfl, .inr ⟨rfl, HN.out⟩⟩, rfl⟩
theorem idx5 {k : Int} {a : ByteArray} (h : (∃ j : Nat, k = j ∧ [kindW 0, kindW 1, kindW 2, kindW 3, kindW 4][j]? = some a ∧ ∀ i, i < j → [kindW 0, kindW 1, kindW 2, kindW 3, kindW 4][i]? ≠ some a) ∨ (k = -1 ∧ a ∉ [kindW 0, kindW 1, kindW 2, kindW 3, kindW 4])) : k = kindI a := by
  rcases h with ⟨j, rfl, h1, h2⟩ | ⟨rfl, h1⟩
  · have hj : j < 5 := (List.getElem?_eq_some_iff.1 h1).1
    rcases (by omega : j = 0 ∨ j = 1 ∨ j = 2 ∨ j = 3 ∨ j = 4) with rfl | rfl | rfl | rfl | rfl
    all_goals
      simp at h1
      subst h1
      rw [kindI_back (by omega)]
      rfl
  · simp only [List.mem_cons, List.not_mem_nil, or_false, not_or] at h1
    obtain ⟨a0, a1, a2, a3, a4⟩ := h1
    unfold kindI
    rw [if_neg a0, if_neg a1, if_neg a2, if_neg a3, if_neg a4]
theorem kindI_bd (a : ByteArray) : -1 ≤ kindI a ∧ kindI a ≤ 4 := by
  unfold kindI
  repeat' split
  all_goals omega
set_option maxHeartbeats 6400000 in
set_option maxRecDepth 100000 in
theorem implParseWish (w : World) {s : ByteArray} (hs : s.size ≤ 1048576) : Calls Try.prog 17 #[.string s] w (RetWB w (parW s) (parWB s)) := by
  obtain ⟨i0, hi, hz0, hz1, hz2⟩ := info_parts info_i2
  have HX := Lib.hid (P.cut_size s ⟨#[32]⟩)
  go_enter Try.func17, Try.ntmps17
  go_wp2_with fail
  refine (cut _ hs (by decide) (by decide)).mono ?_
  rintro e w2 ⟨vp, rfl, hP, b2⟩
  have B2 := ((Below.refl w.heap.size w).alloc (Nat.le_refl _) (.cells #[.int .i64 0, .int .i64 0, .int .i64 0, .slice none 0 0, .slice none 0 0] 39)).trans (b2.mono (by simp))
  have R2 := (Row.new w 39 [.int .i64 0, .int .i64 0, .int .i64 0, .slice none 0 0, .slice none 0 0]).below b2 (by simp)
  obtain ⟨A, c, rfl, _, _⟩ := own_form hP.1
  obtain ⟨A', n', c', e', hS⟩ := own_strs hP.1 (fun x hx => by have := HX.out x hx; unfold maxLen; omega)
  injection e' with e1 e2 e3
  subst e1 e3
  have hsz2 := b2.size
  simp at hsz2
  have hnc := hS.le
  clear hP b2
  by_cases hl : (P.cut s ⟨#[32]⟩).length < 2 ∨ 3 < (P.cut s ⟨#[32]⟩).length
  · have HP : Hid (parW s = zeroW ∧ parWB s = false) := parW_bad (by rcases hl with h | h; exact .inl h; exact .inr (.inl h))
    obtain ⟨m, hm⟩ : ∃ m, (P.cut s ⟨#[32]⟩).length = m := ⟨_, rfl⟩
    rw [hm] at hl ⊢
    have hw : P.inR (m : Int) 2 3 = false := P.inR_no (by omega)
    go_wp2_with fail
    refine (within _ _ _ _).mono ?_
    rintro e w9 ⟨rfl, rfl⟩
    rw [hw]
    have f0 := R2.free 0
    have f1 := R2.free 1
    have f2 := R2.free 2
    have f3 := R2.free 3
    have f4 := R2.free 4
    have hlt := R2.lt
    have c0 : w2.cell? ⟨w.heap.size, 0, none⟩ = some (.int .i64 0) := R2.cell 0
    have c1 : w2.cell? ⟨w.heap.size, 1, none⟩ = some (.int .i64 0) := R2.cell 1
    have c2 : w2.cell? ⟨w.heap.size, 2, none⟩ = some (.int .i64 0) := R2.cell 2
    have c3 : w2.cell? ⟨w.heap.size, 3, none⟩ = some (.slice none 0 0) := R2.cell 3
    have c4 : w2.cell? ⟨w.heap.size, 4, none⟩ = some (.slice none 0 0) := R2.cell 4
    have BN := Lib.hid (((((B2.setCell (p := ⟨w.heap.size, 0, none⟩) (Nat.le_refl _) (.int .i64 0)).setCell (p := ⟨w.heap.size, 1, none⟩) (Nat.le_refl _) (.int .i64 0)).setCell (p := ⟨w.heap.size, 2, none⟩) (Nat.le_refl _) (.int .i64 0)).setCell (p := ⟨w.heap.size, 3, none⟩) (Nat.le_refl _) (.slice none 0 0)).setCell (p := ⟨w.heap.size, 4, none⟩) (Nat.le_refl _) (.slice none 0 0))
    go_wp2
    refine bodyPost_ret (v := .tuple #[.agg #[.int .i64 0, .int .i64 0, .int .i64 0, .slice none 0 0, .slice none 0 0], .bool false]) (by simp [results, Try.results17, go_sem, c0, c1, c2, c3, c4]) rfl ?_
    refine ⟨_, _, ret_wb (x := zeroW) (u := .slice none 0 0) (v := .slice none 0 0) (b := false) ⟨HP.out.1.symm, HP.out.2.symm⟩, ?_, BN.out⟩
    rw [HP.out.1]; exact ownW_nil _ _
  · have h2 : 2 ≤ (P.cut s ⟨#[32]⟩).length := by omega
    have HE := Lib.hid (fun (y : Wi) hb => parW_end (s := s) (y := y) h2 hb)
    obtain ⟨a, b, rest, hab, hrl⟩ : ∃ a b rest, P.cut s ⟨#[32]⟩ = a :: b :: rest ∧ rest.length ≤ 1 := by
      match hc : P.cut s ⟨#[32]⟩, hl, h2 with
      | a :: b :: rest, hl, _ => exact ⟨a, b, rest, rfl, by simp at hl; omega⟩
    rw [hab] at HE
    have has : a.size ≤ 1048576 := Nat.le_trans (HX.out a (by rw [hab]; simp)) hs
    have hbs : b.size ≤ 1048576 := Nat.le_trans (HX.out b (by rw [hab]; simp)) hs
    obtain ⟨m, hm⟩ : ∃ m, rest.length + 1 + 1 = m := ⟨_, rfl⟩
    have hlen : (P.cut s ⟨#[32]⟩).length = m := by rw [hab]; exact hm
    rw [hlen] at e2 ⊢
    subst e2
    have hm2 : 2 ≤ m := by omega
    have hm3 : m ≤ 3 := by omega
    obtain ⟨bb, o, x, rfl, hbb, hx0, _, hc0⟩ := hS.str (k := 0) (by omega)
    obtain ⟨bb1, o1, x1, hbe, _, hx1, _, hc1⟩ := hS.str (k := 1) (by omega)
    injection hbe with hbe
    injection hbe with hbe1 hbe2 _
    subst hbe1 hbe2
    rw [hab] at hx0 hx1
    simp at hx0 hx1
    subst hx0 hx1
    rw [Nat.add_zero] at hc0
    have HC2 : Hid (∀ c, rest = [c] → w2.cell? ⟨bb, o + 2, none⟩ = some (.string c)) := by
      rintro c rfl
      obtain ⟨bb2, o2, x2, hbe, _, hx2, _, hc2⟩ := hS.str (k := 2) (by simp at hm; omega)
      injection hbe with hbe
      injection hbe with hbe1 hbe2 _
      subst hbe1 hbe2
      rw [hab] at hx2
      simp at hx2
      subst hx2
      exact hc2
    have HAB := Lib.hid hab
    have HRC : Hid (∀ c, rest = [c] → c.size ≤ 1048576) := fun c hc => Nat.le_trans (HX.out c (by rw [HAB.out, hc]; simp)) hs
    clear hl h2 hab hS
    have p2 : (2 : Int) ≤ (m : Int) := by omega
    have p3 : (m : Int) ≤ 3 := by omega
    have p1 : (1 : Int) < (m : Int) := by omega
    have p0 : (0 : Int) < (m : Int) := by omega
    have p4 : (m : Int) ≤ (c : Int) := by omega
    have hw : P.inR (m : Int) 2 3 = true := P.inR_mk (by omega)
    by_cases hb2 : b.size < 2
    · have q2 : (b.size : Int) < 2 := by omega
      have HP : Hid (parW s = zeroW ∧ parWB s = false) := parW_bad (.inr (.inr (by rw [HAB.out]; exact hb2)))
      go_wp2_with fail
      refine (within _ _ _ _).mono ?_
      rintro e w9 ⟨rfl, rfl⟩
      rw [hw]
      have f0 := R2.free 0
      have f1 := R2.free 1
      have f2 := R2.free 2
      have f3 := R2.free 3
      have f4 := R2.free 4
      have hlt := R2.lt
      have c0 : w2.cell? ⟨w.heap.size, 0, none⟩ = some (.int .i64 0) := R2.cell 0
      have c1 : w2.cell? ⟨w.heap.size, 1, none⟩ = some (.int .i64 0) := R2.cell 1
      have c2 : w2.cell? ⟨w.heap.size, 2, none⟩ = some (.int .i64 0) := R2.cell 2
      have c3 : w2.cell? ⟨w.heap.size, 3, none⟩ = some (.slice none 0 0) := R2.cell 3
      have c4 : w2.cell? ⟨w.heap.size, 4, none⟩ = some (.slice none 0 0) := R2.cell 4
      have BN := Lib.hid (((((B2.setCell (p := ⟨w.heap.size, 0, none⟩) (Nat.le_refl _) (.int .i64 0)).setCell (p := ⟨w.heap.size, 1, none⟩) (Nat.le_refl _) (.int .i64 0)).setCell (p := ⟨w.heap.size, 2, none⟩) (Nat.le_refl _) (.int .i64 0)).setCell (p := ⟨w.heap.size, 3, none⟩) (Nat.le_refl _) (.slice none 0 0)).setCell (p := ⟨w.heap.size, 4, none⟩) (Nat.le_refl _) (.slice none 0 0))
      go_wp2
      refine bodyPost_ret (v := .tuple #[.agg #[.int .i64 0, .int .i64 0, .int .i64 0, .slice none 0 0, .slice none 0 0], .bool false]) (by simp [results, Try.results17, go_sem, c0, c1, c2, c3, c4]) rfl ?_
      refine ⟨_, _, ret_wb (x := zeroW) (u := .slice none 0 0) (v := .slice none 0 0) (b := false) ⟨HP.out.1.symm, HP.out.2.symm⟩, ?_, BN.out⟩
      rw [HP.out.1]; exact ownW_nil _ _
    have q2 : ¬ (b.size : Int) < 2 := by omega
    have q3 : (1 : Int) ≤ (b.size : Int) := by omega
    have hbx : (b.extract 1 b.size).size ≤ maxLen := by rw [ByteArray.size_extract]; unfold maxLen; omega
    have BX := (Below.refl w2.heap.size w2).alloc (Nat.le_refl _) (.cells #[.int .i64 0, .int .i64 0, .int .i64 0, .slice none 0 0, .slice none 0 0] 39)
    have HB2 := Lib.hid B2
    have HR2 := Lib.hid R2
    clear B2 R2
    go_wp2_with fail
    refine (within _ _ _ _).mono ?_
    rintro e w9 ⟨rfl, rfl⟩
    rw [hw]
    go_wp2_with fail
    refine (implParseInt _ hbx _).mono ?_
    rintro e w3 ⟨rfl, b3⟩
    obtain ⟨fl, hfl⟩ : ∃ fl, piN (b.extract 1 b.size).data.toList = fl := ⟨_, rfl⟩
    have FL : Fit fl := by rw [← hfl]; exact piN_fit _
    rw [hfl]
    have b3' := BX.trans (b3.mono (by simp))
    have hsz3 := b3.size
    simp at hsz3
    have X3 := (Row.new w2 39 [.int .i64 0, .int .i64 0, .int .i64 0, .slice none 0 0, .slice none 0 0]).below b3 (by simp)
    have R3 := (HR2.out.below b3' HR2.out.lt)
    have B3 := HB2.out.trans (b3'.mono (by omega))
    have k0 := celB hc0 b3' hbb
    have HK2 : Hid (∀ c, rest = [c] → w3.cell? ⟨bb, o + 2, none⟩ = some (.string c)) := fun c hc => celB (HC2.out c hc) b3' hbb
    have fr1 := X3.free 1
    have xc1 : w3.cell? ⟨w2.heap.size, 1, none⟩ = some (.int .i64 0) := X3.cell 1
    have xl3 := X3.lt
    have X4 : Row (w3.setCell ⟨w2.heap.size, 1, none⟩ (.int .i64 fl)) w2.heap.size 39 [.int .i64 0, .int .i64 fl, .int .i64 0, .slice none 0 0, .slice none 0 0] := X3.set 1 (.int .i64 fl)
    have R4 := R3.far (p := ⟨w2.heap.size, 1, none⟩) (by show w.heap.size ≠ w2.heap.size; omega) (.int .i64 fl)
    have B4 := B3.setCell (p := ⟨w2.heap.size, 1, none⟩) (by show w.heap.size ≤ w2.heap.size; omega) (.int .i64 fl)
    have k4 := celS (p := ⟨w2.heap.size, 1, none⟩) k0 (by show w2.heap.size ≠ bb; omega) (.int .i64 fl)
    have HK4 : Hid (∀ c, rest = [c] → (w3.setCell ⟨w2.heap.size, 1, none⟩ (.int .i64 fl)).cell? ⟨bb, o + 2, none⟩ = some (.string c)) := fun c hc => celS (HK2.out c hc) (by show w2.heap.size ≠ bb; omega) _
    obtain ⟨w4, hw4⟩ : ∃ w4, w3.setCell ⟨w2.heap.size, 1, none⟩ (.int .i64 fl) = w4 := ⟨_, rfl⟩
    have z4 : w4.heap.size = w3.heap.size := by rw [← hw4]; simp
    rw [hw4] at X4 R4 B4 k4 HK4
    have hlit : Row (w4.alloc (.cells #[.string ⟨#[108, 111, 119]⟩, .string ⟨#[104, 105, 103, 104]⟩, .string ⟨#[110, 101, 97, 114]⟩, .string ⟨#[97, 109, 111, 110, 103]⟩, .string ⟨#[111, 114, 100, 101, 114]⟩] 9)) w4.heap.size 9 ([kindW 0, kindW 1, kindW 2, kindW 3, kindW 4].map Value.string) := Row.new w4 9 [.string ⟨#[108, 111, 119]⟩, .string ⟨#[104, 105, 103, 104]⟩, .string ⟨#[110, 101, 97, 114]⟩, .string ⟨#[97, 109, 111, 110, 103]⟩, .string ⟨#[111, 114, 100, 101, 114]⟩]
    rw [z4] at hlit
    have HLI := Lib.hid hlit
    have X5 := Lib.hid (X4.alloc (.cells #[.string ⟨#[108, 111, 119]⟩, .string ⟨#[104, 105, 103, 104]⟩, .string ⟨#[110, 101, 97, 114]⟩, .string ⟨#[97, 109, 111, 110, 103]⟩, .string ⟨#[111, 114, 100, 101, 114]⟩] 9))
    have R5 := Lib.hid (R4.alloc (.cells #[.string ⟨#[108, 111, 119]⟩, .string ⟨#[104, 105, 103, 104]⟩, .string ⟨#[110, 101, 97, 114]⟩, .string ⟨#[97, 109, 111, 110, 103]⟩, .string ⟨#[111, 114, 100, 101, 114]⟩] 9))
    have B5 := Lib.hid (B4.alloc (by omega) (.cells #[.string ⟨#[108, 111, 119]⟩, .string ⟨#[104, 105, 103, 104]⟩, .string ⟨#[110, 101, 97, 114]⟩, .string ⟨#[97, 109, 111, 110, 103]⟩, .string ⟨#[111, 114, 100, 101, 114]⟩] 9))
    have k5 := celA k4 (.cells #[.string ⟨#[108, 111, 119]⟩, .string ⟨#[104, 105, 103, 104]⟩, .string ⟨#[110, 101, 97, 114]⟩, .string ⟨#[97, 109, 111, 110, 103]⟩, .string ⟨#[111, 114, 100, 101, 114]⟩] 9)
    have HK5 : Hid (∀ c, rest = [c] → (w4.alloc (.cells #[.string ⟨#[108, 111, 119]⟩, .string ⟨#[104, 105, 103, 104]⟩, .string ⟨#[110, 101, 97, 114]⟩, .string ⟨#[97, 109, 111, 110, 103]⟩, .string ⟨#[111, 114, 100, 101, 114]⟩] 9)).cell? ⟨bb, o + 2, none⟩ = some (.string c)) := fun c hc => celA (HK4.out c hc) _
    have hbb4 : bb < w4.heap.size := by omega
    have HFL : Hid (fldI b = fl) := hfl
    have hx2 : w2.heap.size < w4.heap.size := by omega
    have hx1 : w.heap.size < w2.heap.size := by omega
    have HF1 := Lib.hid fr1
    have HX1 := Lib.hid xc1
    have HK3 := Lib.hid k4
    clear hc0 hc1 HC2 b3 b3' BX X3 R3 B3 k0 HK2 hfl xc1 fr1 X4 R4 B4 k4 HK4 hlit HR2 HB2
    have fr1 : w3.frozen? ⟨w2.heap.size, 1, none⟩ = false := HF1.out
    have xc1 : w3.cell? ⟨w2.heap.size, 1, none⟩ = some (.int .i64 0) := HX1.out
    have k3' : (w3.setCell ⟨w2.heap.size, 1, none⟩ (.int .i64 fl)).cell? ⟨bb, o, none⟩ = some (.string a) := by rw [hw4]; exact HK3.out
    go_wp2_with fail
    try rw [hw4]
    refine (indexStrs (n := 5) (c := 5) _ HLI.out rfl (by omega) (by omega)).mono ?_
    rintro e w9 ⟨⟨k, rfl, hk⟩, rfl⟩
    have hkI := idx5 hk
    obtain ⟨kb1, kb2⟩ := kindI_bd a
    rw [← hkI] at kb1 kb2
    have HKI : Hid (kindI a = k) := hkI.symm
    obtain ⟨w5, hw5⟩ : ∃ w5, w4.alloc (.cells #[.string ⟨#[108, 111, 119]⟩, .string ⟨#[104, 105, 103, 104]⟩, .string ⟨#[110, 101, 97, 114]⟩, .string ⟨#[97, 109, 111, 110, 103]⟩, .string ⟨#[111, 114, 100, 101, 114]⟩] 9) = w5 := ⟨_, rfl⟩
    have z5 : w5.heap.size = w4.heap.size + 1 := by rw [← hw5]; simp
    rw [hw5] at X5 R5 B5 k5 HK5 ⊢
    clear hk hkI fr1 xc1
    have fr0 := X5.out.free 0
    have xc0 : w5.cell? ⟨w2.heap.size, 0, none⟩ = some (.int .i64 0) := X5.out.cell 0
    have xl5 := X5.out.lt
    have X6 : Row (w5.setCell ⟨w2.heap.size, 0, none⟩ (.int .i64 k)) w2.heap.size 39 [.int .i64 k, .int .i64 fl, .int .i64 0, .slice none 0 0, .slice none 0 0] := X5.out.set 0 (.int .i64 k)
    have R6 := R5.out.far (p := ⟨w2.heap.size, 0, none⟩) (by show w.heap.size ≠ w2.heap.size; omega) (.int .i64 k)
    have B6 := B5.out.setCell (p := ⟨w2.heap.size, 0, none⟩) (by show w.heap.size ≤ w2.heap.size; omega) (.int .i64 k)
    have HK6 : Hid (∀ c, rest = [c] → (w5.setCell ⟨w2.heap.size, 0, none⟩ (.int .i64 k)).cell? ⟨bb, o + 2, none⟩ = some (.string c)) := fun c hc => celS (HK5.out c hc) (by show w2.heap.size ≠ bb; omega) _
    have zW : (w5.setCell ⟨w2.heap.size, 0, none⟩ (.int .i64 k)).heap.size = w4.heap.size + 1 := by simp [z5]
    have FK : Fit k := by unfold Fit; omega
    by_cases hr0 : rest = []
    · have hm9 : m = 2 := by rw [hr0] at hm; simpa using hm.symm
      have t0 : ((m : Int) == 3) = false := by rw [hm9]; rfl
      have HCAND : Hid (∀ x, P.okW x = true → kindW x.kind :: fldW x.field :: argW x = a :: b :: rest → candI a b none = x) := fun x hx h => candI_two hx (by rw [h, hr0])
      clear hm9
      have HC : Hid (candI a b none = ⟨k, fl, 0, [], []⟩) := by
        show _ = _
        unfold candI
        rw [HKI.out, HFL.out]
        simp
      have HEND : Hid ((wishS ⟨k, fl, 0, [], []⟩ = s → parW s = ⟨k, fl, 0, [], []⟩ ∧ parWB s = true) ∧ (wishS ⟨k, fl, 0, [], []⟩ ≠ s → parW s = zeroW ∧ parWB s = false)) := by
        have h9 := HE.out _ HCAND.out
        rw [HC.out] at h9
        exact h9
      have FF : Hid (FitW ⟨k, fl, 0, [], []⟩) := ⟨FK, FL, by unfold Fit; simp, by simp, by simp⟩
      have XX := X6
      have RX := R6
      have BB := B6
      have hlo : w.heap.size < w2.heap.size + 1 := by omega
      have OL : ((w5.setCell ⟨w2.heap.size, 0, none⟩ (.int .i64 k))).ownsRow (w2.heap.size + 1) 3 1 (.slice none 0 0) 0 (([] : List Int).map (Value.int .i64)) := World.ownsRow_nil _ _ _ _
      have S1 : Sl RI 1 ((w5.setCell ⟨w2.heap.size, 0, none⟩ (.int .i64 k))) ((w5.setCell ⟨w2.heap.size, 0, none⟩ (.int .i64 k))).heap.size none 0 0 [] := Sl.nil _ _
      have OP : ((w5.setCell ⟨w2.heap.size, 0, none⟩ (.int .i64 k))).ownsRow (w2.heap.size + 1) 74 2 (.slice none 0 0) 0 (prc []) := World.ownsRow_nil _ _ _ _
      have S2 : Sl RP 2 ((w5.setCell ⟨w2.heap.size, 0, none⟩ (.int .i64 k))) ((w5.setCell ⟨w2.heap.size, 0, none⟩ (.int .i64 k))).heap.size none 0 0 [] := Sl.nil _ _
      clear X6 R6 B6
      have y0 : (w5.setCell ⟨w2.heap.size, 0, none⟩ (.int .i64 k)).cell? ⟨w2.heap.size, 0, none⟩ = some (.int .i64 k) := XX.cell 0
      have y1 : (w5.setCell ⟨w2.heap.size, 0, none⟩ (.int .i64 k)).cell? ⟨w2.heap.size, 1, none⟩ = some (.int .i64 fl) := XX.cell 1
      have y2 : (w5.setCell ⟨w2.heap.size, 0, none⟩ (.int .i64 k)).cell? ⟨w2.heap.size, 2, none⟩ = some (.int .i64 0) := XX.cell 2
      have y3 : (w5.setCell ⟨w2.heap.size, 0, none⟩ (.int .i64 k)).cell? ⟨w2.heap.size, 3, none⟩ = some (.slice none 0 0) := XX.cell 3
      have y4 : (w5.setCell ⟨w2.heap.size, 0, none⟩ (.int .i64 k)).cell? ⟨w2.heap.size, 4, none⟩ = some (.slice none 0 0) := XX.cell 4
      have hltx := XX.lt
      have hltr := RX.lt
      have XH := Lib.hid XX
      have RH := Lib.hid RX
      have OLH := Lib.hid OL
      have OPH := Lib.hid OP
      have BH := Lib.hid BB
      clear XX RX OL OP BB
      go_wp2_with fail
      refine (implFormatWish (x := ⟨k, fl, 0, [], []⟩) _ S1 S2 FF.out.1 FF.out.2.1 FF.out.2.2.1).mono ?_
      rintro e w6 ⟨rfl, b6⟩
      clear y0 y1 y2 y3 y4 S1 S2
      have R6 := RH.out.below b6 hltr
      have X6 := XH.out.below b6 hltx
      have O6 := own_below OLH.out b6
      have P6 := own_below OPH.out b6
      have B6 := BH.out.trans (b6.mono BH.out.size)
      have f0 := R6.free 0
      have f1 := R6.free 1
      have f2 := R6.free 2
      have f3 := R6.free 3
      have f4 := R6.free 4
      have hlt := R6.lt
      have hlty := X6.lt
      have c0 : w6.cell? ⟨w.heap.size, 0, none⟩ = some (.int .i64 0) := R6.cell 0
      have c1 : w6.cell? ⟨w.heap.size, 1, none⟩ = some (.int .i64 0) := R6.cell 1
      have c2 : w6.cell? ⟨w.heap.size, 2, none⟩ = some (.int .i64 0) := R6.cell 2
      have c3 : w6.cell? ⟨w.heap.size, 3, none⟩ = some (.slice none 0 0) := R6.cell 3
      have c4 : w6.cell? ⟨w.heap.size, 4, none⟩ = some (.slice none 0 0) := R6.cell 4
      have y0 : w6.cell? ⟨w2.heap.size, 0, none⟩ = some (.int .i64 k) := X6.cell 0
      have y1 : w6.cell? ⟨w2.heap.size, 1, none⟩ = some (.int .i64 fl) := X6.cell 1
      have y2 : w6.cell? ⟨w2.heap.size, 2, none⟩ = some (.int .i64 0) := X6.cell 2
      have y3 : w6.cell? ⟨w2.heap.size, 3, none⟩ = some (.slice none 0 0) := X6.cell 3
      have y4 : w6.cell? ⟨w2.heap.size, 4, none⟩ = some (.slice none 0 0) := X6.cell 4
      have BF := Lib.hid (((((B6.setCell (p := ⟨w.heap.size, 0, none⟩) (Nat.le_refl _) (.int .i64 k)).setCell (p := ⟨w.heap.size, 1, none⟩) (Nat.le_refl _) (.int .i64 fl)).setCell (p := ⟨w.heap.size, 2, none⟩) (Nat.le_refl _) (.int .i64 0)).setCell (p := ⟨w.heap.size, 3, none⟩) (Nat.le_refl _) (.slice none 0 0)).setCell (p := ⟨w.heap.size, 4, none⟩) (Nat.le_refl _) (.slice none 0 0))
      have BN := Lib.hid (((((B6.setCell (p := ⟨w.heap.size, 0, none⟩) (Nat.le_refl _) (.int .i64 0)).setCell (p := ⟨w.heap.size, 1, none⟩) (Nat.le_refl _) (.int .i64 0)).setCell (p := ⟨w.heap.size, 2, none⟩) (Nat.le_refl _) (.int .i64 0)).setCell (p := ⟨w.heap.size, 3, none⟩) (Nat.le_refl _) (.slice none 0 0)).setCell (p := ⟨w.heap.size, 4, none⟩) (Nat.le_refl _) (.slice none 0 0))
      have OF := Lib.hid (own_mono (b' := w.heap.size) (ownsRow_setCell_below (ownsRow_setCell_below (ownsRow_setCell_below (ownsRow_setCell_below (ownsRow_setCell_below O6 (a := ⟨w.heap.size, 0, none⟩) hlo (.int .i64 k)) (a := ⟨w.heap.size, 1, none⟩) hlo (.int .i64 fl)) (a := ⟨w.heap.size, 2, none⟩) hlo (.int .i64 0)) (a := ⟨w.heap.size, 3, none⟩) hlo (.slice none 0 0)) (a := ⟨w.heap.size, 4, none⟩) hlo (.slice none 0 0)) (Nat.le_of_lt hlo))
      have PF := Lib.hid (own_mono (b' := w.heap.size) (ownsRow_setCell_below (ownsRow_setCell_below (ownsRow_setCell_below (ownsRow_setCell_below (ownsRow_setCell_below P6 (a := ⟨w.heap.size, 0, none⟩) hlo (.int .i64 k)) (a := ⟨w.heap.size, 1, none⟩) hlo (.int .i64 fl)) (a := ⟨w.heap.size, 2, none⟩) hlo (.int .i64 0)) (a := ⟨w.heap.size, 3, none⟩) hlo (.slice none 0 0)) (a := ⟨w.heap.size, 4, none⟩) hlo (.slice none 0 0)) (Nat.le_of_lt hlo))
      clear R6 X6 O6 P6 B6 b6
      by_cases e : wishS ⟨k, fl, 0, [], []⟩ = s
      · have HP := Lib.hid (HEND.out.1 e)
        have q9 := ba_yes e
        clear e HEND
        go_wp2
        refine bodyPost_ret (v := .tuple #[.agg #[.int .i64 k, .int .i64 fl, .int .i64 0, .slice none 0 0, .slice none 0 0], .bool true]) (by simp [results, Try.results17, go_sem, c0, c1, c2, c3, c4]) rfl ?_
        refine ⟨_, _, ret_wb (x := ⟨k, fl, 0, [], []⟩) (b := true) ⟨HP.out.1.symm, HP.out.2.symm⟩, ?_, BF.out⟩
        rw [HP.out.1]
        exact ⟨OF.out, PF.out, far_nilR _⟩
      · have HP := Lib.hid (HEND.out.2 e)
        have q9 := ba_no e
        clear e HEND
        go_wp2
        refine bodyPost_ret (v := .tuple #[.agg #[.int .i64 0, .int .i64 0, .int .i64 0, .slice none 0 0, .slice none 0 0], .bool false]) (by simp [results, Try.results17, go_sem, c0, c1, c2, c3, c4]) rfl ?_
        refine ⟨_, _, ret_wb (x := zeroW) (u := .slice none 0 0) (v := .slice none 0 0) (b := false) ⟨HP.out.1.symm, HP.out.2.symm⟩, ?_, BN.out⟩
        rw [HP.out.1]; exact ownW_nil _ _
    · obtain ⟨c9, hr1⟩ : ∃ c9, rest = [c9] := by
        match rest, hrl, hr0 with
        | [c9], _, _ => exact ⟨c9, rfl⟩
      have hm9 : m = 3 := by rw [hr1] at hm; simpa using hm.symm
      have t0 : ((m : Int) == 3) = true := by rw [hm9]; rfl
      have p5 : (2 : Int) < (m : Int) := by omega
      have HCAND : Hid (∀ x, P.okW x = true → kindW x.kind :: fldW x.field :: argW x = a :: b :: rest → candI a b (some c9) = x) := fun x hx h => candI_three hx (by rw [h, hr1])
      have hargs2 : c9.size ≤ 1048576 := HRC.out c9 hr1
      have hargs : c9.size ≤ maxLen := Nat.le_trans hargs2 (by decide)
      have k2 := HK6.out c9 hr1
      have k2b := HK5.out c9 hr1
      have nb1 : ¬ bb = w2.heap.size := by omega
      have nb2 : ¬ w2.heap.size = bb := by omega
      clear hm9 hr0
      by_cases n2 : k = 2
      · have s2 : (k == 2) = true := by simp [n2]
        have N2 := Lib.hid n2
        clear n2
        have xk : (w5.setCell ⟨w2.heap.size, 0, none⟩ (.int .i64 k)).cell? ⟨w2.heap.size, 0, none⟩ = some (.int .i64 k) := X6.cell 0
        have x6l := X6.lt
        have XH6 := Lib.hid X6
        have RH6 := Lib.hid R6
        have BH6 := Lib.hid B6
        clear X6 R6 B6
        have HC0 : Hid (candI a b (some c9) = ⟨k, fl, piN c9.data.toList, [], []⟩) := by
          show _ = _
          unfold candI
          rw [HKI.out, HFL.out, if_pos N2.out, if_neg (by have := N2.out; omega), if_neg (by have := N2.out; omega)]
        go_wp2_with fail
        refine (implParseInt c9 hargs _).mono ?_
        rintro e w7 ⟨rfl, b7⟩
        obtain ⟨nv, hnv⟩ : ∃ nv, piN c9.data.toList = nv := ⟨_, rfl⟩
        have FN : Fit nv := by rw [← hnv]; exact piN_fit _
        rw [hnv] at HC0 ⊢
        have HC := HC0
        have z7 := b7.size
        rw [zW] at z7
        have X7 := XH6.out.below b7 XH6.out.lt
        have R7 := RH6.out.below b7 RH6.out.lt
        have B7 := BH6.out.trans (b7.mono BH6.out.size)
        have fr7 := X7.free 2
        have xlt7 := X7.lt
        have xc7 : w7.cell? ⟨w2.heap.size, 2, none⟩ = some (.int .i64 0) := X7.cell 2
        have XX : Row (w7.setCell ⟨w2.heap.size, 2, none⟩ (.int .i64 nv)) w2.heap.size 39 [.int .i64 k, .int .i64 fl, .int .i64 nv, .slice none 0 0, .slice none 0 0] := X7.set 2 (.int .i64 nv)
        have RX := R7.far (p := ⟨w2.heap.size, 2, none⟩) (by show w.heap.size ≠ w2.heap.size; omega) (.int .i64 nv)
        have BB := B7.setCell (p := ⟨w2.heap.size, 2, none⟩) (by show w.heap.size ≤ w2.heap.size; omega) (.int .i64 nv)
        have hlo : w.heap.size < w2.heap.size + 1 := by omega
        have HEND : Hid ((wishS ⟨k, fl, nv, [], []⟩ = s → parW s = ⟨k, fl, nv, [], []⟩ ∧ parWB s = true) ∧ (wishS ⟨k, fl, nv, [], []⟩ ≠ s → parW s = zeroW ∧ parWB s = false)) := by
          have h9 := HE.out _ HCAND.out
          rw [HC.out] at h9
          exact h9
        have FF : Hid (FitW ⟨k, fl, nv, [], []⟩) := ⟨FK, FL, FN, by simp, by simp⟩
        have OL : ((w7.setCell ⟨w2.heap.size, 2, none⟩ (.int .i64 nv))).ownsRow (w2.heap.size + 1) 3 1 (.slice none 0 0) 0 (([] : List Int).map (Value.int .i64)) := World.ownsRow_nil _ _ _ _
        have S1 : Sl RI 1 ((w7.setCell ⟨w2.heap.size, 2, none⟩ (.int .i64 nv))) ((w7.setCell ⟨w2.heap.size, 2, none⟩ (.int .i64 nv))).heap.size none 0 0 [] := Sl.nil _ _
        have OP : ((w7.setCell ⟨w2.heap.size, 2, none⟩ (.int .i64 nv))).ownsRow (w2.heap.size + 1) 74 2 (.slice none 0 0) 0 (prc []) := World.ownsRow_nil _ _ _ _
        have S2 : Sl RP 2 ((w7.setCell ⟨w2.heap.size, 2, none⟩ (.int .i64 nv))) ((w7.setCell ⟨w2.heap.size, 2, none⟩ (.int .i64 nv))).heap.size none 0 0 [] := Sl.nil _ _
        clear X7 R7 B7 b7 hnv
        have y0 : (w7.setCell ⟨w2.heap.size, 2, none⟩ (.int .i64 nv)).cell? ⟨w2.heap.size, 0, none⟩ = some (.int .i64 k) := XX.cell 0
        have y1 : (w7.setCell ⟨w2.heap.size, 2, none⟩ (.int .i64 nv)).cell? ⟨w2.heap.size, 1, none⟩ = some (.int .i64 fl) := XX.cell 1
        have y2 : (w7.setCell ⟨w2.heap.size, 2, none⟩ (.int .i64 nv)).cell? ⟨w2.heap.size, 2, none⟩ = some (.int .i64 nv) := XX.cell 2
        have y3 : (w7.setCell ⟨w2.heap.size, 2, none⟩ (.int .i64 nv)).cell? ⟨w2.heap.size, 3, none⟩ = some (.slice none 0 0) := XX.cell 3
        have y4 : (w7.setCell ⟨w2.heap.size, 2, none⟩ (.int .i64 nv)).cell? ⟨w2.heap.size, 4, none⟩ = some (.slice none 0 0) := XX.cell 4
        have hltx := XX.lt
        have hltr := RX.lt
        have XH := Lib.hid XX
        have RH := Lib.hid RX
        have OLH := Lib.hid OL
        have OPH := Lib.hid OP
        have BH := Lib.hid BB
        clear XX RX OL OP BB
        go_wp2_with fail
        refine (implFormatWish (x := ⟨k, fl, nv, [], []⟩) _ S1 S2 FF.out.1 FF.out.2.1 FF.out.2.2.1).mono ?_
        rintro e w6 ⟨rfl, b6⟩
        clear y0 y1 y2 y3 y4 S1 S2
        have R6 := RH.out.below b6 hltr
        have X6 := XH.out.below b6 hltx
        have O6 := own_below OLH.out b6
        have P6 := own_below OPH.out b6
        have B6 := BH.out.trans (b6.mono BH.out.size)
        have f0 := R6.free 0
        have f1 := R6.free 1
        have f2 := R6.free 2
        have f3 := R6.free 3
        have f4 := R6.free 4
        have hlt := R6.lt
        have hlty := X6.lt
        have c0 : w6.cell? ⟨w.heap.size, 0, none⟩ = some (.int .i64 0) := R6.cell 0
        have c1 : w6.cell? ⟨w.heap.size, 1, none⟩ = some (.int .i64 0) := R6.cell 1
        have c2 : w6.cell? ⟨w.heap.size, 2, none⟩ = some (.int .i64 0) := R6.cell 2
        have c3 : w6.cell? ⟨w.heap.size, 3, none⟩ = some (.slice none 0 0) := R6.cell 3
        have c4 : w6.cell? ⟨w.heap.size, 4, none⟩ = some (.slice none 0 0) := R6.cell 4
        have y0 : w6.cell? ⟨w2.heap.size, 0, none⟩ = some (.int .i64 k) := X6.cell 0
        have y1 : w6.cell? ⟨w2.heap.size, 1, none⟩ = some (.int .i64 fl) := X6.cell 1
        have y2 : w6.cell? ⟨w2.heap.size, 2, none⟩ = some (.int .i64 nv) := X6.cell 2
        have y3 : w6.cell? ⟨w2.heap.size, 3, none⟩ = some (.slice none 0 0) := X6.cell 3
        have y4 : w6.cell? ⟨w2.heap.size, 4, none⟩ = some (.slice none 0 0) := X6.cell 4
        have BF := Lib.hid (((((B6.setCell (p := ⟨w.heap.size, 0, none⟩) (Nat.le_refl _) (.int .i64 k)).setCell (p := ⟨w.heap.size, 1, none⟩) (Nat.le_refl _) (.int .i64 fl)).setCell (p := ⟨w.heap.size, 2, none⟩) (Nat.le_refl _) (.int .i64 nv)).setCell (p := ⟨w.heap.size, 3, none⟩) (Nat.le_refl _) (.slice none 0 0)).setCell (p := ⟨w.heap.size, 4, none⟩) (Nat.le_refl _) (.slice none 0 0))
        have BN := Lib.hid (((((B6.setCell (p := ⟨w.heap.size, 0, none⟩) (Nat.le_refl _) (.int .i64 0)).setCell (p := ⟨w.heap.size, 1, none⟩) (Nat.le_refl _) (.int .i64 0)).setCell (p := ⟨w.heap.size, 2, none⟩) (Nat.le_refl _) (.int .i64 0)).setCell (p := ⟨w.heap.size, 3, none⟩) (Nat.le_refl _) (.slice none 0 0)).setCell (p := ⟨w.heap.size, 4, none⟩) (Nat.le_refl _) (.slice none 0 0))
        have OF := Lib.hid (own_mono (b' := w.heap.size) (ownsRow_setCell_below (ownsRow_setCell_below (ownsRow_setCell_below (ownsRow_setCell_below (ownsRow_setCell_below O6 (a := ⟨w.heap.size, 0, none⟩) hlo (.int .i64 k)) (a := ⟨w.heap.size, 1, none⟩) hlo (.int .i64 fl)) (a := ⟨w.heap.size, 2, none⟩) hlo (.int .i64 nv)) (a := ⟨w.heap.size, 3, none⟩) hlo (.slice none 0 0)) (a := ⟨w.heap.size, 4, none⟩) hlo (.slice none 0 0)) (Nat.le_of_lt hlo))
        have PF := Lib.hid (own_mono (b' := w.heap.size) (ownsRow_setCell_below (ownsRow_setCell_below (ownsRow_setCell_below (ownsRow_setCell_below (ownsRow_setCell_below P6 (a := ⟨w.heap.size, 0, none⟩) hlo (.int .i64 k)) (a := ⟨w.heap.size, 1, none⟩) hlo (.int .i64 fl)) (a := ⟨w.heap.size, 2, none⟩) hlo (.int .i64 nv)) (a := ⟨w.heap.size, 3, none⟩) hlo (.slice none 0 0)) (a := ⟨w.heap.size, 4, none⟩) hlo (.slice none 0 0)) (Nat.le_of_lt hlo))
        clear R6 X6 O6 P6 B6 b6
        by_cases e : wishS ⟨k, fl, nv, [], []⟩ = s
        · have HP := Lib.hid (HEND.out.1 e)
          have q9 := ba_yes e
          clear e HEND
          go_wp2
          refine bodyPost_ret (v := .tuple #[.agg #[.int .i64 k, .int .i64 fl, .int .i64 nv, .slice none 0 0, .slice none 0 0], .bool true]) (by simp [results, Try.results17, go_sem, c0, c1, c2, c3, c4]) rfl ?_
          refine ⟨_, _, ret_wb (x := ⟨k, fl, nv, [], []⟩) (b := true) ⟨HP.out.1.symm, HP.out.2.symm⟩, ?_, BF.out⟩
          rw [HP.out.1]
          exact ⟨OF.out, PF.out, far_nilR _⟩
        · have HP := Lib.hid (HEND.out.2 e)
          have q9 := ba_no e
          clear e HEND
          go_wp2
          refine bodyPost_ret (v := .tuple #[.agg #[.int .i64 0, .int .i64 0, .int .i64 0, .slice none 0 0, .slice none 0 0], .bool false]) (by simp [results, Try.results17, go_sem, c0, c1, c2, c3, c4]) rfl ?_
          refine ⟨_, _, ret_wb (x := zeroW) (u := .slice none 0 0) (v := .slice none 0 0) (b := false) ⟨HP.out.1.symm, HP.out.2.symm⟩, ?_, BN.out⟩
          rw [HP.out.1]; exact ownW_nil _ _
      have s2 : (k == 2) = false := by simp [n2]
      by_cases n3 : k = 3
      · have s3 : (k == 3) = true := by simp [n3]
        have N3 := Lib.hid n3
        clear n3
        have xk : (w5.setCell ⟨w2.heap.size, 0, none⟩ (.int .i64 k)).cell? ⟨w2.heap.size, 0, none⟩ = some (.int .i64 k) := X6.cell 0
        have x6l := X6.lt
        have XH6 := Lib.hid X6
        have RH6 := Lib.hid R6
        have BH6 := Lib.hid B6
        clear X6 R6 B6
        have HC0 : Hid (candI a b (some c9) = ⟨k, fl, 0, rdN c9, []⟩) := by
          show _ = _
          unfold candI
          rw [HKI.out, HFL.out, if_neg n2, if_pos N3.out, if_neg (by have := N3.out; omega)]
        go_wp2_with fail
        refine (readNumbers _ hargs2).mono ?_
        rintro e w7 ⟨vq, rfl, Oq, b7⟩
        have FQ : Hid (∀ y ∈ rdN c9, Fit y) := by
          show ∀ y ∈ rdN c9, Fit y
          intro y hy
          unfold rdN at hy
          obtain ⟨t, _, rfl⟩ := List.mem_map.1 hy
          exact piN_fit _
        obtain ⟨rl, hrl9⟩ : ∃ rl, rdN c9 = rl := ⟨_, rfl⟩
        rw [hrl9] at HC0 Oq FQ
        have HC := HC0
        obtain ⟨A5, c5, rfl, _, _⟩ := own_form Oq.1
        have z7 := b7.size
        rw [zW] at z7
        have X7 := XH6.out.below b7 XH6.out.lt
        have R7 := RH6.out.below b7 RH6.out.lt
        have B7 := BH6.out.trans (b7.mono BH6.out.size)
        have fr7 := X7.free 3
        have xlt7 := X7.lt
        have xc7 : w7.cell? ⟨w2.heap.size, 3, none⟩ = some (.slice none 0 0) := X7.cell 3
        have O7 := own_mono (b' := w2.heap.size + 1) Oq.1 (by rw [zW]; omega)
        have XX : Row (w7.setCell ⟨w2.heap.size, 3, none⟩ (.slice A5 rl.length c5)) w2.heap.size 39 [.int .i64 k, .int .i64 fl, .int .i64 0, .slice A5 rl.length c5, .slice none 0 0] := X7.set 3 (.slice A5 rl.length c5)
        have RX := R7.far (p := ⟨w2.heap.size, 3, none⟩) (by show w.heap.size ≠ w2.heap.size; omega) (.slice A5 rl.length c5)
        have BB := B7.setCell (p := ⟨w2.heap.size, 3, none⟩) (by show w.heap.size ≤ w2.heap.size; omega) (.slice A5 rl.length c5)
        have hlo : w.heap.size < w2.heap.size + 1 := by omega
        have OL := ownsRow_setCell_below O7 (a := ⟨w2.heap.size, 3, none⟩) (by show w2.heap.size < w2.heap.size + 1; omega) (.slice A5 rl.length c5)
        have S1 : Sl RI 1 (w7.setCell ⟨w2.heap.size, 3, none⟩ (.slice A5 rl.length c5)) (w7.setCell ⟨w2.heap.size, 3, none⟩ (.slice A5 rl.length c5)).heap.size A5 rl.length c5 rl := by
          obtain ⟨A', n', c', e', hS⟩ := own_ints OL FQ.out
          injection e' with e1 e2 e3
          subst e1 e2 e3
          exact hS
        have HEND : Hid ((wishS ⟨k, fl, 0, rl, []⟩ = s → parW s = ⟨k, fl, 0, rl, []⟩ ∧ parWB s = true) ∧ (wishS ⟨k, fl, 0, rl, []⟩ ≠ s → parW s = zeroW ∧ parWB s = false)) := by
          have h9 := HE.out _ HCAND.out
          rw [HC.out] at h9
          exact h9
        have FF : Hid (FitW ⟨k, fl, 0, rl, []⟩) := ⟨FK, FL, by unfold Fit; simp, FQ.out, by simp⟩
        have OP : ((w7.setCell ⟨w2.heap.size, 3, none⟩ (.slice A5 rl.length c5))).ownsRow (w2.heap.size + 1) 74 2 (.slice none 0 0) 0 (prc []) := World.ownsRow_nil _ _ _ _
        have S2 : Sl RP 2 ((w7.setCell ⟨w2.heap.size, 3, none⟩ (.slice A5 rl.length c5))) ((w7.setCell ⟨w2.heap.size, 3, none⟩ (.slice A5 rl.length c5))).heap.size none 0 0 [] := Sl.nil _ _
        clear X7 R7 B7 b7 O7 Oq n2
        have y0 : (w7.setCell ⟨w2.heap.size, 3, none⟩ (.slice A5 rl.length c5)).cell? ⟨w2.heap.size, 0, none⟩ = some (.int .i64 k) := XX.cell 0
        have y1 : (w7.setCell ⟨w2.heap.size, 3, none⟩ (.slice A5 rl.length c5)).cell? ⟨w2.heap.size, 1, none⟩ = some (.int .i64 fl) := XX.cell 1
        have y2 : (w7.setCell ⟨w2.heap.size, 3, none⟩ (.slice A5 rl.length c5)).cell? ⟨w2.heap.size, 2, none⟩ = some (.int .i64 0) := XX.cell 2
        have y3 : (w7.setCell ⟨w2.heap.size, 3, none⟩ (.slice A5 rl.length c5)).cell? ⟨w2.heap.size, 3, none⟩ = some (.slice A5 rl.length c5) := XX.cell 3
        have y4 : (w7.setCell ⟨w2.heap.size, 3, none⟩ (.slice A5 rl.length c5)).cell? ⟨w2.heap.size, 4, none⟩ = some (.slice none 0 0) := XX.cell 4
        have hltx := XX.lt
        have hltr := RX.lt
        have XH := Lib.hid XX
        have RH := Lib.hid RX
        have OLH := Lib.hid OL
        have OPH := Lib.hid OP
        have BH := Lib.hid BB
        clear XX RX OL OP BB
        go_wp2_with fail
        refine (implFormatWish (x := ⟨k, fl, 0, rl, []⟩) _ S1 S2 FF.out.1 FF.out.2.1 FF.out.2.2.1).mono ?_
        rintro e w6 ⟨rfl, b6⟩
        clear y0 y1 y2 y3 y4 S1 S2
        have R6 := RH.out.below b6 hltr
        have X6 := XH.out.below b6 hltx
        have O6 := own_below OLH.out b6
        have P6 := own_below OPH.out b6
        have B6 := BH.out.trans (b6.mono BH.out.size)
        have f0 := R6.free 0
        have f1 := R6.free 1
        have f2 := R6.free 2
        have f3 := R6.free 3
        have f4 := R6.free 4
        have hlt := R6.lt
        have hlty := X6.lt
        have c0 : w6.cell? ⟨w.heap.size, 0, none⟩ = some (.int .i64 0) := R6.cell 0
        have c1 : w6.cell? ⟨w.heap.size, 1, none⟩ = some (.int .i64 0) := R6.cell 1
        have c2 : w6.cell? ⟨w.heap.size, 2, none⟩ = some (.int .i64 0) := R6.cell 2
        have c3 : w6.cell? ⟨w.heap.size, 3, none⟩ = some (.slice none 0 0) := R6.cell 3
        have c4 : w6.cell? ⟨w.heap.size, 4, none⟩ = some (.slice none 0 0) := R6.cell 4
        have y0 : w6.cell? ⟨w2.heap.size, 0, none⟩ = some (.int .i64 k) := X6.cell 0
        have y1 : w6.cell? ⟨w2.heap.size, 1, none⟩ = some (.int .i64 fl) := X6.cell 1
        have y2 : w6.cell? ⟨w2.heap.size, 2, none⟩ = some (.int .i64 0) := X6.cell 2
        have y3 : w6.cell? ⟨w2.heap.size, 3, none⟩ = some (.slice A5 rl.length c5) := X6.cell 3
        have y4 : w6.cell? ⟨w2.heap.size, 4, none⟩ = some (.slice none 0 0) := X6.cell 4
        have BF := Lib.hid (((((B6.setCell (p := ⟨w.heap.size, 0, none⟩) (Nat.le_refl _) (.int .i64 k)).setCell (p := ⟨w.heap.size, 1, none⟩) (Nat.le_refl _) (.int .i64 fl)).setCell (p := ⟨w.heap.size, 2, none⟩) (Nat.le_refl _) (.int .i64 0)).setCell (p := ⟨w.heap.size, 3, none⟩) (Nat.le_refl _) (.slice A5 rl.length c5)).setCell (p := ⟨w.heap.size, 4, none⟩) (Nat.le_refl _) (.slice none 0 0))
        have BN := Lib.hid (((((B6.setCell (p := ⟨w.heap.size, 0, none⟩) (Nat.le_refl _) (.int .i64 0)).setCell (p := ⟨w.heap.size, 1, none⟩) (Nat.le_refl _) (.int .i64 0)).setCell (p := ⟨w.heap.size, 2, none⟩) (Nat.le_refl _) (.int .i64 0)).setCell (p := ⟨w.heap.size, 3, none⟩) (Nat.le_refl _) (.slice none 0 0)).setCell (p := ⟨w.heap.size, 4, none⟩) (Nat.le_refl _) (.slice none 0 0))
        have OF := Lib.hid (own_mono (b' := w.heap.size) (ownsRow_setCell_below (ownsRow_setCell_below (ownsRow_setCell_below (ownsRow_setCell_below (ownsRow_setCell_below O6 (a := ⟨w.heap.size, 0, none⟩) hlo (.int .i64 k)) (a := ⟨w.heap.size, 1, none⟩) hlo (.int .i64 fl)) (a := ⟨w.heap.size, 2, none⟩) hlo (.int .i64 0)) (a := ⟨w.heap.size, 3, none⟩) hlo (.slice A5 rl.length c5)) (a := ⟨w.heap.size, 4, none⟩) hlo (.slice none 0 0)) (Nat.le_of_lt hlo))
        have PF := Lib.hid (own_mono (b' := w.heap.size) (ownsRow_setCell_below (ownsRow_setCell_below (ownsRow_setCell_below (ownsRow_setCell_below (ownsRow_setCell_below P6 (a := ⟨w.heap.size, 0, none⟩) hlo (.int .i64 k)) (a := ⟨w.heap.size, 1, none⟩) hlo (.int .i64 fl)) (a := ⟨w.heap.size, 2, none⟩) hlo (.int .i64 0)) (a := ⟨w.heap.size, 3, none⟩) hlo (.slice A5 rl.length c5)) (a := ⟨w.heap.size, 4, none⟩) hlo (.slice none 0 0)) (Nat.le_of_lt hlo))
        clear R6 X6 O6 P6 B6 b6
        by_cases e : wishS ⟨k, fl, 0, rl, []⟩ = s
        · have HP := Lib.hid (HEND.out.1 e)
          have q9 := ba_yes e
          clear e HEND
          go_wp2
          refine bodyPost_ret (v := .tuple #[.agg #[.int .i64 k, .int .i64 fl, .int .i64 0, .slice A5 rl.length c5, .slice none 0 0], .bool true]) (by simp [results, Try.results17, go_sem, c0, c1, c2, c3, c4]) rfl ?_
          refine ⟨_, _, ret_wb (x := ⟨k, fl, 0, rl, []⟩) (b := true) ⟨HP.out.1.symm, HP.out.2.symm⟩, ?_, BF.out⟩
          rw [HP.out.1]
          exact ⟨OF.out, PF.out, far_nilR _⟩
        · have HP := Lib.hid (HEND.out.2 e)
          have q9 := ba_no e
          clear e HEND
          go_wp2
          refine bodyPost_ret (v := .tuple #[.agg #[.int .i64 0, .int .i64 0, .int .i64 0, .slice none 0 0, .slice none 0 0], .bool false]) (by simp [results, Try.results17, go_sem, c0, c1, c2, c3, c4]) rfl ?_
          refine ⟨_, _, ret_wb (x := zeroW) (u := .slice none 0 0) (v := .slice none 0 0) (b := false) ⟨HP.out.1.symm, HP.out.2.symm⟩, ?_, BN.out⟩
          rw [HP.out.1]; exact ownW_nil _ _
      have s3 : (k == 3) = false := by simp [n3]
      by_cases n4 : k = 4
      · have s4 : (k == 4) = true := by simp [n4]
        have N4 := Lib.hid n4
        clear n4
        have xk : (w5.setCell ⟨w2.heap.size, 0, none⟩ (.int .i64 k)).cell? ⟨w2.heap.size, 0, none⟩ = some (.int .i64 k) := X6.cell 0
        have x6l := X6.lt
        have XH6 := Lib.hid X6
        have RH6 := Lib.hid R6
        have BH6 := Lib.hid B6
        clear X6 R6 B6
        have HC0 : Hid (candI a b (some c9) = ⟨k, fl, 0, [], parP c9⟩) := by
          show _ = _
          unfold candI
          rw [HKI.out, HFL.out, if_neg n2, if_neg n3, if_pos N4.out]
        go_wp2_with fail
        refine (implParsePairs _ hargs2).mono ?_
        rintro e w7 ⟨vq, rfl, Oq, b7⟩
        have FQ := Lib.hid (parP_fit c9)
        obtain ⟨ps, hps⟩ : ∃ ps, parP c9 = ps := ⟨_, rfl⟩
        rw [hps] at HC0 Oq FQ
        have HC := HC0
        obtain ⟨E5, d5, rfl, _, _⟩ := own_form Oq.1
        have z7 := b7.size
        rw [zW] at z7
        have X7 := XH6.out.below b7 XH6.out.lt
        have R7 := RH6.out.below b7 RH6.out.lt
        have B7 := BH6.out.trans (b7.mono BH6.out.size)
        have fr7 := X7.free 4
        have xlt7 := X7.lt
        have xc7 : w7.cell? ⟨w2.heap.size, 4, none⟩ = some (.slice none 0 0) := X7.cell 4
        have O7 := own_mono (b' := w2.heap.size + 1) Oq.1 (by rw [zW]; omega)
        have XX : Row (w7.setCell ⟨w2.heap.size, 4, none⟩ (.slice E5 ps.length d5)) w2.heap.size 39 [.int .i64 k, .int .i64 fl, .int .i64 0, .slice none 0 0, .slice E5 ps.length d5] := X7.set 4 (.slice E5 ps.length d5)
        have RX := R7.far (p := ⟨w2.heap.size, 4, none⟩) (by show w.heap.size ≠ w2.heap.size; omega) (.slice E5 ps.length d5)
        have BB := B7.setCell (p := ⟨w2.heap.size, 4, none⟩) (by show w.heap.size ≤ w2.heap.size; omega) (.slice E5 ps.length d5)
        have hlo : w.heap.size < w2.heap.size + 1 := by omega
        have OP := ownsRow_setCell_below O7 (a := ⟨w2.heap.size, 4, none⟩) (by show w2.heap.size < w2.heap.size + 1; omega) (.slice E5 ps.length d5)
        have S2 : Sl RP 2 (w7.setCell ⟨w2.heap.size, 4, none⟩ (.slice E5 ps.length d5)) (w7.setCell ⟨w2.heap.size, 4, none⟩ (.slice E5 ps.length d5)).heap.size E5 ps.length d5 ps := by
          obtain ⟨A', n', c', e', hS⟩ := own_pairs OP FQ.out
          injection e' with e1 e2 e3
          subst e1 e2 e3
          exact hS
        have HEND : Hid ((wishS ⟨k, fl, 0, [], ps⟩ = s → parW s = ⟨k, fl, 0, [], ps⟩ ∧ parWB s = true) ∧ (wishS ⟨k, fl, 0, [], ps⟩ ≠ s → parW s = zeroW ∧ parWB s = false)) := by
          have h9 := HE.out _ HCAND.out
          rw [HC.out] at h9
          exact h9
        have FF : Hid (FitW ⟨k, fl, 0, [], ps⟩) := ⟨FK, FL, by unfold Fit; simp, by simp, FQ.out⟩
        have OL : ((w7.setCell ⟨w2.heap.size, 4, none⟩ (.slice E5 ps.length d5))).ownsRow (w2.heap.size + 1) 3 1 (.slice none 0 0) 0 (([] : List Int).map (Value.int .i64)) := World.ownsRow_nil _ _ _ _
        have S1 : Sl RI 1 ((w7.setCell ⟨w2.heap.size, 4, none⟩ (.slice E5 ps.length d5))) ((w7.setCell ⟨w2.heap.size, 4, none⟩ (.slice E5 ps.length d5))).heap.size none 0 0 [] := Sl.nil _ _
        clear X7 R7 B7 b7 O7 Oq n2 n3
        have y0 : (w7.setCell ⟨w2.heap.size, 4, none⟩ (.slice E5 ps.length d5)).cell? ⟨w2.heap.size, 0, none⟩ = some (.int .i64 k) := XX.cell 0
        have y1 : (w7.setCell ⟨w2.heap.size, 4, none⟩ (.slice E5 ps.length d5)).cell? ⟨w2.heap.size, 1, none⟩ = some (.int .i64 fl) := XX.cell 1
        have y2 : (w7.setCell ⟨w2.heap.size, 4, none⟩ (.slice E5 ps.length d5)).cell? ⟨w2.heap.size, 2, none⟩ = some (.int .i64 0) := XX.cell 2
        have y3 : (w7.setCell ⟨w2.heap.size, 4, none⟩ (.slice E5 ps.length d5)).cell? ⟨w2.heap.size, 3, none⟩ = some (.slice none 0 0) := XX.cell 3
        have y4 : (w7.setCell ⟨w2.heap.size, 4, none⟩ (.slice E5 ps.length d5)).cell? ⟨w2.heap.size, 4, none⟩ = some (.slice E5 ps.length d5) := XX.cell 4
        have hltx := XX.lt
        have hltr := RX.lt
        have XH := Lib.hid XX
        have RH := Lib.hid RX
        have OLH := Lib.hid OL
        have OPH := Lib.hid OP
        have BH := Lib.hid BB
        clear XX RX OL OP BB
        go_wp2_with fail
        refine (implFormatWish (x := ⟨k, fl, 0, [], ps⟩) _ S1 S2 FF.out.1 FF.out.2.1 FF.out.2.2.1).mono ?_
        rintro e w6 ⟨rfl, b6⟩
        clear y0 y1 y2 y3 y4 S1 S2
        have R6 := RH.out.below b6 hltr
        have X6 := XH.out.below b6 hltx
        have O6 := own_below OLH.out b6
        have P6 := own_below OPH.out b6
        have B6 := BH.out.trans (b6.mono BH.out.size)
        have f0 := R6.free 0
        have f1 := R6.free 1
        have f2 := R6.free 2
        have f3 := R6.free 3
        have f4 := R6.free 4
        have hlt := R6.lt
        have hlty := X6.lt
        have c0 : w6.cell? ⟨w.heap.size, 0, none⟩ = some (.int .i64 0) := R6.cell 0
        have c1 : w6.cell? ⟨w.heap.size, 1, none⟩ = some (.int .i64 0) := R6.cell 1
        have c2 : w6.cell? ⟨w.heap.size, 2, none⟩ = some (.int .i64 0) := R6.cell 2
        have c3 : w6.cell? ⟨w.heap.size, 3, none⟩ = some (.slice none 0 0) := R6.cell 3
        have c4 : w6.cell? ⟨w.heap.size, 4, none⟩ = some (.slice none 0 0) := R6.cell 4
        have y0 : w6.cell? ⟨w2.heap.size, 0, none⟩ = some (.int .i64 k) := X6.cell 0
        have y1 : w6.cell? ⟨w2.heap.size, 1, none⟩ = some (.int .i64 fl) := X6.cell 1
        have y2 : w6.cell? ⟨w2.heap.size, 2, none⟩ = some (.int .i64 0) := X6.cell 2
        have y3 : w6.cell? ⟨w2.heap.size, 3, none⟩ = some (.slice none 0 0) := X6.cell 3
        have y4 : w6.cell? ⟨w2.heap.size, 4, none⟩ = some (.slice E5 ps.length d5) := X6.cell 4
        have BF := Lib.hid (((((B6.setCell (p := ⟨w.heap.size, 0, none⟩) (Nat.le_refl _) (.int .i64 k)).setCell (p := ⟨w.heap.size, 1, none⟩) (Nat.le_refl _) (.int .i64 fl)).setCell (p := ⟨w.heap.size, 2, none⟩) (Nat.le_refl _) (.int .i64 0)).setCell (p := ⟨w.heap.size, 3, none⟩) (Nat.le_refl _) (.slice none 0 0)).setCell (p := ⟨w.heap.size, 4, none⟩) (Nat.le_refl _) (.slice E5 ps.length d5))
        have BN := Lib.hid (((((B6.setCell (p := ⟨w.heap.size, 0, none⟩) (Nat.le_refl _) (.int .i64 0)).setCell (p := ⟨w.heap.size, 1, none⟩) (Nat.le_refl _) (.int .i64 0)).setCell (p := ⟨w.heap.size, 2, none⟩) (Nat.le_refl _) (.int .i64 0)).setCell (p := ⟨w.heap.size, 3, none⟩) (Nat.le_refl _) (.slice none 0 0)).setCell (p := ⟨w.heap.size, 4, none⟩) (Nat.le_refl _) (.slice none 0 0))
        have OF := Lib.hid (own_mono (b' := w.heap.size) (ownsRow_setCell_below (ownsRow_setCell_below (ownsRow_setCell_below (ownsRow_setCell_below (ownsRow_setCell_below O6 (a := ⟨w.heap.size, 0, none⟩) hlo (.int .i64 k)) (a := ⟨w.heap.size, 1, none⟩) hlo (.int .i64 fl)) (a := ⟨w.heap.size, 2, none⟩) hlo (.int .i64 0)) (a := ⟨w.heap.size, 3, none⟩) hlo (.slice none 0 0)) (a := ⟨w.heap.size, 4, none⟩) hlo (.slice E5 ps.length d5)) (Nat.le_of_lt hlo))
        have PF := Lib.hid (own_mono (b' := w.heap.size) (ownsRow_setCell_below (ownsRow_setCell_below (ownsRow_setCell_below (ownsRow_setCell_below (ownsRow_setCell_below P6 (a := ⟨w.heap.size, 0, none⟩) hlo (.int .i64 k)) (a := ⟨w.heap.size, 1, none⟩) hlo (.int .i64 fl)) (a := ⟨w.heap.size, 2, none⟩) hlo (.int .i64 0)) (a := ⟨w.heap.size, 3, none⟩) hlo (.slice none 0 0)) (a := ⟨w.heap.size, 4, none⟩) hlo (.slice E5 ps.length d5)) (Nat.le_of_lt hlo))
        clear R6 X6 O6 P6 B6 b6
        by_cases e : wishS ⟨k, fl, 0, [], ps⟩ = s
        · have HP := Lib.hid (HEND.out.1 e)
          have q9 := ba_yes e
          clear e HEND
          go_wp2
          refine bodyPost_ret (v := .tuple #[.agg #[.int .i64 k, .int .i64 fl, .int .i64 0, .slice none 0 0, .slice E5 ps.length d5], .bool true]) (by simp [results, Try.results17, go_sem, c0, c1, c2, c3, c4]) rfl ?_
          refine ⟨_, _, ret_wb (x := ⟨k, fl, 0, [], ps⟩) (b := true) ⟨HP.out.1.symm, HP.out.2.symm⟩, ?_, BF.out⟩
          rw [HP.out.1]
          exact ⟨OF.out, PF.out, .inl rfl⟩
        · have HP := Lib.hid (HEND.out.2 e)
          have q9 := ba_no e
          clear e HEND
          go_wp2
          refine bodyPost_ret (v := .tuple #[.agg #[.int .i64 0, .int .i64 0, .int .i64 0, .slice none 0 0, .slice none 0 0], .bool false]) (by simp [results, Try.results17, go_sem, c0, c1, c2, c3, c4]) rfl ?_
          refine ⟨_, _, ret_wb (x := zeroW) (u := .slice none 0 0) (v := .slice none 0 0) (b := false) ⟨HP.out.1.symm, HP.out.2.symm⟩, ?_, BN.out⟩
          rw [HP.out.1]; exact ownW_nil _ _
      have s4 : (k == 4) = false := by simp [n4]
      have HC : Hid (candI a b (some c9) = ⟨k, fl, 0, [], []⟩) := by
        show _ = _
        unfold candI
        rw [HKI.out, HFL.out]
        rw [if_neg n2, if_neg n3, if_neg n4]
      have HEND : Hid ((wishS ⟨k, fl, 0, [], []⟩ = s → parW s = ⟨k, fl, 0, [], []⟩ ∧ parWB s = true) ∧ (wishS ⟨k, fl, 0, [], []⟩ ≠ s → parW s = zeroW ∧ parWB s = false)) := by
        have h9 := HE.out _ HCAND.out
        rw [HC.out] at h9
        exact h9
      have FF : Hid (FitW ⟨k, fl, 0, [], []⟩) := ⟨FK, FL, by unfold Fit; simp, by simp, by simp⟩
      have XX := X6
      have RX := R6
      have BB := B6
      have hlo : w.heap.size < w2.heap.size + 1 := by omega
      have OL : ((w5.setCell ⟨w2.heap.size, 0, none⟩ (.int .i64 k))).ownsRow (w2.heap.size + 1) 3 1 (.slice none 0 0) 0 (([] : List Int).map (Value.int .i64)) := World.ownsRow_nil _ _ _ _
      have S1 : Sl RI 1 ((w5.setCell ⟨w2.heap.size, 0, none⟩ (.int .i64 k))) ((w5.setCell ⟨w2.heap.size, 0, none⟩ (.int .i64 k))).heap.size none 0 0 [] := Sl.nil _ _
      have OP : ((w5.setCell ⟨w2.heap.size, 0, none⟩ (.int .i64 k))).ownsRow (w2.heap.size + 1) 74 2 (.slice none 0 0) 0 (prc []) := World.ownsRow_nil _ _ _ _
      have S2 : Sl RP 2 ((w5.setCell ⟨w2.heap.size, 0, none⟩ (.int .i64 k))) ((w5.setCell ⟨w2.heap.size, 0, none⟩ (.int .i64 k))).heap.size none 0 0 [] := Sl.nil _ _
      clear X6 R6 B6 n2 n3 n4
      have y0 : (w5.setCell ⟨w2.heap.size, 0, none⟩ (.int .i64 k)).cell? ⟨w2.heap.size, 0, none⟩ = some (.int .i64 k) := XX.cell 0
      have y1 : (w5.setCell ⟨w2.heap.size, 0, none⟩ (.int .i64 k)).cell? ⟨w2.heap.size, 1, none⟩ = some (.int .i64 fl) := XX.cell 1
      have y2 : (w5.setCell ⟨w2.heap.size, 0, none⟩ (.int .i64 k)).cell? ⟨w2.heap.size, 2, none⟩ = some (.int .i64 0) := XX.cell 2
      have y3 : (w5.setCell ⟨w2.heap.size, 0, none⟩ (.int .i64 k)).cell? ⟨w2.heap.size, 3, none⟩ = some (.slice none 0 0) := XX.cell 3
      have y4 : (w5.setCell ⟨w2.heap.size, 0, none⟩ (.int .i64 k)).cell? ⟨w2.heap.size, 4, none⟩ = some (.slice none 0 0) := XX.cell 4
      have hltx := XX.lt
      have hltr := RX.lt
      have XH := Lib.hid XX
      have RH := Lib.hid RX
      have OLH := Lib.hid OL
      have OPH := Lib.hid OP
      have BH := Lib.hid BB
      clear XX RX OL OP BB
      go_wp2_with fail
      refine (implFormatWish (x := ⟨k, fl, 0, [], []⟩) _ S1 S2 FF.out.1 FF.out.2.1 FF.out.2.2.1).mono ?_
      rintro e w6 ⟨rfl, b6⟩
      clear y0 y1 y2 y3 y4 S1 S2
      have R6 := RH.out.below b6 hltr
      have X6 := XH.out.below b6 hltx
      have O6 := own_below OLH.out b6
      have P6 := own_below OPH.out b6
      have B6 := BH.out.trans (b6.mono BH.out.size)
      have f0 := R6.free 0
      have f1 := R6.free 1
      have f2 := R6.free 2
      have f3 := R6.free 3
      have f4 := R6.free 4
      have hlt := R6.lt
      have hlty := X6.lt
      have c0 : w6.cell? ⟨w.heap.size, 0, none⟩ = some (.int .i64 0) := R6.cell 0
      have c1 : w6.cell? ⟨w.heap.size, 1, none⟩ = some (.int .i64 0) := R6.cell 1
      have c2 : w6.cell? ⟨w.heap.size, 2, none⟩ = some (.int .i64 0) := R6.cell 2
      have c3 : w6.cell? ⟨w.heap.size, 3, none⟩ = some (.slice none 0 0) := R6.cell 3
      have c4 : w6.cell? ⟨w.heap.size, 4, none⟩ = some (.slice none 0 0) := R6.cell 4
      have y0 : w6.cell? ⟨w2.heap.size, 0, none⟩ = some (.int .i64 k) := X6.cell 0
      have y1 : w6.cell? ⟨w2.heap.size, 1, none⟩ = some (.int .i64 fl) := X6.cell 1
      have y2 : w6.cell? ⟨w2.heap.size, 2, none⟩ = some (.int .i64 0) := X6.cell 2
      have y3 : w6.cell? ⟨w2.heap.size, 3, none⟩ = some (.slice none 0 0) := X6.cell 3
      have y4 : w6.cell? ⟨w2.heap.size, 4, none⟩ = some (.slice none 0 0) := X6.cell 4
      have BF := Lib.hid (((((B6.setCell (p := ⟨w.heap.size, 0, none⟩) (Nat.le_refl _) (.int .i64 k)).setCell (p := ⟨w.heap.size, 1, none⟩) (Nat.le_refl _) (.int .i64 fl)).setCell (p := ⟨w.heap.size, 2, none⟩) (Nat.le_refl _) (.int .i64 0)).setCell (p := ⟨w.heap.size, 3, none⟩) (Nat.le_refl _) (.slice none 0 0)).setCell (p := ⟨w.heap.size, 4, none⟩) (Nat.le_refl _) (.slice none 0 0))
      have BN := Lib.hid (((((B6.setCell (p := ⟨w.heap.size, 0, none⟩) (Nat.le_refl _) (.int .i64 0)).setCell (p := ⟨w.heap.size, 1, none⟩) (Nat.le_refl _) (.int .i64 0)).setCell (p := ⟨w.heap.size, 2, none⟩) (Nat.le_refl _) (.int .i64 0)).setCell (p := ⟨w.heap.size, 3, none⟩) (Nat.le_refl _) (.slice none 0 0)).setCell (p := ⟨w.heap.size, 4, none⟩) (Nat.le_refl _) (.slice none 0 0))
      have OF := Lib.hid (own_mono (b' := w.heap.size) (ownsRow_setCell_below (ownsRow_setCell_below (ownsRow_setCell_below (ownsRow_setCell_below (ownsRow_setCell_below O6 (a := ⟨w.heap.size, 0, none⟩) hlo (.int .i64 k)) (a := ⟨w.heap.size, 1, none⟩) hlo (.int .i64 fl)) (a := ⟨w.heap.size, 2, none⟩) hlo (.int .i64 0)) (a := ⟨w.heap.size, 3, none⟩) hlo (.slice none 0 0)) (a := ⟨w.heap.size, 4, none⟩) hlo (.slice none 0 0)) (Nat.le_of_lt hlo))
      have PF := Lib.hid (own_mono (b' := w.heap.size) (ownsRow_setCell_below (ownsRow_setCell_below (ownsRow_setCell_below (ownsRow_setCell_below (ownsRow_setCell_below P6 (a := ⟨w.heap.size, 0, none⟩) hlo (.int .i64 k)) (a := ⟨w.heap.size, 1, none⟩) hlo (.int .i64 fl)) (a := ⟨w.heap.size, 2, none⟩) hlo (.int .i64 0)) (a := ⟨w.heap.size, 3, none⟩) hlo (.slice none 0 0)) (a := ⟨w.heap.size, 4, none⟩) hlo (.slice none 0 0)) (Nat.le_of_lt hlo))
      clear R6 X6 O6 P6 B6 b6
      by_cases e : wishS ⟨k, fl, 0, [], []⟩ = s
      · have HP := Lib.hid (HEND.out.1 e)
        have q9 := ba_yes e
        clear e HEND
        go_wp2
        refine bodyPost_ret (v := .tuple #[.agg #[.int .i64 k, .int .i64 fl, .int .i64 0, .slice none 0 0, .slice none 0 0], .bool true]) (by simp [results, Try.results17, go_sem, c0, c1, c2, c3, c4]) rfl ?_
        refine ⟨_, _, ret_wb (x := ⟨k, fl, 0, [], []⟩) (b := true) ⟨HP.out.1.symm, HP.out.2.symm⟩, ?_, BF.out⟩
        rw [HP.out.1]
        exact ⟨OF.out, PF.out, far_nilR _⟩
      · have HP := Lib.hid (HEND.out.2 e)
        have q9 := ba_no e
        clear e HEND
        go_wp2
        refine bodyPost_ret (v := .tuple #[.agg #[.int .i64 0, .int .i64 0, .int .i64 0, .slice none 0 0, .slice none 0 0], .bool false]) (by simp [results, Try.results17, go_sem, c0, c1, c2, c3, c4]) rfl ?_
        refine ⟨_, _, ret_wb (x := zeroW) (u := .slice none 0 0) (v := .slice none 0 0) (b := false) ⟨HP.out.1.symm, HP.out.2.symm⟩, ?_, BN.out⟩
        rw [HP.out.1]; exact ownW_nil _ _
end Go.Proofs.Ytphbochfpidgeaa.Wk

namespace Go.Proofs.Ytphbochfpidgeaa.Wk
open Go.RowKit Go.Proofs.Ytphbochfpidgeaa.M
set_option linter.unusedVariables false
attribute [local go_sem] cell_grow

/-- What Subtree answers. -/
noncomputable def subR (l : List Nd) (a : Int) : List Nd := if P.okE l && P.inR a 0 ((l.length : Int) - 1) then (l.drop (P.startE l a.toNat)).take (a.toNat + 1 - P.startE l a.toNat) else []
theorem subR_mem {l : List Nd} {a : Int} {x : Nd} (h : x ∈ subR l a) : x ∈ l := by
  unfold subR at h
  split at h
  · exact List.mem_of_mem_drop (List.mem_of_mem_take h)
  · simp at h
theorem okE_fit {l : List Nd} (h : P.okE l = true) : ∀ x ∈ l, x.wish.list.length ≤ 1048576 ∧ x.wish.pairs.length ≤ 1048576 := by
  intro x hx
  obtain ⟨i, hi⟩ := List.getElem?_of_mem hx
  have hok := (P.okE_at h hi).1
  unfold P.okN at hok
  rw [Bool.and_eq_true] at hok
  obtain ⟨_, h2⟩ := hok
  split at h2
  · have h3 := P.okW_listlen h2
    have h4 := P.okW_pairslen h2
    omega
  · unfold P.noW at h2
    simp only [decide_eq_true_eq] at h2
    obtain ⟨_, _, _, h3, h4⟩ := h2
    rw [h3, h4]; simp
theorem ownNd_nil (w w' : World) (hb : Below (w.alloc (.cells #[] 83)).heap.size (w.alloc (.cells #[] 83)) w') : OwnNd w' w.heap.size w'.heap.size (.slice (some ⟨w.heap.size, 0, none⟩) 0 0) [] := by
  have h := own_below (own_emptyS w 83 6) hb
  exact ⟨[], rfl, fun p hp => absurd hp (by simp), by simp [ndv], h, own_und h, fun u hu => absurd hu (by simp [ndv])⟩
theorem ownNd_mono {w : World} {lo lo' hi : Nat} {v : Value} {l : List Nd} (h : OwnNd w lo hi v l) (hl : lo' ≤ lo) : OwnNd w lo' hi v l := by
  obtain ⟨ps, h1, h2, h3, h4, h5, h6⟩ := h
  exact ⟨ps, h1, fun p hp => ⟨(h2 p hp).1.mono hl, (h2 p hp).2⟩, h3, own_mono h4 hl, h5, h6⟩
end Go.Proofs.Ytphbochfpidgeaa.Wk

namespace Go.Proofs.Ytphbochfpidgeaa.Wk
open Go.RowKit Go.Proofs.Ytphbochfpidgeaa.M
set_option linter.unusedVariables false
attribute [local go_sem] cell_grow

/-- Whether JoinExpressions answers, and what. -/
noncomputable def joinB (l r : List Nd) (op : Int) : Bool := P.okE l && P.okE r && decide (op = 1 ∨ op = 2 ∨ op = 4) && decide (l.length + r.length < 9)
noncomputable def joinR (l r : List Nd) (op : Int) : List Nd := if joinB l r op then l ++ r ++ [⟨op, noWi⟩] else []
section
variable {a b n m : Nat} {l r : List Nd}
theorem le63j (h1 : Hid (a = l.length)) (h2 : Hid (b = r.length)) (h3 : Hid (l.length = n)) (h4 : Hid (r.length = m)) (h : n + m < 9) : a + b ≤ maxLen := by
  have := h1.out; have := h2.out; have := h3.out; have := h4.out
  unfold maxLen; omega
theorem le63k (h1 : Hid (a = l.length)) (h2 : Hid (b = r.length)) (h3 : Hid (l.length = n)) (h4 : Hid (r.length = m)) (h : n + m < 9) : a + b + 1 ≤ maxLen := by
  have := h1.out; have := h2.out; have := h3.out; have := h4.out
  unfold maxLen; omega
theorem leByj (h1 : Hid (a = l.length)) (h2 : Hid (b = r.length)) (h3 : Hid (l.length = n)) (h4 : Hid (r.length = m)) (h : n + m < 9) : (a + b) * 80 ≤ 140737488355328 := by
  have := h1.out; have := h2.out; have := h3.out; have := h4.out
  omega
theorem leByk (h1 : Hid (a = l.length)) (h2 : Hid (b = r.length)) (h3 : Hid (l.length = n)) (h4 : Hid (r.length = m)) (h : n + m < 9) : (a + b + 1) * 80 ≤ 140737488355328 := by
  have := h1.out; have := h2.out; have := h3.out; have := h4.out
  omega
end
/-- A list of nodes of the call's own, and a truth value. -/
def RetNd2 (w : World) (l : List Nd) (b : Bool) (e : Ending) (w' : World) : Prop := ∃ v, e = .returned (.tuple #[v, .bool b]) ∧ OwnNd w' w.heap.size w'.heap.size v l ∧ Below w.heap.size w w'
theorem ownNd_part {w : World} {lo hi : Nat} {v : Value} {l : List Nd} (h : OwnNd w lo hi v l) : ∃ ps : List NdC, ps.map (·.1) = l ∧ ps.length = l.length ∧ PartN w lo 83 3 74 v ps := by
  obtain ⟨ps, h1, h2, h3, h4, h5, h6⟩ := h
  have hl : ps.length = l.length := by rw [← h1, List.length_map]
  refine ⟨ps, h1, hl, ⟨⟨fun p hp => (h2 p hp).1, h3⟩, ?_, h6⟩⟩
  rw [hl]; exact h4
theorem part_ownNd {w : World} {lo : Nat} {v : Value} {ps : List NdC} (h : PartN w lo 83 3 74 v ps) : OwnNd w lo w.heap.size v (ps.map (·.1)) :=
  ⟨ps, rfl, fun p hp => ⟨h.rows.each p hp, own_und (h.rows.each p hp).1, own_und (h.rows.each p hp).2.1⟩, h.rows.apart, by rw [List.length_map]; exact h.out, own_und h.out, h.far⟩
theorem l5CopyE {A : Option Addr} {n c : Nat} {l : List Nd} (w : World) (h : Sl RN 6 w w.heap.size A n c l) (hn : n ≤ 1048576) (hfit : ∀ x ∈ l, x.wish.list.length ≤ 1048576 ∧ x.wish.pairs.length ≤ 1048576) : Calls Try.prog 66 #[.slice A n c] w fun e w' => ∃ A2 c2 ps, e = .returned (.slice A2 ps.length c2) ∧ Hid (ps.map (·.1) = l) ∧ Hid (ps.length = l.length) ∧ Hid (PartN w' w.heap.size 83 3 74 (.slice A2 ps.length c2) ps) ∧ Below w.heap.size w w' :=
  (l5Copy w h hn hfit).mono fun e w' ⟨v, he, ho, hb⟩ => by
    obtain ⟨ps, h1, h2, h3⟩ := ownNd_part ho
    obtain ⟨A2, c2, rfl, _, _⟩ := own_form h3.out
    exact ⟨A2, c2, ps, he, h1, h2, h3, hb⟩
set_option maxHeartbeats 1600000 in
set_option maxRecDepth 100000 in
theorem specJoinExpressions {A E : Option Addr} {n c m d : Nat} {l r : List Nd} {op : Int} (w : World) (h : Sl RN 6 w w.heap.size A n c l) (g : Sl RN 6 w w.heap.size E m d r) (ho : Fit op) : Calls Try.prog 29 #[.slice A n c, .slice E m d, .int .i64 op] w (RetNd2 w (joinR l r op) (joinB l r op)) := by
  obtain ⟨i0, hi, hz0, hz1, hz2⟩ := info_parts info_node
  have HL := Lib.hid h.len
  have HM := Lib.hid g.len
  have hle := h.le
  have hmx := h.max
  have hmx2 := Nat.le_trans g.le g.max
  unfold maxLen at hmx hmx2
  cases okl : P.okE l with
  | false =>
    have HB : Hid (joinB l r op = false) := by show _ = _; unfold joinB; rw [okl]; rfl
    have HE : Hid (joinR l r op = []) := by show _ = _; unfold joinR; rw [HB.out]; rfl
    go_enter Try.func29, Try.ntmps29
    go_wp2_with fail
    refine (specIsExpression _ h).mono ?_
    rintro e w2 ⟨rfl, b2⟩
    rw [okl]
    go_wp2_with fail
    go_ret2
    refine ⟨.slice (some ⟨w2.heap.size, 0, none⟩) 0 0, by rw [HB.out]; rfl, ?_, b2.trans ((Below.refl w2.heap.size w2).alloc (Nat.le_refl _) _ |>.mono b2.size)⟩
    rw [HE.out]
    exact ownNd_mono (ownNd_nil w2 _ (Below.refl _ _)) b2.size
  | true =>
    have hn9 : n ≤ 9 := by have := (P.okE_len okl).1; have := HL.out; omega
    cases okr : P.okE r with
    | false =>
      have HB : Hid (joinB l r op = false) := by show _ = _; unfold joinB; rw [okl, okr]; rfl
      have HE : Hid (joinR l r op = []) := by show _ = _; unfold joinR; rw [HB.out]; rfl
      go_enter Try.func29, Try.ntmps29
      go_wp2_with fail
      refine (specIsExpression _ h).mono ?_
      rintro e w2 ⟨rfl, b2⟩
      rw [okl]
      go_wp2_with fail
      refine (specIsExpression _ (g.on RN.keeps b2)).mono ?_
      rintro e w3 ⟨rfl, b3⟩
      rw [okr]
      have b23 := b2.trans (b3.mono b2.size)
      go_wp2_with fail
      go_ret2
      refine ⟨.slice (some ⟨w3.heap.size, 0, none⟩) 0 0, by rw [HB.out]; rfl, ?_, b23.trans ((Below.refl w3.heap.size w3).alloc (Nat.le_refl _) _ |>.mono b23.size)⟩
      rw [HE.out]
      exact ownNd_mono (ownNd_nil w3 _ (Below.refl _ _)) b23.size
    | true =>
      have hm9 : m ≤ 9 := by have := (P.okE_len okr).1; have := HM.out; omega
      have HK := Lib.hid okl
      have HJ := Lib.hid okr
      by_cases hop : op = 1 ∨ op = 2 ∨ op = 4
      · have HOP := Lib.hid hop
        by_cases hlen : n + m < 9
        · have HB : Hid (joinB l r op = true) := by
            show _ = _
            unfold joinB
            rw [okl, okr, HL.out, HM.out]
            simp [hop, hlen]
          have HE : Hid (joinR l r op = l ++ r ++ [⟨op, noWi⟩]) := by show _ = _; unfold joinR; rw [HB.out]; rfl
          have l1 : ((n : Int) + (m : Int)) < 9 := by omega
          have hq1 : (op != 1 && op != 2 && op != 4) = false := by rcases hop with e | e | e <;> subst e <;> rfl
          go_enter Try.func29, Try.ntmps29
          go_wp2_with fail
          refine (specIsExpression _ h).mono ?_
          rintro e w2 ⟨rfl, b2⟩
          rw [okl]
          go_wp2_with fail
          refine (specIsExpression _ (g.on RN.keeps b2)).mono ?_
          rintro e w3 ⟨rfl, b3⟩
          rw [okr]
          have b23 := b2.trans (b3.mono b2.size)
          have h3 := h.on RN.keeps b23
          have g3 := g.on RN.keeps b23
          have hn20 : n ≤ 1048576 := by omega
          have hm20 : m ≤ 1048576 := by omega
          have hfl := okE_fit HK.out
          have hfr := okE_fit HJ.out
          rcases hop with hop | hop | hop <;> subst hop
          all_goals
            go_wp2_with (first | (go_at_call 66; with_reducible (refine (l5CopyE _ h3 hn20 hfl).mono ?_); rintro e w4 ⟨A1, c1, ps, rfl, M1, L1, Q1, b4⟩) | (go_at_call 66; with_reducible (refine (l5CopyE _ (g3.on RN.keeps b4) hm20 hfr).mono ?_); rintro e w5 ⟨A2, c2, qs, rfl, M2, L2, Q2, b5⟩) | (at_builtin; refine append_at rfl _ _ 44 rfl w3.heap.size 83 i0 _ 6 80 Try.underlying44 hi hz0 hz1 hz2 rfl (Nat.zero_lt_succ 5) _ _ _ rfl (own_below Q1.out.out b5) A2 qs.length c2 (ndc qs) rfl (ndc_len qs) (own_cells Q2.out.out).1 (own_cells Q2.out.out).2 (ndc_one Q2.out.rows) (le63j L1 L2 HL HM hlen) (leByj L1 L2 HL HM hlen) (Nat.le_trans b4.size b5.size) ?_) | fail)
            intro v3 w6 ho3 hg3 ha3
            have Q3 := Lib.hid (Q1.out.join b5 Q2.out.rows (Nat.le_refl _) b4.size hg3 ho3 ha3)
            obtain ⟨rs, hrs⟩ : ∃ rs, Hid (rs = ps ++ qs) := ⟨_, rfl⟩
            have hl3 : rs.length = ps.length + qs.length := by rw [hrs.out]; exact List.length_append
            rw [← hrs.out] at Q3
            have B6 : Below w3.heap.size w3 w6 := ((b4.trans (b5.mono b4.size)).grown hg3 (Nat.le_trans b4.size b5.size) (fun k hk => (Q1.out.out.lt k hk).1))
            have hb36 : ∀ o : Obj, w3.heap.size ≤ (w6.alloc o).heap.size := fun o => by rw [World.size_alloc]; have := B6.size; omega
            obtain ⟨A3, c3, rfl, _, _⟩ := own_form Q3.out.out
            have h63b : rs.length + 1 ≤ maxLen := by rw [hl3]; exact le63k L1 L2 HL HM hlen
            have hbyb : (rs.length + 1) * 80 ≤ 140737488355328 := by rw [hl3]; exact leByk L1 L2 HL HM hlen
            clear hl3 ho3
            go_wp2_with (at_builtin; refine append_at rfl _ _ 44 rfl w3.heap.size 83 i0 _ 6 80 Try.underlying44 hi hz0 hz1 hz2 rfl (Nat.zero_lt_succ 5) _ _ _ rfl (Q3.out.out.alloc _) (some ⟨w6.heap.size, 0, none⟩) 1 1 (ndc [((⟨_, noWi⟩ : Nd), Value.slice none 0 0, Value.slice none 0 0)]) rfl rfl (fun _ => by simp) (fun ad hA => by injection hA with hA; subst hA; exact six_new _ _ _ _ _ _ _ _) (ndc_one (ownNs_none w6 w6.heap.size 3 74 _)) h63b hbyb (hb36 _) ?_)
            intro v4 w7 ho4 hg4 ha4
            have Q4 := Q3.out.join ((Below.refl w6.heap.size w6).alloc (Nat.le_refl _) _) (ownNs_none _ w6.heap.size 3 74 _) (Nat.le_refl _) B6.size hg4 ho4 (by rw [World.size_alloc]; exact ha4)
            have B7 := (B6.alloc B6.size _).grown hg4 (hb36 _) (fun k hk => (Q3.out.out.lt k hk).1)
            go_wp2
            go_ret2
            refine ⟨v4, by rw [HB.out]; rfl, ?_, b23.trans (B7.mono b23.size)⟩
            rw [HE.out]
            have := ownNd_mono (part_ownNd Q4) b23.size
            rw [List.map_append, hrs.out, List.map_append, M1.out, M2.out] at this
            exact this
        · have HB : Hid (joinB l r op = false) := by
            show _ = _
            unfold joinB
            rw [okl, okr, HL.out, HM.out]
            simp [hlen]
          have HE : Hid (joinR l r op = []) := by show _ = _; unfold joinR; rw [HB.out]; rfl
          have l1 : 9 ≤ ((n : Int) + (m : Int)) := by omega
          have l2 : ¬ ((n : Int) + (m : Int)) < 9 := by omega
          go_enter Try.func29, Try.ntmps29
          go_wp2_with fail
          refine (specIsExpression _ h).mono ?_
          rintro e w2 ⟨rfl, b2⟩
          rw [okl]
          go_wp2_with fail
          refine (specIsExpression _ (g.on RN.keeps b2)).mono ?_
          rintro e w3 ⟨rfl, b3⟩
          rw [okr]
          have b23 := b2.trans (b3.mono b2.size)
          rcases hop with hop | hop | hop <;> subst hop
          all_goals
            go_wp2_with fail
            go_ret2
            refine ⟨.slice (some ⟨w3.heap.size, 0, none⟩) 0 0, by rw [HB.out]; rfl, ?_, b23.trans ((Below.refl w3.heap.size w3).alloc (Nat.le_refl _) _ |>.mono b23.size)⟩
            rw [HE.out]
            exact ownNd_mono (ownNd_nil w3 _ (Below.refl _ _)) b23.size
      · have HB : Hid (joinB l r op = false) := by
          show _ = _
          unfold joinB
          rw [okl, okr]
          simp [hop]
        have HE : Hid (joinR l r op = []) := by show _ = _; unfold joinR; rw [HB.out]; rfl
        have p1 : ¬ op = 1 := fun e => hop (.inl e)
        have p2 : ¬ op = 2 := fun e => hop (.inr (.inl e))
        have p4 : ¬ op = 4 := fun e => hop (.inr (.inr e))
        clear hop
        go_enter Try.func29, Try.ntmps29
        go_wp2_with fail
        refine (specIsExpression _ h).mono ?_
        rintro e w2 ⟨rfl, b2⟩
        rw [okl]
        go_wp2_with fail
        refine (specIsExpression _ (g.on RN.keeps b2)).mono ?_
        rintro e w3 ⟨rfl, b3⟩
        rw [okr]
        have b23 := b2.trans (b3.mono b2.size)
        go_wp2_with fail
        go_ret2
        refine ⟨.slice (some ⟨w3.heap.size, 0, none⟩) 0 0, by rw [HB.out]; rfl, ?_, b23.trans ((Below.refl w3.heap.size w3).alloc (Nat.le_refl _) _ |>.mono b23.size)⟩
        rw [HE.out]
        exact ownNd_mono (ownNd_nil w3 _ (Below.refl _ _)) b23.size
theorem copyNodesE {A : Option Addr} {n c : Nat} {l : List Nd} (w : World) (h : Sl RN 6 w w.heap.size A n c l) (hn : n ≤ 1048576) (hfit : ∀ x ∈ l, x.wish.list.length ≤ 1048576 ∧ x.wish.pairs.length ≤ 1048576) : Calls Try.prog 68 #[.slice A n c] w fun e w' => ∃ A2 c2 ps, e = .returned (.slice A2 ps.length c2) ∧ Hid (ps.map (·.1) = l) ∧ Hid (ps.length = l.length) ∧ Hid (PartN w' w.heap.size 83 3 74 (.slice A2 ps.length c2) ps) ∧ Below w.heap.size w w' :=
  (copyNodes w h hn hfit).mono fun e w' ⟨v, he, ho, hb⟩ => by
    obtain ⟨ps, h1, h2, h3⟩ := ownNd_part ho
    obtain ⟨A2, c2, rfl, _, _⟩ := own_form h3.out
    exact ⟨A2, c2, ps, he, h1, h2, h3, hb⟩
set_option maxHeartbeats 1600000 in
set_option maxRecDepth 100000 in
theorem implJoinExpressions {A E : Option Addr} {n c m d : Nat} {l r : List Nd} {op : Int} (w : World) (h : Sl RN 6 w w.heap.size A n c l) (g : Sl RN 6 w w.heap.size E m d r) (ho : Fit op) : Calls Try.prog 28 #[.slice A n c, .slice E m d, .int .i64 op] w (RetNd2 w (joinR l r op) (joinB l r op)) := by
  obtain ⟨i0, hi, hz0, hz1, hz2⟩ := info_parts info_node
  have HL := Lib.hid h.len
  have HM := Lib.hid g.len
  have hle := h.le
  have hmx := h.max
  have hmx2 := Nat.le_trans g.le g.max
  unfold maxLen at hmx hmx2
  cases okl : P.okE l with
  | false =>
    have HB : Hid (joinB l r op = false) := by show _ = _; unfold joinB; rw [okl]; rfl
    have HE : Hid (joinR l r op = []) := by show _ = _; unfold joinR; rw [HB.out]; rfl
    go_enter Try.func28, Try.ntmps28
    go_wp2_with fail
    refine (implIsExpression _ h).mono ?_
    rintro e w2 ⟨rfl, b2⟩
    rw [okl]
    go_wp2_with fail
    go_ret2
    refine ⟨.slice (some ⟨w2.heap.size, 0, none⟩) 0 0, by rw [HB.out]; rfl, ?_, b2.trans ((Below.refl w2.heap.size w2).alloc (Nat.le_refl _) _ |>.mono b2.size)⟩
    rw [HE.out]
    exact ownNd_mono (ownNd_nil w2 _ (Below.refl _ _)) b2.size
  | true =>
    have hn9 : n ≤ 9 := by have := (P.okE_len okl).1; have := HL.out; omega
    cases okr : P.okE r with
    | false =>
      have HB : Hid (joinB l r op = false) := by show _ = _; unfold joinB; rw [okl, okr]; rfl
      have HE : Hid (joinR l r op = []) := by show _ = _; unfold joinR; rw [HB.out]; rfl
      go_enter Try.func28, Try.ntmps28
      go_wp2_with fail
      refine (implIsExpression _ h).mono ?_
      rintro e w2 ⟨rfl, b2⟩
      rw [okl]
      go_wp2_with fail
      refine (implIsExpression _ (g.on RN.keeps b2)).mono ?_
      rintro e w3 ⟨rfl, b3⟩
      rw [okr]
      have b23 := b2.trans (b3.mono b2.size)
      go_wp2_with fail
      go_ret2
      refine ⟨.slice (some ⟨w3.heap.size, 0, none⟩) 0 0, by rw [HB.out]; rfl, ?_, b23.trans ((Below.refl w3.heap.size w3).alloc (Nat.le_refl _) _ |>.mono b23.size)⟩
      rw [HE.out]
      exact ownNd_mono (ownNd_nil w3 _ (Below.refl _ _)) b23.size
    | true =>
      have hm9 : m ≤ 9 := by have := (P.okE_len okr).1; have := HM.out; omega
      have HK := Lib.hid okl
      have HJ := Lib.hid okr
      by_cases hop : op = 1 ∨ op = 2 ∨ op = 4
      · have HOP := Lib.hid hop
        by_cases hlen : n + m < 9
        · have HB : Hid (joinB l r op = true) := by
            show _ = _
            unfold joinB
            rw [okl, okr, HL.out, HM.out]
            simp [hop, hlen]
          have HE : Hid (joinR l r op = l ++ r ++ [⟨op, noWi⟩]) := by show _ = _; unfold joinR; rw [HB.out]; rfl
          have l1 : ((n : Int) + (m : Int)) < 9 := by omega
          have hq1 : (op != 1 && op != 2 && op != 4) = false := by rcases hop with e | e | e <;> subst e <;> rfl
          go_enter Try.func28, Try.ntmps28
          go_wp2_with fail
          refine (implIsExpression _ h).mono ?_
          rintro e w2 ⟨rfl, b2⟩
          rw [okl]
          go_wp2_with fail
          refine (implIsExpression _ (g.on RN.keeps b2)).mono ?_
          rintro e w3 ⟨rfl, b3⟩
          rw [okr]
          have b23 := b2.trans (b3.mono b2.size)
          have h3 := h.on RN.keeps b23
          have g3 := g.on RN.keeps b23
          have hn20 : n ≤ 1048576 := by omega
          have hm20 : m ≤ 1048576 := by omega
          have hfl := okE_fit HK.out
          have hfr := okE_fit HJ.out
          rcases hop with hop | hop | hop <;> subst hop
          all_goals
            go_wp2_with (first | (go_at_call 68; with_reducible (refine (copyNodesE _ h3 hn20 hfl).mono ?_); rintro e w4 ⟨A1, c1, ps, rfl, M1, L1, Q1, b4⟩) | (go_at_call 68; with_reducible (refine (copyNodesE _ (g3.on RN.keeps b4) hm20 hfr).mono ?_); rintro e w5 ⟨A2, c2, qs, rfl, M2, L2, Q2, b5⟩) | (at_builtin; refine append_at rfl _ _ 44 rfl w3.heap.size 83 i0 _ 6 80 Try.underlying44 hi hz0 hz1 hz2 rfl (Nat.zero_lt_succ 5) _ _ _ rfl (own_below Q1.out.out b5) A2 qs.length c2 (ndc qs) rfl (ndc_len qs) (own_cells Q2.out.out).1 (own_cells Q2.out.out).2 (ndc_one Q2.out.rows) (le63j L1 L2 HL HM hlen) (leByj L1 L2 HL HM hlen) (Nat.le_trans b4.size b5.size) ?_) | fail)
            intro v3 w6 ho3 hg3 ha3
            have Q3 := Lib.hid (Q1.out.join b5 Q2.out.rows (Nat.le_refl _) b4.size hg3 ho3 ha3)
            obtain ⟨rs, hrs⟩ : ∃ rs, Hid (rs = ps ++ qs) := ⟨_, rfl⟩
            have hl3 : rs.length = ps.length + qs.length := by rw [hrs.out]; exact List.length_append
            rw [← hrs.out] at Q3
            have B6 : Below w3.heap.size w3 w6 := ((b4.trans (b5.mono b4.size)).grown hg3 (Nat.le_trans b4.size b5.size) (fun k hk => (Q1.out.out.lt k hk).1))
            have hb36 : ∀ o : Obj, w3.heap.size ≤ (w6.alloc o).heap.size := fun o => by rw [World.size_alloc]; have := B6.size; omega
            obtain ⟨A3, c3, rfl, _, _⟩ := own_form Q3.out.out
            have h63b : rs.length + 1 ≤ maxLen := by rw [hl3]; exact le63k L1 L2 HL HM hlen
            have hbyb : (rs.length + 1) * 80 ≤ 140737488355328 := by rw [hl3]; exact leByk L1 L2 HL HM hlen
            clear hl3 ho3
            go_wp2_with (at_builtin; refine append_at rfl _ _ 44 rfl w3.heap.size 83 i0 _ 6 80 Try.underlying44 hi hz0 hz1 hz2 rfl (Nat.zero_lt_succ 5) _ _ _ rfl (Q3.out.out.alloc _) (some ⟨w6.heap.size, 0, none⟩) 1 1 (ndc [((⟨_, noWi⟩ : Nd), Value.slice none 0 0, Value.slice none 0 0)]) rfl rfl (fun _ => by simp) (fun ad hA => by injection hA with hA; subst hA; exact six_new _ _ _ _ _ _ _ _) (ndc_one (ownNs_none w6 w6.heap.size 3 74 _)) h63b hbyb (hb36 _) ?_)
            intro v4 w7 ho4 hg4 ha4
            have Q4 := Q3.out.join ((Below.refl w6.heap.size w6).alloc (Nat.le_refl _) _) (ownNs_none _ w6.heap.size 3 74 _) (Nat.le_refl _) B6.size hg4 ho4 (by rw [World.size_alloc]; exact ha4)
            have B7 := (B6.alloc B6.size _).grown hg4 (hb36 _) (fun k hk => (Q3.out.out.lt k hk).1)
            go_wp2
            go_ret2
            refine ⟨v4, by rw [HB.out]; rfl, ?_, b23.trans (B7.mono b23.size)⟩
            rw [HE.out]
            have := ownNd_mono (part_ownNd Q4) b23.size
            rw [List.map_append, hrs.out, List.map_append, M1.out, M2.out] at this
            exact this
        · have HB : Hid (joinB l r op = false) := by
            show _ = _
            unfold joinB
            rw [okl, okr, HL.out, HM.out]
            simp [hlen]
          have HE : Hid (joinR l r op = []) := by show _ = _; unfold joinR; rw [HB.out]; rfl
          have l1 : 9 ≤ ((n : Int) + (m : Int)) := by omega
          have l2 : ¬ ((n : Int) + (m : Int)) < 9 := by omega
          go_enter Try.func28, Try.ntmps28
          go_wp2_with fail
          refine (implIsExpression _ h).mono ?_
          rintro e w2 ⟨rfl, b2⟩
          rw [okl]
          go_wp2_with fail
          refine (implIsExpression _ (g.on RN.keeps b2)).mono ?_
          rintro e w3 ⟨rfl, b3⟩
          rw [okr]
          have b23 := b2.trans (b3.mono b2.size)
          rcases hop with hop | hop | hop <;> subst hop
          all_goals
            go_wp2_with fail
            go_ret2
            refine ⟨.slice (some ⟨w3.heap.size, 0, none⟩) 0 0, by rw [HB.out]; rfl, ?_, b23.trans ((Below.refl w3.heap.size w3).alloc (Nat.le_refl _) _ |>.mono b23.size)⟩
            rw [HE.out]
            exact ownNd_mono (ownNd_nil w3 _ (Below.refl _ _)) b23.size
      · have HB : Hid (joinB l r op = false) := by
          show _ = _
          unfold joinB
          rw [okl, okr]
          simp [hop]
        have HE : Hid (joinR l r op = []) := by show _ = _; unfold joinR; rw [HB.out]; rfl
        have p1 : ¬ op = 1 := fun e => hop (.inl e)
        have p2 : ¬ op = 2 := fun e => hop (.inr (.inl e))
        have p4 : ¬ op = 4 := fun e => hop (.inr (.inr e))
        clear hop
        go_enter Try.func28, Try.ntmps28
        go_wp2_with fail
        refine (implIsExpression _ h).mono ?_
        rintro e w2 ⟨rfl, b2⟩
        rw [okl]
        go_wp2_with fail
        refine (implIsExpression _ (g.on RN.keeps b2)).mono ?_
        rintro e w3 ⟨rfl, b3⟩
        rw [okr]
        have b23 := b2.trans (b3.mono b2.size)
        go_wp2_with fail
        go_ret2
        refine ⟨.slice (some ⟨w3.heap.size, 0, none⟩) 0 0, by rw [HB.out]; rfl, ?_, b23.trans ((Below.refl w3.heap.size w3).alloc (Nat.le_refl _) _ |>.mono b23.size)⟩
        rw [HE.out]
        exact ownNd_mono (ownNd_nil w3 _ (Below.refl _ _)) b23.size
end Go.Proofs.Ytphbochfpidgeaa.Wk

namespace Go.Proofs.Ytphbochfpidgeaa.Wk
open Go.RowKit Go.Proofs.Ytphbochfpidgeaa.M
set_option linter.unusedVariables false
set_option linter.unusedSimpArgs false
attribute [local go_sem] cell_grow

theorem cnt1_le {x : Nd} (hn : P.okN x = true) : cnt1 x ≤ 30 := by
  unfold cnt1
  rcases okN_cases hn with ⟨_, hw⟩ | ⟨_, hw⟩
  · have := P.okW_listlen hw
    have := P.okW_pairslen hw
    omega
  · rw [hw]; simp [zeroW]
theorem cntN_30 : ∀ (l : List Nd), (∀ x ∈ l, P.okN x = true) → cntN l ≤ 30 * l.length
  | [], _ => by simp [cntN]
  | x :: t, h => by
    have h1 := cnt1_le (h x (by simp))
    have h2 := cntN_30 t (fun y hy => h y (by simp [hy]))
    simp only [cntN, List.length_cons]
    omega
theorem parE_cnt (s : ByteArray) : cntN (parE s) ≤ 270 := by
  rcases parE_ok s with h | h
  · rw [h]; simp [cntN]
  · have h1 := cntN_30 (parE s) (okE_all h)
    have h2 := (P.okE_len h).1
    omega
theorem opW_hit {s : ByteArray} {k : Nat} (h1 : 1 ≤ k) (h4 : k ≤ 4) (hj : ∀ j : Nat, 1 ≤ j → j < k → wordS (j : Int) ≠ s) (e : wordS (k : Int) = s) : opW s = k := by
  subst e
  exact opW_word (by omega)
theorem opW_miss {s : ByteArray} (hj : ∀ j : Nat, 1 ≤ j → j < 5 → wordS (j : Int) ≠ s) : opW s = 0 := by
  unfold opW
  rw [if_neg (fun e => hj 1 (by omega) (by omega) e.symm), if_neg (fun e => hj 2 (by omega) (by omega) e.symm), if_neg (fun e => hj 3 (by omega) (by omega) e.symm), if_neg (fun e => hj 4 (by omega) (by omega) e.symm)]
theorem ndPS_op {s : ByteArray} {k : Nat} (h1 : 1 ≤ k) (e : opW s = k) : ndPS s = ⟨k, zeroW⟩ := by
  unfold ndPS
  rw [e, if_neg (by omega)]
theorem ndPS_yes {s : ByteArray} (e : opW s = 0) (h : parWB s = true) : ndPS s = ⟨0, parW s⟩ := by
  unfold ndPS
  rw [if_pos e, if_pos h]
theorem ndPS_no {s : ByteArray} (e : opW s = 0) (h : parWB s = false) : ndPS s = ⟨-1, zeroW⟩ := by
  unfold ndPS
  rw [if_pos e, h]
  rfl
/-- The literal's words. -/
theorem idx4 {s : ByteArray} {k : Int} (h : (∃ j : Nat, k = j ∧ [wordS 1, wordS 2, wordS 3, wordS 4][j]? = some s ∧ ∀ i, i < j → [wordS 1, wordS 2, wordS 3, wordS 4][i]? ≠ some s) ∨ (k = -1 ∧ s ∉ [wordS 1, wordS 2, wordS 3, wordS 4])) : opW s = k + 1 := by
  rcases h with ⟨j, rfl, hj, _⟩ | ⟨rfl, hm⟩
  · match j, hj with
    | 0, hj => simp at hj; subst hj; exact opW_word (k := 1) (by omega)
    | 1, hj => simp at hj; subst hj; exact opW_word (k := 2) (by omega)
    | 2, hj => simp at hj; subst hj; exact opW_word (k := 3) (by omega)
    | 3, hj => simp at hj; subst hj; exact opW_word (k := 4) (by omega)
    | j + 4, hj => simp at hj
  · simp at hm
    unfold opW
    rw [if_neg hm.1, if_neg hm.2.1, if_neg hm.2.2.1, if_neg hm.2.2.2]
    rfl
/-! ### six cells of a box -/
section
variable {w : World} {lo E sz n p : Nat} {v : Value} {xs : List Value} {a b c d e f : Value}
theorem own_six (h : w.ownsRow lo E sz v n xs) (hp : p < lo) : ((((((w.setCell ⟨p, 0, none⟩ a).setCell ⟨p, 1, none⟩ b).setCell ⟨p, 2, none⟩ c).setCell ⟨p, 3, none⟩ d).setCell ⟨p, 4, none⟩ e).setCell ⟨p, 5, none⟩ f).ownsRow lo E sz v n xs :=
  ownsRow_setCell_below (ownsRow_setCell_below (ownsRow_setCell_below (ownsRow_setCell_below (ownsRow_setCell_below (ownsRow_setCell_below h (a := ⟨p, 0, none⟩) hp a) (a := ⟨p, 1, none⟩) hp b) (a := ⟨p, 2, none⟩) hp c) (a := ⟨p, 3, none⟩) hp d) (a := ⟨p, 4, none⟩) hp e) (a := ⟨p, 5, none⟩) hp f
theorem own_five (h : w.ownsRow lo E sz v n xs) (hp : p < lo) : (((((w.setCell ⟨p, 1, none⟩ b).setCell ⟨p, 2, none⟩ c).setCell ⟨p, 3, none⟩ d).setCell ⟨p, 4, none⟩ e).setCell ⟨p, 5, none⟩ f).ownsRow lo E sz v n xs :=
  ownsRow_setCell_below (ownsRow_setCell_below (ownsRow_setCell_below (ownsRow_setCell_below (ownsRow_setCell_below h (a := ⟨p, 1, none⟩) hp b) (a := ⟨p, 2, none⟩) hp c) (a := ⟨p, 3, none⟩) hp d) (a := ⟨p, 4, none⟩) hp e) (a := ⟨p, 5, none⟩) hp f
theorem below_six {w0 : World} {B : Nat} (h : Below B w0 w) (hp : B ≤ p) : Below B w0 ((((((w.setCell ⟨p, 0, none⟩ a).setCell ⟨p, 1, none⟩ b).setCell ⟨p, 2, none⟩ c).setCell ⟨p, 3, none⟩ d).setCell ⟨p, 4, none⟩ e).setCell ⟨p, 5, none⟩ f) :=
  (((((h.setCell (p := ⟨p, 0, none⟩) hp a).setCell (p := ⟨p, 1, none⟩) hp b).setCell (p := ⟨p, 2, none⟩) hp c).setCell (p := ⟨p, 3, none⟩) hp d).setCell (p := ⟨p, 4, none⟩) hp e).setCell (p := ⟨p, 5, none⟩) hp f
theorem below_five {w0 : World} {B : Nat} (h : Below B w0 w) (hp : B ≤ p) : Below B w0 (((((w.setCell ⟨p, 1, none⟩ b).setCell ⟨p, 2, none⟩ c).setCell ⟨p, 3, none⟩ d).setCell ⟨p, 4, none⟩ e).setCell ⟨p, 5, none⟩ f) :=
  ((((h.setCell (p := ⟨p, 1, none⟩) hp b).setCell (p := ⟨p, 2, none⟩) hp c).setCell (p := ⟨p, 3, none⟩) hp d).setCell (p := ⟨p, 4, none⟩) hp e).setCell (p := ⟨p, 5, none⟩) hp f
end
end Go.Proofs.Ytphbochfpidgeaa.Wk

namespace Go.Proofs.Ytphbochfpidgeaa.Wk
open Go.RowKit Go.Proofs.Ytphbochfpidgeaa.M
set_option linter.unusedVariables false
set_option linter.unusedSimpArgs false
attribute [local go_sem] cell_grow

theorem part_up {w : World} {lo hi : Nat} {v : Value} {l : List Nd} (h : OwnNd w lo hi v l) : OwnNd w lo w.heap.size v l := by
  obtain ⟨ps, h1, _, h3⟩ := ownNd_part h
  rw [← h1]
  exact part_ownNd h3
theorem hatN {gg m c ad : Nat} {v : Value} (h : (Value.slice (some ⟨gg, 0, none⟩) m c).ownBlock = v.ownBlock ∨ (Value.slice (some ⟨gg, 0, none⟩) m c).ownBlock = some (ad + 1)) : v.ownBlock = some gg ∨ gg = ad + 1 := by
  rcases h with h | h
  · exact .inl h.symm
  · refine .inr ?_
    simp [Value.ownBlock] at h
    exact h
end Go.Proofs.Ytphbochfpidgeaa.Wk

namespace Go.Proofs.Ytphbochfpidgeaa.Wk
open Go.RowKit Go.Proofs.Ytphbochfpidgeaa.M
set_option linter.unusedVariables false
set_option linter.unusedSimpArgs false
attribute [local go_sem] cell_grow

set_option maxHeartbeats 2000000 in
set_option maxRecDepth 100000 in
theorem implParseExpression (w : World) {s : ByteArray} (hs : s.size ≤ 1048576) : Calls Try.prog 20 #[.string s] w (RetNd2 w (parE s) (parEB s)) := by
  obtain ⟨i0, hi, hz0, hz1, hz2⟩ := info_parts info_node
  have HX := Lib.hid (P.cut_size s ⟨#[59, 32]⟩)
  have HCL := Lib.hid (P.cut_len s ⟨#[59, 32]⟩)
  have B1 := (Below.refl w.heap.size w).alloc (Nat.le_refl _) (.cells #[] 83)
  have O1 := PartN.nil w 83 3 74
  have HEND := Lib.hid (parE_endI s)
  go_enter Try.func20, Try.ntmps20
  go_wp2_with fail
  refine (cut _ hs (by decide) (by decide)).mono ?_
  rintro e w2 ⟨vp, rfl, hP, b2⟩
  have hsz2 := b2.size
  simp at hsz2
  have B2 := B1.trans (b2.mono B1.size)
  have O2 := O1.below b2
  have hP1 := Lib.hid hP.1
  have hP2 := Lib.hid hP.2
  simp only [World.size_alloc] at hP1
  obtain ⟨A, c, rfl, _, _⟩ := own_form hP.1
  obtain ⟨n, hn⟩ : ∃ n, (P.cut s ⟨#[59, 32]⟩).length = n := ⟨_, rfl⟩
  have HL := Lib.hid hn
  have hn1 : n ≤ 1048577 := by have := HL.out; have := HCL.out; omega
  have HRL : Hid ((rdEI s).length = n) := by show _ = _; rw [rdEI_len]; exact HL.out
  have HRF := Lib.hid (rdEI_fit s)
  obtain ⟨rs, hrs⟩ : ∃ rs, Hid (rdEI s = rs) := ⟨_, rfl⟩
  rw [hrs.out] at HEND HRL HRF
  clear hP b2 O1 B1
  rw [hn]
  rw [hn] at hP1 hP2
  have hst : ∀ q, (Value.slice (some ⟨w.heap.size, 0, none⟩) 0 0).ownBlock = some q → q = w.heap.size ∨ w2.heap.size ≤ q := fun q hq => .inl (by simp [Value.ownBlock] at hq; omega)
  have HST := Lib.hid hst
  clear hst
  go_wp2
  go_loopw [4, 6, 7, 12] (fun vo v6 v7 vi wr => ∃ (k : Nat) (ps : List NdC), k ≤ n ∧ vi = .int .i64 k ∧ Hid (ps.map (·.1) = rs.take k) ∧ Hid (ps.length = k) ∧ PartN wr w.heap.size 83 3 74 vo ps ∧ Hid (wr.ownsRow (w.heap.size + 1) 9 1 (.slice A n c) n ((P.cut s ⟨#[59, 32]⟩).map Value.string)) ∧ Hid (∀ q, vo.ownBlock = some q → q = w.heap.size ∨ w2.heap.size ≤ q) ∧ w2.heap.size ≤ wr.heap.size ∧ Below w.heap.size w wr) (fun _ _ _ vi _ => n - (intOf vi).toNat)
  case atStart => exact ⟨0, [], Nat.zero_le _, rfl, rfl, rfl, O2, hP1, HST, Nat.le_refl _, B2⟩
  case round =>
    clear hP1 HST O2 B2
    obtain ⟨k, ps, hk, rfl, HM, HPL, hpart, hpr, hq, hw2, hbw⟩ := hrel
    by_cases hlt : k < n
    · obtain ⟨A', n', c', e', hS⟩ := own_strs (xs := P.cut s ⟨#[59, 32]⟩) (by rw [HL.out]; exact hpr.out) (fun x hx => by have := HX.out x hx; unfold maxLen; omega)
      injection e' with e1 e2 e3
      subst e1 e2 e3
      obtain ⟨b, o, x, rfl, hb, hx, hf, hc⟩ := hS.str hlt
      have hnc := hS.le
      have p1 : (k : Int) < (n : Int) := by omega
      have p2 : (n : Int) ≤ (c : Int) := by omega
      have HXM := Lib.hid (List.mem_of_getElem? hx)
      obtain ⟨Ao, co, hvo, _, _⟩ := own_form hpart.out
      subst hvo
      have HXK := Lib.hid hx
      have hxs : x.size ≤ 1048576 := Nat.le_trans (HX.out x HXM.out) hs
      have hsz := hbw.size
      have HPT := Lib.hid hpart
      have HB := Lib.hid hbw
      have hpl := HPL.out
      subst hpl
      have hrow : ∀ q, (Value.slice Ao ps.length co).ownBlock = some q → w.heap.size ≤ q := fun q hq => (hpart.out.lt q hq).1
      have HROW := Lib.hid hrow
      have h63 : ps.length + 1 ≤ maxLen := by unfold maxLen; omega
      have hby : (ps.length + 1) * 80 ≤ 140737488355328 := by omega
      clear hx hS hf hpart hbw hrow
      have HRK0 : Hid (rs[ps.length]? = some (ndPI x)) := by show _ = _; rw [← hrs.out]; exact rdEI_at HXK.out
      have hlit : Row (wr.alloc (.cells #[.string ⟨#[97, 110, 100]⟩, .string ⟨#[116, 104, 101, 110]⟩, .string ⟨#[110, 111, 116]⟩, .string ⟨#[98, 111, 116, 104]⟩] 9)) wr.heap.size 9 ([wordS 1, wordS 2, wordS 3, wordS 4].map Value.string) := Row.new wr 9 [.string ⟨#[97, 110, 100]⟩, .string ⟨#[116, 104, 101, 110]⟩, .string ⟨#[110, 111, 116]⟩, .string ⟨#[98, 111, 116, 104]⟩]
      have HLI := Lib.hid hlit
      clear hlit
      go_wp2_with fail
      refine (indexStrs (n := 4) (c := 4) _ HLI.out rfl (by omega) (by omega)).mono ?_
      rintro e w9 ⟨⟨k0, rfl, hk0⟩, rfl⟩
      obtain ⟨wl, hwl⟩ : ∃ wl, wr.alloc (.cells #[.string ⟨#[97, 110, 100]⟩, .string ⟨#[116, 104, 101, 110]⟩, .string ⟨#[110, 111, 116]⟩, .string ⟨#[98, 111, 116, 104]⟩] 9) = wl := ⟨_, rfl⟩
      have Bl : Below wr.heap.size wr wl := by rw [← hwl]; exact (Below.refl wr.heap.size wr).alloc (Nat.le_refl _) _
      rw [hwl]
      have hop := idx4 hk0
      obtain ⟨ob0, ob1⟩ := opW_bd x
      obtain ⟨o1, rfl⟩ : ∃ o1, k0 = o1 - 1 := ⟨k0 + 1, by omega⟩
      have hop1 : opW x = o1 := by omega
      rw [hop1] at ob0 ob1
      have HOP := Lib.hid hop1
      clear hk0 hop hop1 HLI hwl
      by_cases h0 : o1 = 0
      · subst h0
        obtain ⟨w5, hw5⟩ : ∃ w5, wl.alloc (.cells #[.int .i64 0, .int .i64 0, .int .i64 0, .int .i64 0, .slice none 0 0, .slice none 0 0] 83) = w5 := ⟨_, rfl⟩
        have z5 : w5.heap.size = wl.heap.size + 1 := by rw [← hw5]; simp
        have B5 := Bl.alloc Bl.size (.cells #[.int .i64 0, .int .i64 0, .int .i64 0, .int .i64 0, .slice none 0 0, .slice none 0 0] 83)
        have R5 := Row.new wl 83 [.int .i64 0, .int .i64 0, .int .i64 0, .int .i64 0, .slice none 0 0, .slice none 0 0]
        have R5 : Row w5 wl.heap.size 83 [.int .i64 0, .int .i64 0, .int .i64 0, .int .i64 0, .slice none 0 0, .slice none 0 0] := by rw [← hw5]; exact R5
        rw [hw5] at B5
        have HW5 := Lib.hid hw5
        clear hw5
        go_wp2_with fail
        rw [HW5.out]
        refine (implParseWish _ hxs).mono ?_
        rintro e w6 ⟨u, v, rfl, hO, b6⟩
        obtain ⟨A2, c2, rfl, _, _⟩ := own_form hO.1
        obtain ⟨E2, d2, rfl, _, _⟩ := own_form hO.2.1
        obtain ⟨yw, hyw⟩ : ∃ yw, parW x = yw := ⟨_, rfl⟩
        rw [hyw] at hO ⊢
        have HRK : Hid (rs[ps.length]? = some ⟨0, yw⟩) := by
          show _ = _
          rw [HRK0.out, ← hyw]
          unfold ndPI
          rw [HOP.out]
          rfl
        have R6 := R5.below b6 R5.lt
        have B6 := B5.trans (b6.mono B5.size)
        have f1 := R6.free 1
        have f2 := R6.free 2
        have f3 := R6.free 3
        have f4 := R6.free 4
        have f5 := R6.free 5
        have c0 : w6.cell? ⟨wl.heap.size, 0, none⟩ = some (.int .i64 0) := R6.cell 0
        have c1 : w6.cell? ⟨wl.heap.size, 1, none⟩ = some (.int .i64 0) := R6.cell 1
        have c2' : w6.cell? ⟨wl.heap.size, 2, none⟩ = some (.int .i64 0) := R6.cell 2
        have c3 : w6.cell? ⟨wl.heap.size, 3, none⟩ = some (.int .i64 0) := R6.cell 3
        have c4 : w6.cell? ⟨wl.heap.size, 4, none⟩ = some (.slice none 0 0) := R6.cell 4
        have c5 : w6.cell? ⟨wl.heap.size, 5, none⟩ = some (.slice none 0 0) := R6.cell 5
        have hl6 := R6.lt
        have hS8 : Below wr.heap.size wr (((((w6.setCell ⟨wl.heap.size, 1, none⟩ (.int .i64 yw.kind)).setCell ⟨wl.heap.size, 2, none⟩ (.int .i64 yw.field)).setCell ⟨wl.heap.size, 3, none⟩ (.int .i64 yw.value)).setCell ⟨wl.heap.size, 4, none⟩ (.slice A2 yw.list.length c2)).setCell ⟨wl.heap.size, 5, none⟩ (.slice E2 yw.pairs.length d2)) := below_five B6 Bl.size
        have how : OwnW (((((w6.setCell ⟨wl.heap.size, 1, none⟩ (.int .i64 yw.kind)).setCell ⟨wl.heap.size, 2, none⟩ (.int .i64 yw.field)).setCell ⟨wl.heap.size, 3, none⟩ (.int .i64 yw.value)).setCell ⟨wl.heap.size, 4, none⟩ (.slice A2 yw.list.length c2)).setCell ⟨wl.heap.size, 5, none⟩ (.slice E2 yw.pairs.length d2)) w5.heap.size 3 74 yw (.slice A2 yw.list.length c2) (.slice E2 yw.pairs.length d2) := ⟨own_five hO.1 (by omega), own_five hO.2.1 (by omega), hO.2.2⟩
        have hlo2 : wr.heap.size ≤ w5.heap.size := by have := Bl.size; omega
        have Z8 : Hid (wr.heap.size ≤ w6.heap.size) := by show _ ≤ _; have := hS8.size; simpa using this
        have HP8 := Lib.hid (HPT.out.below hS8)
        have N6 := six_new (((((w6.setCell ⟨wl.heap.size, 1, none⟩ (.int .i64 yw.kind)).setCell ⟨wl.heap.size, 2, none⟩ (.int .i64 yw.field)).setCell ⟨wl.heap.size, 3, none⟩ (.int .i64 yw.value)).setCell ⟨wl.heap.size, 4, none⟩ (.slice A2 yw.list.length c2)).setCell ⟨wl.heap.size, 5, none⟩ (.slice E2 yw.pairs.length d2)) (.int .i64 0) (.int .i64 yw.kind) (.int .i64 yw.field) (.int .i64 yw.value) (.slice A2 yw.list.length c2) (.slice E2 yw.pairs.length d2) 83
        have zc : ((((((w6.setCell ⟨wl.heap.size, 1, none⟩ (.int .i64 yw.kind)).setCell ⟨wl.heap.size, 2, none⟩ (.int .i64 yw.field)).setCell ⟨wl.heap.size, 3, none⟩ (.int .i64 yw.value)).setCell ⟨wl.heap.size, 4, none⟩ (.slice A2 yw.list.length c2)).setCell ⟨wl.heap.size, 5, none⟩ (.slice E2 yw.pairs.length d2))).heap.size = w6.heap.size := by simp
        have hlo8 : w.heap.size ≤ (((((((w6.setCell ⟨wl.heap.size, 1, none⟩ (.int .i64 yw.kind)).setCell ⟨wl.heap.size, 2, none⟩ (.int .i64 yw.field)).setCell ⟨wl.heap.size, 3, none⟩ (.int .i64 yw.value)).setCell ⟨wl.heap.size, 4, none⟩ (.slice A2 yw.list.length c2)).setCell ⟨wl.heap.size, 5, none⟩ (.slice E2 yw.pairs.length d2))).alloc (.cells #[.int .i64 0, .int .i64 yw.kind, .int .i64 yw.field, .int .i64 yw.value, .slice A2 yw.list.length c2, .slice E2 yw.pairs.length d2] 83)).heap.size := by have := HB.out.size; have := hS8.size; simp at *; omega
        rw [zc] at N6
        clear hyw R5 R6 B5 B6 b6 hO HRK0 zc z5
        go_wp2_with (at_builtin; refine wpList_append_own_at _ rfl _ _ 44 rfl w.heap.size 83 i0 _ 6 80 Try.underlying44 hi hz0 hz1 hz2 rfl (by decide) _ _ _ rfl (HP8.out.out.alloc _) ⟨w6.heap.size, 0, none⟩ 1 1 [.int .i64 0, .int .i64 yw.kind, .int .i64 yw.field, .int .i64 yw.value, .slice A2 yw.list.length c2, .slice E2 yw.pairs.length d2] rfl rfl N6 (ones6 rfl rfl rfl rfl rfl rfl) h63 hby (by first | exact hlo8 | (simp; omega)) ?_)
        intro v' w1 hown1 hgrow hnil hat0
        obtain ⟨gg, cap, cs, rfl, hgb, hgc, hgm, hgR, hgl⟩ := own_row hown1 (by omega)
        have hat := hatN (ad := w6.heap.size) (by first | exact hat0 | (rw [World.size_alloc] at hat0; exact hat0) | (simpa using hat0))
        have hP1 : Hid (PartN w1 w.heap.size 83 3 74 (.slice (some ⟨gg, 0, none⟩) (ps.length + 1) cap) (ps ++ [((⟨0, yw⟩ : Nd), .slice A2 yw.list.length c2, .slice E2 yw.pairs.length d2)])) :=
          HPT.out.append (x := ⟨0, yw⟩) hS8 how hlo2 HB.out.size ((Below.refl (((((w6.setCell ⟨wl.heap.size, 1, none⟩ (.int .i64 yw.kind)).setCell ⟨wl.heap.size, 2, none⟩ (.int .i64 yw.field)).setCell ⟨wl.heap.size, 3, none⟩ (.int .i64 yw.value)).setCell ⟨wl.heap.size, 4, none⟩ (.slice A2 yw.list.length c2)).setCell ⟨wl.heap.size, 5, none⟩ (.slice E2 yw.pairs.length d2)).heap.size (((((w6.setCell ⟨wl.heap.size, 1, none⟩ (.int .i64 yw.kind)).setCell ⟨wl.heap.size, 2, none⟩ (.int .i64 yw.field)).setCell ⟨wl.heap.size, 3, none⟩ (.int .i64 yw.value)).setCell ⟨wl.heap.size, 4, none⟩ (.slice A2 yw.list.length c2)).setCell ⟨wl.heap.size, 5, none⟩ (.slice E2 yw.pairs.length d2))).alloc (Nat.le_refl _) _) hgrow hown1 (hat.imp id fun e => e.trans (by simp))
        have hB1 := Lib.hid (((HB.out.trans (hS8.mono HB.out.size)).alloc (Nat.le_trans HB.out.size hS8.size) (.cells #[.int .i64 0, .int .i64 yw.kind, .int .i64 yw.field, .int .i64 yw.value, .slice A2 yw.list.length c2, .slice E2 yw.pairs.length d2] 83)).grown hgrow (by have := Z8.out; simp; omega) HROW.out)
        have HM2 : Hid ((ps ++ [((⟨0, yw⟩ : Nd), Value.slice A2 yw.list.length c2, Value.slice E2 yw.pairs.length d2)]).map (·.1) = rs.take (ps.length + 1)) := by
          show _ = _
          obtain ⟨hl, e⟩ := List.getElem?_eq_some_iff.1 HRK.out
          rw [List.map_append, HM.out, List.take_succ_eq_append_getElem hl, e]
          rfl
        have HPL2 : Hid ((ps ++ [((⟨0, yw⟩ : Nd), Value.slice A2 yw.list.length c2, Value.slice E2 yw.pairs.length d2)]).length = ps.length + 1) := by show _ = _; rw [List.length_append]; rfl
        have hpr6 := Lib.hid (own_grown ((own_below hpr.out hS8).alloc (.cells #[.int .i64 0, .int .i64 yw.kind, .int .i64 yw.field, .int .i64 yw.value, .slice A2 yw.list.length c2, .slice E2 yw.pairs.length d2] 83)) hgrow (fun g hg hh => by
          have h1 := hP2.out g hg
          have h2 := (hpr.out.lt g hg).1
          have h3 := hq.out g hh.symm
          omega))
        have hw6 : w2.heap.size ≤ w1.heap.size := by have h1 := hgrow.size; have h2 := Z8.out; (try simp at h1); omega
        have hq6 : Hid (∀ q, (Value.slice (some ⟨gg, 0, none⟩) (ps.length + 1) cap).ownBlock = some q → q = w.heap.size ∨ w2.heap.size ≤ q) := by
          intro q hv
          have hgq : gg = q := by simp [Value.ownBlock] at hv; omega
          rcases hat with hat | hat
          · exact hq.out q (by rw [← hgq]; exact hat)
          · refine .inr ?_
            have h8 := Z8.out
            try simp at h8
            try simp at hat
            omega
        clear how hS8 hown1 hgrow hat hat0 hpr hq hgb hgc hgm hgR hnil
        go_wp2
        go_roundw
        case rel => exact ⟨ps.length + 1, _, by omega, by go_num, HM2, HPL2, hP1.out, hpr6, hq6, hw6, hB1.out⟩
        case measure => simp [intOf]; omega
      · have t0 : (o1 == 0) = false := by simp [h0]
        have HRK : Hid (rs[ps.length]? = some ⟨o1, zeroW⟩) := by
          show _ = _
          rw [HRK0.out]
          unfold ndPI
          rw [HOP.out, if_neg h0]
        have zc : (wl.alloc (.cells #[.int .i64 o1, .int .i64 0, .int .i64 0, .int .i64 0, .slice none 0 0, .slice none 0 0] 83)).heap.size = wl.heap.size + 1 := by simp
        have hS8 := Bl.alloc Bl.size (.cells #[.int .i64 o1, .int .i64 0, .int .i64 0, .int .i64 0, .slice none 0 0, .slice none 0 0] 83)
        have how : OwnW (wl.alloc (.cells #[.int .i64 o1, .int .i64 0, .int .i64 0, .int .i64 0, .slice none 0 0, .slice none 0 0] 83)) (wl.alloc (.cells #[.int .i64 o1, .int .i64 0, .int .i64 0, .int .i64 0, .slice none 0 0, .slice none 0 0] 83)).heap.size 3 74 zeroW (.slice none 0 0) (.slice none 0 0) := ownW_nil _ _
        have hlo2 : wr.heap.size ≤ (wl.alloc (.cells #[.int .i64 o1, .int .i64 0, .int .i64 0, .int .i64 0, .slice none 0 0, .slice none 0 0] 83)).heap.size := by have := Bl.size; simp; omega
        have Z8 : Hid (wr.heap.size ≤ wl.heap.size + 1) := by show _ ≤ _; have := hS8.size; simpa using this
        have HP8 := Lib.hid (HPT.out.below hS8)
        have N6 := six_new (wl.alloc (.cells #[.int .i64 o1, .int .i64 0, .int .i64 0, .int .i64 0, .slice none 0 0, .slice none 0 0] 83)) (.int .i64 o1) (.int .i64 0) (.int .i64 0) (.int .i64 0) (.slice none 0 0) (.slice none 0 0) 83
        have hlo8 : w.heap.size ≤ ((wl.alloc (.cells #[.int .i64 o1, .int .i64 0, .int .i64 0, .int .i64 0, .slice none 0 0, .slice none 0 0] 83)).alloc (.cells #[.int .i64 o1, .int .i64 0, .int .i64 0, .int .i64 0, .slice none 0 0, .slice none 0 0] 83)).heap.size := by have := HB.out.size; have := hS8.size; simp at *; omega
        rw [zc] at N6
        clear HRK0 h0 zc
        go_wp2_with (at_builtin; refine wpList_append_own_at _ rfl _ _ 44 rfl w.heap.size 83 i0 _ 6 80 Try.underlying44 hi hz0 hz1 hz2 rfl (by decide) _ _ _ rfl (HP8.out.out.alloc _) ⟨wl.heap.size + 1, 0, none⟩ 1 1 [.int .i64 o1, .int .i64 0, .int .i64 0, .int .i64 0, .slice none 0 0, .slice none 0 0] rfl rfl N6 (ones6 rfl rfl rfl rfl rfl rfl) h63 hby (by first | exact hlo8 | (simp; omega)) ?_)
        intro v' w1 hown1 hgrow hnil hat0
        obtain ⟨gg, cap, cs, rfl, hgb, hgc, hgm, hgR, hgl⟩ := own_row hown1 (by omega)
        have hat := hatN (ad := wl.heap.size + 1) (by first | exact hat0 | (rw [World.size_alloc] at hat0; exact hat0) | (simpa using hat0))
        have hP1 : Hid (PartN w1 w.heap.size 83 3 74 (.slice (some ⟨gg, 0, none⟩) (ps.length + 1) cap) (ps ++ [((⟨o1, zeroW⟩ : Nd), .slice none 0 0, .slice none 0 0)])) :=
          HPT.out.append (x := ⟨o1, zeroW⟩) hS8 how hlo2 HB.out.size ((Below.refl (wl.alloc (.cells #[.int .i64 o1, .int .i64 0, .int .i64 0, .int .i64 0, .slice none 0 0, .slice none 0 0] 83)).heap.size (wl.alloc (.cells #[.int .i64 o1, .int .i64 0, .int .i64 0, .int .i64 0, .slice none 0 0, .slice none 0 0] 83))).alloc (Nat.le_refl _) _) hgrow hown1 (hat.imp id fun e => e.trans (by simp))
        have hB1 := Lib.hid (((HB.out.trans (hS8.mono HB.out.size)).alloc (Nat.le_trans HB.out.size hS8.size) (.cells #[.int .i64 o1, .int .i64 0, .int .i64 0, .int .i64 0, .slice none 0 0, .slice none 0 0] 83)).grown hgrow (by have := Z8.out; simp; omega) HROW.out)
        have HM2 : Hid ((ps ++ [((⟨o1, zeroW⟩ : Nd), Value.slice none 0 0, Value.slice none 0 0)]).map (·.1) = rs.take (ps.length + 1)) := by
          show _ = _
          obtain ⟨hl, e⟩ := List.getElem?_eq_some_iff.1 HRK.out
          rw [List.map_append, HM.out, List.take_succ_eq_append_getElem hl, e]
          rfl
        have HPL2 : Hid ((ps ++ [((⟨o1, zeroW⟩ : Nd), Value.slice none 0 0, Value.slice none 0 0)]).length = ps.length + 1) := by show _ = _; rw [List.length_append]; rfl
        have hpr6 := Lib.hid (own_grown ((own_below hpr.out hS8).alloc (.cells #[.int .i64 o1, .int .i64 0, .int .i64 0, .int .i64 0, .slice none 0 0, .slice none 0 0] 83)) hgrow (fun g hg hh => by
          have h1 := hP2.out g hg
          have h2 := (hpr.out.lt g hg).1
          have h3 := hq.out g hh.symm
          omega))
        have hw6 : w2.heap.size ≤ w1.heap.size := by have h1 := hgrow.size; have h2 := Z8.out; (try simp at h1); omega
        have hq6 : Hid (∀ q, (Value.slice (some ⟨gg, 0, none⟩) (ps.length + 1) cap).ownBlock = some q → q = w.heap.size ∨ w2.heap.size ≤ q) := by
          intro q hv
          have hgq : gg = q := by simp [Value.ownBlock] at hv; omega
          rcases hat with hat | hat
          · exact hq.out q (by rw [← hgq]; exact hat)
          · refine .inr ?_
            have h8 := Z8.out
            try simp at h8
            try simp at hat
            omega
        clear how hS8 hown1 hgrow hat hat0 hpr hq hgb hgc hgm hgR hnil
        go_wp2
        go_roundw
        case rel => exact ⟨ps.length + 1, _, by omega, by go_num, HM2, HPL2, hP1.out, hpr6, hq6, hw6, hB1.out⟩
        case measure => simp [intOf]; omega
    · have hkn : k = n := by omega
      subst hkn
      rw [List.take_of_length_le (by have := HRL.out; omega)] at HM
      have ho := part_ownNd hpart
      rw [HM.out] at ho
      have HO := Lib.hid ho
      clear ho
      obtain ⟨A', n', c', hv, hS⟩ := HO.out.read HRF.out
      subst hv
      have hsz := hbw.size
      have HB := Lib.hid hbw
      clear hbw hpart hpr hq
      by_cases h0 : s = ⟨#[]⟩
      · have q1 : s.toList = [] := by rw [h0, ByteArray.toList_eq]
        have q2 : s.toList.isEmpty = true := by rw [q1]; rfl
        have HP := Lib.hid (HEND.out.2 (.inl h0))
        have BZ := HB.out.alloc hsz (.cells #[] 83)
        clear h0 HEND
        go_wp2
        go_ret2
        refine ⟨_, ret_pb HP.out.2.symm, ?_, BZ⟩
        rw [HP.out.1]
        exact ownNd_mono (ownNd_nil wr _ (Below.refl _ _)) hsz
      · have q1 : ¬ s.toList = [] := fun e => h0 (by rw [ByteArray.toList_eq] at e; exact P.ba_ext e)
        have q2 : s.toList.isEmpty = false := by rw [List.isEmpty_eq_false_iff]; exact q1
        have HY2 := Lib.hid (HEND.out.1 h0)
        have HN2 : Hid (exprS rs ≠ s → parE s = [] ∧ parEB s = false) := fun h => HEND.out.2 (.inr h)
        clear h0 HEND
        go_wp2_with fail
        refine (implFormatExpression _ hS).mono ?_
        rintro e w7 ⟨rfl, b7⟩
        have O7 := HO.out.below b7
        have B7 := HB.out.trans (b7.mono hsz)
        have z7 := B7.size
        by_cases e : exprS rs = s
        · have HP := Lib.hid (HY2.out e)
          have q5 := ba_yes e
          clear e
          go_wp2
          go_ret2
          refine ⟨.slice A' n' c', ret_pb HP.out.2.symm, ?_, B7⟩
          rw [HP.out.1]
          exact part_up O7
        · have HP := Lib.hid (HN2.out e)
          have q5 := ba_no e
          have BZ := B7.alloc z7 (.cells #[] 83)
          clear e
          go_wp2
          go_ret2
          refine ⟨_, ret_pb HP.out.2.symm, ?_, BZ⟩
          rw [HP.out.1]
          exact ownNd_mono (ownNd_nil w7 _ (Below.refl _ _)) z7
end Go.Proofs.Ytphbochfpidgeaa.Wk

namespace Go.Proofs.Ytphbochfpidgeaa.Wk
open Go.RowKit Go.Proofs.Ytphbochfpidgeaa.M
set_option linter.unusedVariables false

theorem cnt_tot : ∀ (l : List Nd), cntN l ≤ 4 * totN l
  | [] => Nat.zero_le _
  | x :: t => by
    have := cnt_tot t
    simp only [cntN, totN, cnt1]
    omega
theorem cnt_drop (l : List Nd) (i : Nat) : cntN (l.drop i) ≤ cntN l := by
  have := cntN_app (l.take i) (l.drop i)
  rw [List.take_append_drop] at this; omega
theorem cnt_sub (l : List Nd) (a : Int) : cntN (subR l a) ≤ 4 * totN l := by
  refine Nat.le_trans ?_ (cnt_tot l)
  unfold subR
  split
  · exact Nat.le_trans (cntN_le _ _) (cnt_drop _ _)
  · exact Nat.zero_le _
end Go.Proofs.Ytphbochfpidgeaa.Wk

namespace Go.Proofs.Ytphbochfpidgeaa.Wk
open Go.RowKit Go.Proofs.Ytphbochfpidgeaa.M
set_option linter.unusedVariables false

theorem cnt_join (l r : List Nd) (op : Int) : cntN (joinR l r op) ≤ 4 * totN l + 4 * totN r + 4 := by
  unfold joinR
  split
  · have h1 := cnt_tot l
    have h2 := cnt_tot r
    rw [cntN_app, cntN_app]
    have h3 : cntN [(⟨op, noWi⟩ : Nd)] = 4 := rfl
    omega
  · exact Nat.zero_le _
theorem fit_join {l r : List Nd} {op : Int} (h : ∀ x ∈ l, FitN x) (g : ∀ x ∈ r, FitN x) (ho : Fit op) : ∀ x ∈ joinR l r op, FitN x := by
  intro x hx
  unfold joinR at hx
  split at hx
  · rcases List.mem_append.1 hx with hx | hx
    · rcases List.mem_append.1 hx with hx | hx
      · exact h x hx
      · exact g x hx
    · simp at hx
      subst hx
      exact ⟨ho, by unfold Fit noWi; simp, by unfold Fit noWi; simp, by unfold Fit noWi; simp, by simp [noWi], by simp [noWi]⟩
  · simp at hx
theorem specJoinExpressionsV {v u : Value} {l r : List Nd} {op : Int} (w : World) (h : V RN 6 w w.heap.size v l) (g : V RN 6 w w.heap.size u r) (ho : Fit op) : Calls Try.prog 29 #[v, u, .int .i64 op] w (RetNd2 w (joinR l r op) (joinB l r op)) := by
  obtain ⟨A, n, c, rfl, h⟩ := h
  obtain ⟨E, m, d, rfl, g⟩ := g
  exact specJoinExpressions w h g ho
theorem implJoinExpressionsV {v u : Value} {l r : List Nd} {op : Int} (w : World) (h : V RN 6 w w.heap.size v l) (g : V RN 6 w w.heap.size u r) (ho : Fit op) : Calls Try.prog 28 #[v, u, .int .i64 op] w (RetNd2 w (joinR l r op) (joinB l r op)) := by
  obtain ⟨A, n, c, rfl, h⟩ := h
  obtain ⟨E, m, d, rfl, g⟩ := g
  exact implJoinExpressions w h g ho
end Go.Proofs.Ytphbochfpidgeaa.Wk

namespace Go.Proofs.Ytphbochfpidgeaa.Wk
open Go.RowKit Go.Proofs.Ytphbochfpidgeaa.M
set_option linter.unusedVariables false
set_option linter.unusedSimpArgs false
attribute [local go_sem] cell_grow

theorem depth_up : ∀ (l : List Nd) (d e k : Nat), P.depth l d = some e → P.depth l (d + k) = some (e + k)
  | [], d, e, k, h => by
    simp only [P.depth, Option.some.injEq] at h ⊢
    omega
  | n :: t, d, e, k, h => by
    rw [P.depth] at h ⊢
    split at h
    · rename_i hc
      rw [Bool.and_eq_true, decide_eq_true_eq] at hc
      have := depth_up t _ _ k h
      rw [if_pos (by rw [Bool.and_eq_true, decide_eq_true_eq]; exact ⟨hc.1, by omega⟩)]
      rw [← this]
      congr 1
      omega
    · cases h
theorem okE_join {l r : List Nd} {op : Int} (h : joinB l r op = true) : P.okE (joinR l r op) = true := by
  have hR : joinR l r op = l ++ r ++ [⟨op, noWi⟩] := by unfold joinR; rw [if_pos h]
  rw [hR]
  unfold joinB at h
  simp only [Bool.and_eq_true, decide_eq_true_eq] at h
  obtain ⟨⟨⟨h1, h2⟩, h3⟩, h4⟩ := h
  obtain ⟨_, d1⟩ := P.okE_len h1
  obtain ⟨_, d2⟩ := P.okE_len h2
  have d3 := depth_up r 0 1 1 d2
  have hd : P.depth (l ++ r ++ [⟨op, noWi⟩]) 0 = some 1 := by
    rw [P.depth_app, P.depth_app, d1]
    show ((P.depth r 1).bind fun d' => P.depth [⟨op, noWi⟩] d') = some 1
    rw [show (1 : Nat) = 0 + 1 from rfl, d3]
    rcases h3 with rfl | rfl | rfl <;> rfl
  unfold P.okE
  rw [hd]
  simp
  omega
set_option maxHeartbeats 12000000 in
set_option maxRecDepth 100000 in
theorem FnTexts (w : World) (v0 : Value) (l0 : List UInt8) (e0 : V RB 1 w w.heap.size v0 l0) : Calls Try.prog 3 #[v0] w fun e w' => e = .returned (.bool true) ∧ Below w.heap.size w w' := by
  obtain ⟨A0, n0, c0', rfl, hS⟩ := e0
  have HS := Lib.hid hS
  by_cases hbig : 1048576 < n0
  · have q : decide (1048576 < n0) = true := by simpa using hbig
    go_enter Try.func3, Try.ntmps3
    go_wp2_with fail
    refine (lawBig _ HS.out).mono ?_
    rintro e w1 ⟨rfl, rfl⟩
    rw [q]
    go_wp2
    go_ret
    exact ⟨rfl, Below.refl _ _⟩
  have q : decide (1048576 < n0) = false := by simpa using hbig
  have hn0 : n0 ≤ 1048576 := by omega
  clear hS hbig
  go_enter Try.func3, Try.ntmps3
  go_wp2_with fail
  refine (lawBig _ HS.out).mono ?_
  rintro e w1 ⟨rfl, rfl⟩
  rw [q]
  clear q
  go_wp2_with fail
  refine (drawFI _ HS.out hn0).mono ?_
  rintro e w2 ⟨x, A, c, rfl, hx, HFX, b2⟩
  have bx := (Below.refl w2.heap.size w2).alloc (Nat.le_refl _) (.cells #[.int .i64 x.id, .slice A x.vals.length c] 26)
  have G3 := Row.new w2 26 [.int .i64 x.id, .slice A x.vals.length c]
  obtain ⟨w3, hw3⟩ : ∃ w3, w2.alloc (.cells #[.int .i64 x.id, .slice A x.vals.length c] 26) = w3 := ⟨_, rfl⟩
  rw [hw3] at bx G3
  have HW3 := Lib.hid hw3
  have X3 := Lib.hid (hx.on RI.keeps bx)
  have B3 := b2.trans (bx.mono b2.size)
  obtain ⟨s, hs⟩ : ∃ s, Hid (itemS x = s) := ⟨_, rfl⟩
  obtain ⟨ti, hti⟩ : ∃ ti, Hid (P.okI x = ti) := ⟨_, rfl⟩
  have HSZ : Hid (s.size ≤ 1048576) := by show _ ≤ _; rw [← hs.out]; exact itemS_size HFX.out
  obtain ⟨y, hy⟩ : ∃ y, Hid (parI s = y) := ⟨_, rfl⟩
  have HRT := rt_item x
  rw [hs.out, hti.out, hy.out] at HRT
  have HFY : Hid (Fit y.id ∧ ∀ z ∈ y.vals, Fit z) := by have := parI_fit s; rw [hy.out] at this; exact this
  obtain ⟨hr1, hr2⟩ := HRT
  have HR1 := Lib.hid hr1
  have HR2 := Lib.hid hr2
  have F1 : Hid (∀ w : World, Sl RI 1 w w.heap.size A x.vals.length c x.vals → Calls Try.prog 6 #[.agg #[.int .i64 x.id, .slice A x.vals.length c]] w fun e w' => e = .returned (.string s) ∧ Below w.heap.size w w') := fun w h => by rw [← hs.out]; exact implFormatItem w h HFX.out.1
  have F2 : Hid (∀ w : World, Sl RI 1 w w.heap.size A x.vals.length c x.vals → Calls Try.prog 11 #[.agg #[.int .i64 x.id, .slice A x.vals.length c]] w fun e w' => e = .returned (.string s) ∧ Below w.heap.size w w') := fun w h => by rw [← hs.out]; exact specFormatItem w h HFX.out.1
  have F3 : Hid (∀ w : World, Sl RI 1 w w.heap.size A x.vals.length c x.vals → Calls Try.prog 12 #[.agg #[.int .i64 x.id, .slice A x.vals.length c]] w fun e w' => e = .returned (.bool ti) ∧ Below w.heap.size w w') := fun w h => by rw [← hti.out]; exact specIsItem w h (Nat.le_refl _)
  have F4 : Hid (∀ w : World, Calls Try.prog 7 #[.string s] w (RetIB w y ti)) := fun w => by rw [← hy.out, ← HR1.out]; exact implParseItem w HSZ.out
  clear hx b2 bx hr1 hr2 hw3
  go_wp2_with fail
  rw [HW3.out]
  with_reducible refine (F1.out _ X3.out).mono ?_
  rintro e w4 ⟨rfl, b4⟩
  have X4 := Lib.hid (X3.out.on RI.keeps b4)
  have G4 := G3.below b4 G3.lt
  have B4 := B3.trans (b4.mono B3.size)
  clear X3 G3 b4 B3
  go_wp2_with fail
  with_reducible refine (F4.out _).mono ?_
  rintro e w5 ⟨vy, rfl, oy, b5⟩
  have X5 := Lib.hid (X4.out.on RI.keeps b5)
  have G5 := G4.below b5 G4.lt
  have B5 := B4.trans (b5.mono B4.size)
  clear X4 G4 b5 B4
  obtain ⟨A2, n2, c2, rfl, hY⟩ := oy.read HFY.out.2
  clear oy
  have bx := (Below.refl w5.heap.size w5).alloc (Nat.le_refl _) (.cells #[.int .i64 y.id, .slice A2 n2 c2] 26)
  have H6 := Row.new w5 26 [.int .i64 y.id, .slice A2 n2 c2]
  obtain ⟨w6, hw6⟩ : ∃ w6, w5.alloc (.cells #[.int .i64 y.id, .slice A2 n2 c2] 26) = w6 := ⟨_, rfl⟩
  rw [hw6] at bx H6
  have HW6 := Lib.hid hw6
  have b6 := bx
  have Y6 := Lib.hid (hY.on RI.keeps bx)
  clear bx hY hw6
  have X6 := Lib.hid (X5.out.on RI.keeps b6)
  have G6 := G5.below b6 G5.lt
  have B6 := B5.trans (b6.mono B5.size)
  clear X5 G5 b6 B5
  have F5 : Hid (ti = true → ∀ w : World, Sl RI 1 w w.heap.size A2 n2 c2 y.vals → Calls Try.prog 6 #[.agg #[.int .i64 y.id, .slice A2 n2 c2]] w fun e w' => e = .returned (.string s) ∧ Below w.heap.size w w') := fun ht w h => by rw [← HR2.out ht]; exact implFormatItem w h HFY.out.1
  go_wp2_with fail
  rw [HW6.out]
  with_reducible refine (drawFP _ (HS.out.on RB.keeps B6) hn0).mono ?_
  rintro e w7 ⟨vl, l, rfl, hL, b7⟩
  have X7 := Lib.hid (X6.out.on RI.keeps b7)
  have Y7 := Lib.hid (Y6.out.on RI.keeps b7)
  have G7 := G6.below b7 G6.lt
  have H7 := H6.below b7 H6.lt
  have B7 := B6.trans (b7.mono B6.size)
  clear X6 Y6 G6 H6 b7 B6
  obtain ⟨A3, n3, c3, rfl, hL⟩ := hL
  have HFL := Lib.hid (fitPairs hL)
  have L7 := Lib.hid hL
  clear hL
  obtain ⟨t, ht⟩ : ∃ t, Hid (pairsS l = t) := ⟨_, rfl⟩
  obtain ⟨tp, htp⟩ : ∃ tp, Hid (P.okP l = tp) := ⟨_, rfl⟩
  have HTZ : Hid (t.size ≤ 1048576) := by show _ ≤ _; rw [← ht.out]; have := pairsS_size HFL.out; omega
  obtain ⟨m, hm⟩ : ∃ m, Hid (parP t = m) := ⟨_, rfl⟩
  have HRP := rt_pairs l
  rw [ht.out, htp.out, hm.out] at HRP
  have HFM : Hid (∀ p ∈ m, Fit p.1 ∧ Fit p.2) := by have := parP_fit t; rw [hm.out] at this; exact this
  obtain ⟨hr1, hr2⟩ := HRP
  have HP1 := Lib.hid hr1
  have HP2 := Lib.hid hr2
  clear hr1 hr2
  have F6 : Hid (∀ w : World, Sl RP 2 w w.heap.size A3 n3 c3 l → Calls Try.prog 9 #[.slice A3 n3 c3] w fun e w' => e = .returned (.string t) ∧ Below w.heap.size w w') := fun w h => by rw [← ht.out]; exact implFormatPairs w h
  have F7 : Hid (∀ w : World, Sl RP 2 w w.heap.size A3 n3 c3 l → Calls Try.prog 13 #[.slice A3 n3 c3] w fun e w' => e = .returned (.string t) ∧ Below w.heap.size w w') := fun w h => by rw [← ht.out]; exact specFormatPairs w h
  have F8 : Hid (∀ w : World, Sl RP 2 w w.heap.size A3 n3 c3 l → Calls Try.prog 14 #[.slice A3 n3 c3] w fun e w' => e = .returned (.bool tp) ∧ Below w.heap.size w w') := fun w h => by rw [← htp.out]; exact specArePairs w h
  have F9 : Hid (∀ w : World, Calls Try.prog 10 #[.string t] w (RetPB w m tp)) := fun w => by rw [← hm.out, ← HP1.out]; exact implParsePairs w HTZ.out
  go_wp2_with fail
  with_reducible refine (F6.out _ L7.out).mono ?_
  rintro e w8 ⟨rfl, b8⟩
  have X8 := Lib.hid (X7.out.on RI.keeps b8)
  have Y8 := Lib.hid (Y7.out.on RI.keeps b8)
  have L8 := Lib.hid (L7.out.on RP.keeps b8)
  have G8 := G7.below b8 G7.lt
  have H8 := H7.below b8 H7.lt
  have B8 := B7.trans (b8.mono B7.size)
  clear X7 Y7 L7 G7 H7 b8 B7
  go_wp2_with fail
  with_reducible refine (F9.out _).mono ?_
  rintro e w9 ⟨vq, rfl, oq, b9⟩
  have X9 := Lib.hid (X8.out.on RI.keeps b9)
  have Y9 := Lib.hid (Y8.out.on RI.keeps b9)
  have L9 := Lib.hid (L8.out.on RP.keeps b9)
  have G9 := G8.below b9 G8.lt
  have H9 := H8.below b9 H8.lt
  have B9 := B8.trans (b9.mono B8.size)
  clear X8 Y8 L8 G8 H8 b9 B8
  obtain ⟨A4, n4, c4, rfl, hQ⟩ := oq.read HFM.out
  have Q9 := Lib.hid hQ
  clear oq hQ
  have F10 : Hid (tp = true → ∀ w : World, Sl RP 2 w w.heap.size A4 n4 c4 m → Calls Try.prog 9 #[.slice A4 n4 c4] w fun e w' => e = .returned (.string t) ∧ Below w.heap.size w w') := fun h w hq => by rw [← HP2.out h]; exact implFormatPairs w hq
  have lG := G9.lt
  have qG0 : w9.cell? ⟨w2.heap.size, 0, none⟩ = some (.int .i64 x.id) := G9.cell 0
  have qG1 : w9.cell? ⟨w2.heap.size, 1, none⟩ = some (.slice A x.vals.length c) := G9.cell 1
  have lH := H9.lt
  have qH0 : w9.cell? ⟨w5.heap.size, 0, none⟩ = some (.int .i64 y.id) := H9.cell 0
  have qH1 : w9.cell? ⟨w5.heap.size, 1, none⟩ = some (.slice A2 n2 c2) := H9.cell 1
  have es := ba_yes (rfl : s = s)
  have et := ba_yes (rfl : t = t)
  go_upto_region 9 with fail
  go_cut [88] (fun s88 wx => s88 = .bool false ∧ Below w9.heap.size w9 wx)
  case first =>
    cases ti with
    | false =>
      cases tp with
      | false =>
        go_wp2_with fail
        with_reducible refine (F2.out _ X9.out).mono ?_
        rintro e u1 ⟨rfl, d1⟩
        have cc1 := d1
        have qqG := G9.below cc1 G9.lt
        have lG := qqG.lt
        have qG0 : u1.cell? ⟨w2.heap.size, 0, none⟩ = some (.int .i64 x.id) := qqG.cell 0
        have qG1 : u1.cell? ⟨w2.heap.size, 1, none⟩ = some (.slice A x.vals.length c) := qqG.cell 1
        clear qqG
        have qqH := H9.below cc1 H9.lt
        have lH := qqH.lt
        have qH0 : u1.cell? ⟨w5.heap.size, 0, none⟩ = some (.int .i64 y.id) := qqH.cell 0
        have qH1 : u1.cell? ⟨w5.heap.size, 1, none⟩ = some (.slice A2 n2 c2) := qqH.cell 1
        clear qqH
        go_wp2_with fail
        with_reducible refine (F3.out _ (X9.out.on RI.keeps cc1)).mono ?_
        rintro e u2 ⟨rfl, d2⟩
        have cc2 := cc1.trans (d2.mono cc1.size)
        clear d2
        have qqG := G9.below cc2 G9.lt
        have lG := qqG.lt
        have qG0 : u2.cell? ⟨w2.heap.size, 0, none⟩ = some (.int .i64 x.id) := qqG.cell 0
        have qG1 : u2.cell? ⟨w2.heap.size, 1, none⟩ = some (.slice A x.vals.length c) := qqG.cell 1
        clear qqG
        have qqH := H9.below cc2 H9.lt
        have lH := qqH.lt
        have qH0 : u2.cell? ⟨w5.heap.size, 0, none⟩ = some (.int .i64 y.id) := qqH.cell 0
        have qH1 : u2.cell? ⟨w5.heap.size, 1, none⟩ = some (.slice A2 n2 c2) := qqH.cell 1
        clear qqH
        go_wp2_with fail
        with_reducible refine (F7.out _ (L9.out.on RP.keeps cc2)).mono ?_
        rintro e u3 ⟨rfl, d3⟩
        have cc3 := cc2.trans (d3.mono cc2.size)
        clear d3
        go_wp2_with fail
        with_reducible refine (F8.out _ (L9.out.on RP.keeps cc3)).mono ?_
        rintro e u4 ⟨rfl, d4⟩
        have cc4 := cc3.trans (d4.mono cc3.size)
        clear d4
        go_wp2
        go_meet
        exact ⟨rfl, cc4⟩
      | true =>
        go_wp2_with fail
        with_reducible refine (F2.out _ X9.out).mono ?_
        rintro e u1 ⟨rfl, d1⟩
        have cc1 := d1
        have qqG := G9.below cc1 G9.lt
        have lG := qqG.lt
        have qG0 : u1.cell? ⟨w2.heap.size, 0, none⟩ = some (.int .i64 x.id) := qqG.cell 0
        have qG1 : u1.cell? ⟨w2.heap.size, 1, none⟩ = some (.slice A x.vals.length c) := qqG.cell 1
        clear qqG
        have qqH := H9.below cc1 H9.lt
        have lH := qqH.lt
        have qH0 : u1.cell? ⟨w5.heap.size, 0, none⟩ = some (.int .i64 y.id) := qqH.cell 0
        have qH1 : u1.cell? ⟨w5.heap.size, 1, none⟩ = some (.slice A2 n2 c2) := qqH.cell 1
        clear qqH
        go_wp2_with fail
        with_reducible refine (F3.out _ (X9.out.on RI.keeps cc1)).mono ?_
        rintro e u2 ⟨rfl, d2⟩
        have cc2 := cc1.trans (d2.mono cc1.size)
        clear d2
        have qqG := G9.below cc2 G9.lt
        have lG := qqG.lt
        have qG0 : u2.cell? ⟨w2.heap.size, 0, none⟩ = some (.int .i64 x.id) := qqG.cell 0
        have qG1 : u2.cell? ⟨w2.heap.size, 1, none⟩ = some (.slice A x.vals.length c) := qqG.cell 1
        clear qqG
        have qqH := H9.below cc2 H9.lt
        have lH := qqH.lt
        have qH0 : u2.cell? ⟨w5.heap.size, 0, none⟩ = some (.int .i64 y.id) := qqH.cell 0
        have qH1 : u2.cell? ⟨w5.heap.size, 1, none⟩ = some (.slice A2 n2 c2) := qqH.cell 1
        clear qqH
        go_wp2_with fail
        with_reducible refine (F7.out _ (L9.out.on RP.keeps cc2)).mono ?_
        rintro e u3 ⟨rfl, d3⟩
        have cc3 := cc2.trans (d3.mono cc2.size)
        clear d3
        go_wp2_with fail
        with_reducible refine (F8.out _ (L9.out.on RP.keeps cc3)).mono ?_
        rintro e u4 ⟨rfl, d4⟩
        have cc4 := cc3.trans (d4.mono cc3.size)
        clear d4
        go_wp2_with fail
        with_reducible refine (F10.out (by first | rfl | trivial) _ (Q9.out.on RP.keeps cc4)).mono ?_
        rintro e u5 ⟨rfl, d5⟩
        have cc5 := cc4.trans (d5.mono cc4.size)
        clear d5
        go_wp2
        go_meet
        exact ⟨rfl, cc5⟩
    | true =>
      cases tp with
      | false =>
        go_wp2_with fail
        with_reducible refine (F2.out _ X9.out).mono ?_
        rintro e u1 ⟨rfl, d1⟩
        have cc1 := d1
        have qqG := G9.below cc1 G9.lt
        have lG := qqG.lt
        have qG0 : u1.cell? ⟨w2.heap.size, 0, none⟩ = some (.int .i64 x.id) := qqG.cell 0
        have qG1 : u1.cell? ⟨w2.heap.size, 1, none⟩ = some (.slice A x.vals.length c) := qqG.cell 1
        clear qqG
        have qqH := H9.below cc1 H9.lt
        have lH := qqH.lt
        have qH0 : u1.cell? ⟨w5.heap.size, 0, none⟩ = some (.int .i64 y.id) := qqH.cell 0
        have qH1 : u1.cell? ⟨w5.heap.size, 1, none⟩ = some (.slice A2 n2 c2) := qqH.cell 1
        clear qqH
        go_wp2_with fail
        with_reducible refine (F3.out _ (X9.out.on RI.keeps cc1)).mono ?_
        rintro e u2 ⟨rfl, d2⟩
        have cc2 := cc1.trans (d2.mono cc1.size)
        clear d2
        have qqG := G9.below cc2 G9.lt
        have lG := qqG.lt
        have qG0 : u2.cell? ⟨w2.heap.size, 0, none⟩ = some (.int .i64 x.id) := qqG.cell 0
        have qG1 : u2.cell? ⟨w2.heap.size, 1, none⟩ = some (.slice A x.vals.length c) := qqG.cell 1
        clear qqG
        have qqH := H9.below cc2 H9.lt
        have lH := qqH.lt
        have qH0 : u2.cell? ⟨w5.heap.size, 0, none⟩ = some (.int .i64 y.id) := qqH.cell 0
        have qH1 : u2.cell? ⟨w5.heap.size, 1, none⟩ = some (.slice A2 n2 c2) := qqH.cell 1
        clear qqH
        go_wp2_with fail
        with_reducible refine (F5.out (by first | rfl | trivial) _ (Y9.out.on RI.keeps cc2)).mono ?_
        rintro e u3 ⟨rfl, d3⟩
        have cc3 := cc2.trans (d3.mono cc2.size)
        clear d3
        have qqG := G9.below cc3 G9.lt
        have lG := qqG.lt
        have qG0 : u3.cell? ⟨w2.heap.size, 0, none⟩ = some (.int .i64 x.id) := qqG.cell 0
        have qG1 : u3.cell? ⟨w2.heap.size, 1, none⟩ = some (.slice A x.vals.length c) := qqG.cell 1
        clear qqG
        have qqH := H9.below cc3 H9.lt
        have lH := qqH.lt
        have qH0 : u3.cell? ⟨w5.heap.size, 0, none⟩ = some (.int .i64 y.id) := qqH.cell 0
        have qH1 : u3.cell? ⟨w5.heap.size, 1, none⟩ = some (.slice A2 n2 c2) := qqH.cell 1
        clear qqH
        go_wp2_with fail
        with_reducible refine (F7.out _ (L9.out.on RP.keeps cc3)).mono ?_
        rintro e u4 ⟨rfl, d4⟩
        have cc4 := cc3.trans (d4.mono cc3.size)
        clear d4
        go_wp2_with fail
        with_reducible refine (F8.out _ (L9.out.on RP.keeps cc4)).mono ?_
        rintro e u5 ⟨rfl, d5⟩
        have cc5 := cc4.trans (d5.mono cc4.size)
        clear d5
        go_wp2
        go_meet
        exact ⟨rfl, cc5⟩
      | true =>
        go_wp2_with fail
        with_reducible refine (F2.out _ X9.out).mono ?_
        rintro e u1 ⟨rfl, d1⟩
        have cc1 := d1
        have qqG := G9.below cc1 G9.lt
        have lG := qqG.lt
        have qG0 : u1.cell? ⟨w2.heap.size, 0, none⟩ = some (.int .i64 x.id) := qqG.cell 0
        have qG1 : u1.cell? ⟨w2.heap.size, 1, none⟩ = some (.slice A x.vals.length c) := qqG.cell 1
        clear qqG
        have qqH := H9.below cc1 H9.lt
        have lH := qqH.lt
        have qH0 : u1.cell? ⟨w5.heap.size, 0, none⟩ = some (.int .i64 y.id) := qqH.cell 0
        have qH1 : u1.cell? ⟨w5.heap.size, 1, none⟩ = some (.slice A2 n2 c2) := qqH.cell 1
        clear qqH
        go_wp2_with fail
        with_reducible refine (F3.out _ (X9.out.on RI.keeps cc1)).mono ?_
        rintro e u2 ⟨rfl, d2⟩
        have cc2 := cc1.trans (d2.mono cc1.size)
        clear d2
        have qqG := G9.below cc2 G9.lt
        have lG := qqG.lt
        have qG0 : u2.cell? ⟨w2.heap.size, 0, none⟩ = some (.int .i64 x.id) := qqG.cell 0
        have qG1 : u2.cell? ⟨w2.heap.size, 1, none⟩ = some (.slice A x.vals.length c) := qqG.cell 1
        clear qqG
        have qqH := H9.below cc2 H9.lt
        have lH := qqH.lt
        have qH0 : u2.cell? ⟨w5.heap.size, 0, none⟩ = some (.int .i64 y.id) := qqH.cell 0
        have qH1 : u2.cell? ⟨w5.heap.size, 1, none⟩ = some (.slice A2 n2 c2) := qqH.cell 1
        clear qqH
        go_wp2_with fail
        with_reducible refine (F5.out (by first | rfl | trivial) _ (Y9.out.on RI.keeps cc2)).mono ?_
        rintro e u3 ⟨rfl, d3⟩
        have cc3 := cc2.trans (d3.mono cc2.size)
        clear d3
        have qqG := G9.below cc3 G9.lt
        have lG := qqG.lt
        have qG0 : u3.cell? ⟨w2.heap.size, 0, none⟩ = some (.int .i64 x.id) := qqG.cell 0
        have qG1 : u3.cell? ⟨w2.heap.size, 1, none⟩ = some (.slice A x.vals.length c) := qqG.cell 1
        clear qqG
        have qqH := H9.below cc3 H9.lt
        have lH := qqH.lt
        have qH0 : u3.cell? ⟨w5.heap.size, 0, none⟩ = some (.int .i64 y.id) := qqH.cell 0
        have qH1 : u3.cell? ⟨w5.heap.size, 1, none⟩ = some (.slice A2 n2 c2) := qqH.cell 1
        clear qqH
        go_wp2_with fail
        with_reducible refine (F7.out _ (L9.out.on RP.keeps cc3)).mono ?_
        rintro e u4 ⟨rfl, d4⟩
        have cc4 := cc3.trans (d4.mono cc3.size)
        clear d4
        go_wp2_with fail
        with_reducible refine (F8.out _ (L9.out.on RP.keeps cc4)).mono ?_
        rintro e u5 ⟨rfl, d5⟩
        have cc5 := cc4.trans (d5.mono cc4.size)
        clear d5
        go_wp2_with fail
        with_reducible refine (F10.out (by first | rfl | trivial) _ (Q9.out.on RP.keeps cc5)).mono ?_
        rintro e u6 ⟨rfl, d6⟩
        have cc6 := cc5.trans (d6.mono cc5.size)
        clear d6
        go_wp2
        go_meet
        exact ⟨rfl, cc6⟩
  case rest =>
    obtain ⟨rfl, b10⟩ := hcut
    clear es et lG qG0 qG1 lH qH0 qH1 F1 F2 F3 F4 F5 F6 F7 F8 F9 F10 X9 Y9 L9 Q9 G9 H9
    have B10 := B9.trans (b10.mono B9.size)
    clear b10 B9
    go_wp2_with fail
    with_reducible refine (drawFW _ (HS.out.on RB.keeps B10) hn0).mono ?_
    rintro e w11 ⟨g, A5, c5, E5, d5, rfl, hg1, hg2, HFG, b11⟩
    have B11 := B10.trans (b11.mono B10.size)
    clear b11 B10
    have bx := (Below.refl w11.heap.size w11).alloc (Nat.le_refl _) (.cells #[.int .i64 g.kind, .int .i64 g.field, .int .i64 g.value, .slice A5 g.list.length c5, .slice E5 g.pairs.length d5] 39)
    have G12 := Row.new w11 39 [.int .i64 g.kind, .int .i64 g.field, .int .i64 g.value, .slice A5 g.list.length c5, .slice E5 g.pairs.length d5]
    obtain ⟨w12, hw12⟩ : ∃ w12, w11.alloc (.cells #[.int .i64 g.kind, .int .i64 g.field, .int .i64 g.value, .slice A5 g.list.length c5, .slice E5 g.pairs.length d5] 39) = w12 := ⟨_, rfl⟩
    rw [hw12] at bx G12
    have HW12 := Lib.hid hw12
    have X12 := Lib.hid (hg1.on RI.keeps bx)
    have Y12 := Lib.hid (hg2.on RP.keeps bx)
    have B12 := B11.trans (bx.mono B11.size)
    obtain ⟨f1, f2, f3, f4, f5⟩ := HFG.out
    obtain ⟨s2, hs2⟩ : ∃ s2, Hid (wishS g = s2) := ⟨_, rfl⟩
    obtain ⟨tw, htw⟩ : ∃ tw, Hid (P.okW g = tw) := ⟨_, rfl⟩
    have HSZ2 : Hid (s2.size ≤ 1048576) := by show _ ≤ _; rw [← hs2.out]; have := wishS_size HFG.out; omega
    obtain ⟨k, hk⟩ : ∃ k, Hid (parW s2 = k) := ⟨_, rfl⟩
    have HRT := rt_wish g
    rw [hs2.out, htw.out, hk.out] at HRT
    have HFK : Hid (FitW k) := by have := parW_fit s2; rw [hk.out] at this; exact this
    obtain ⟨hr1, hr2⟩ := HRT
    have HR3 := Lib.hid hr1
    have HR4 := Lib.hid hr2
    have F1 : Hid (∀ w : World, Sl RI 1 w w.heap.size A5 g.list.length c5 g.list → Sl RP 2 w w.heap.size E5 g.pairs.length d5 g.pairs → Calls Try.prog 16 #[.agg #[.int .i64 g.kind, .int .i64 g.field, .int .i64 g.value, .slice A5 g.list.length c5, .slice E5 g.pairs.length d5]] w fun e w' => e = .returned (.string s2) ∧ Below w.heap.size w w') := fun w h h' => by rw [← hs2.out]; exact implFormatWish w h h' f1 f2 f3
    have F2 : Hid (∀ w : World, Sl RI 1 w w.heap.size A5 g.list.length c5 g.list → Sl RP 2 w w.heap.size E5 g.pairs.length d5 g.pairs → Calls Try.prog 21 #[.agg #[.int .i64 g.kind, .int .i64 g.field, .int .i64 g.value, .slice A5 g.list.length c5, .slice E5 g.pairs.length d5]] w fun e w' => e = .returned (.string s2) ∧ Below w.heap.size w w') := fun w h h' => by rw [← hs2.out]; exact specFormatWish w h h' f1 f2 f3
    have F3 : Hid (∀ w : World, Sl RI 1 w w.heap.size A5 g.list.length c5 g.list → Sl RP 2 w w.heap.size E5 g.pairs.length d5 g.pairs → Calls Try.prog 22 #[.agg #[.int .i64 g.kind, .int .i64 g.field, .int .i64 g.value, .slice A5 g.list.length c5, .slice E5 g.pairs.length d5]] w fun e w' => e = .returned (.bool tw) ∧ Below w.heap.size w w') := fun w h h' => by rw [← htw.out]; exact specIsWish w h h'
    have F4 : Hid (∀ w : World, Calls Try.prog 17 #[.string s2] w (RetWB w k tw)) := fun w => by rw [← hk.out, ← HR3.out]; exact implParseWish w HSZ2.out
    clear hg1 hg2 bx hr1 hr2 hw12 B11
    go_wp2_with fail
    rw [HW12.out]
    with_reducible refine (F1.out _ X12.out Y12.out).mono ?_
    rintro e w13 ⟨rfl, b13⟩
    have X13 := Lib.hid (X12.out.on RI.keeps b13)
    have Y13 := Lib.hid (Y12.out.on RP.keeps b13)
    have G13 := G12.below b13 G12.lt
    have B13 := B12.trans (b13.mono B12.size)
    clear X12 Y12 G12 b13 B12
    go_wp2_with fail
    with_reducible refine (F4.out _).mono ?_
    rintro e w14 ⟨vu, vv, rfl, ok, b14⟩
    have X14 := Lib.hid (X13.out.on RI.keeps b14)
    have Y14 := Lib.hid (Y13.out.on RP.keeps b14)
    have G14 := G13.below b14 G13.lt
    have B14 := B13.trans (b14.mono B13.size)
    clear X13 Y13 G13 b14 B13
    obtain ⟨⟨A6, n6, c6, rfl, hK1⟩, ⟨E6, m6, d6, rfl, hK2⟩⟩ := ok.read ⟨HFK.out.2.2.2.1, HFK.out.2.2.2.2⟩
    clear ok
    have bx := (Below.refl w14.heap.size w14).alloc (Nat.le_refl _) (.cells #[.int .i64 k.kind, .int .i64 k.field, .int .i64 k.value, .slice A6 n6 c6, .slice E6 m6 d6] 39)
    have H15 := Row.new w14 39 [.int .i64 k.kind, .int .i64 k.field, .int .i64 k.value, .slice A6 n6 c6, .slice E6 m6 d6]
    obtain ⟨w15, hw15⟩ : ∃ w15, w14.alloc (.cells #[.int .i64 k.kind, .int .i64 k.field, .int .i64 k.value, .slice A6 n6 c6, .slice E6 m6 d6] 39) = w15 := ⟨_, rfl⟩
    rw [hw15] at bx H15
    have HW15 := Lib.hid hw15
    have b15 := bx
    have Z15 := Lib.hid (hK1.on RI.keeps bx)
    have U15 := Lib.hid (hK2.on RP.keeps bx)
    clear bx hK1 hK2 hw15
    have X15 := Lib.hid (X14.out.on RI.keeps b15)
    have Y15 := Lib.hid (Y14.out.on RP.keeps b15)
    have G15 := G14.below b15 G14.lt
    have B15 := B14.trans (b15.mono B14.size)
    clear X14 Y14 G14 b15 B14
    have F5 : Hid (tw = true → ∀ w : World, Sl RI 1 w w.heap.size A6 n6 c6 k.list → Sl RP 2 w w.heap.size E6 m6 d6 k.pairs → Calls Try.prog 16 #[.agg #[.int .i64 k.kind, .int .i64 k.field, .int .i64 k.value, .slice A6 n6 c6, .slice E6 m6 d6]] w fun e w' => e = .returned (.string s2) ∧ Below w.heap.size w w') := fun ht w h h' => by rw [← HR4.out ht]; exact implFormatWish w h h' HFK.out.1 HFK.out.2.1 HFK.out.2.2.1
    go_wp2_with fail
    rw [HW15.out]
    with_reducible refine (drawFE _ (HS.out.on RB.keeps B15) hn0).mono ?_
    rintro e w16 ⟨vl, j, rfl, hL, b16⟩
    have X16 := Lib.hid (X15.out.on RI.keeps b16)
    have Y16 := Lib.hid (Y15.out.on RP.keeps b16)
    have Z16 := Lib.hid (Z15.out.on RI.keeps b16)
    have U16 := Lib.hid (U15.out.on RP.keeps b16)
    have G16 := G15.below b16 G15.lt
    have H16 := H15.below b16 H15.lt
    have B16 := B15.trans (b16.mono B15.size)
    clear X15 Y15 Z15 U15 G15 H15 b16 B15
    obtain ⟨A7, n7, c7, rfl, hL⟩ := hL
    have HFJ := Lib.hid (fitNs hL)
    have L16 := Lib.hid hL
    clear hL
    obtain ⟨r, hr⟩ : ∃ r, Hid (exprS j = r) := ⟨_, rfl⟩
    obtain ⟨te, hte⟩ : ∃ te, Hid (P.okE j = te) := ⟨_, rfl⟩
    have HRZ : Hid (r.size ≤ 1048576) := by show _ ≤ _; rw [← hr.out]; exact exprS_size HFJ.out
    obtain ⟨z, hz⟩ : ∃ z, Hid (parE r = z) := ⟨_, rfl⟩
    have HRE := rt_expr j
    rw [hr.out, hte.out, hz.out] at HRE
    have HFZ : Hid (∀ x ∈ z, FitN x) := by have := parE_fit r; rw [hz.out] at this; exact this
    obtain ⟨hr1, hr2⟩ := HRE
    have HE1 := Lib.hid hr1
    have HE2 := Lib.hid hr2
    clear hr1 hr2
    have F6 : Hid (∀ w : World, Sl RN 6 w w.heap.size A7 n7 c7 j → Calls Try.prog 19 #[.slice A7 n7 c7] w fun e w' => e = .returned (.string r) ∧ Below w.heap.size w w') := fun w h => by rw [← hr.out]; exact implFormatExpression w h
    have F7 : Hid (∀ w : World, Sl RN 6 w w.heap.size A7 n7 c7 j → Calls Try.prog 23 #[.slice A7 n7 c7] w fun e w' => e = .returned (.string r) ∧ Below w.heap.size w w') := fun w h => by rw [← hr.out]; exact specFormatExpression w h
    have F8 : Hid (∀ w : World, Sl RN 6 w w.heap.size A7 n7 c7 j → Calls Try.prog 24 #[.slice A7 n7 c7] w fun e w' => e = .returned (.bool te) ∧ Below w.heap.size w w') := fun w h => by rw [← hte.out]; exact specIsExpression w h
    have F9 : Hid (∀ w : World, Calls Try.prog 20 #[.string r] w (RetNd2 w z te)) := fun w => by rw [← hz.out, ← HE1.out]; exact implParseExpression w HRZ.out
    go_wp2_with fail
    with_reducible refine (F6.out _ L16.out).mono ?_
    rintro e w17 ⟨rfl, b17⟩
    have X17 := Lib.hid (X16.out.on RI.keeps b17)
    have Y17 := Lib.hid (Y16.out.on RP.keeps b17)
    have Z17 := Lib.hid (Z16.out.on RI.keeps b17)
    have U17 := Lib.hid (U16.out.on RP.keeps b17)
    have L17 := Lib.hid (L16.out.on RN.keeps b17)
    have G17 := G16.below b17 G16.lt
    have H17 := H16.below b17 H16.lt
    have B17 := B16.trans (b17.mono B16.size)
    clear X16 Y16 Z16 U16 L16 G16 H16 b17 B16
    go_wp2_with fail
    with_reducible refine (F9.out _).mono ?_
    rintro e w9 ⟨vq, rfl, oq, b9⟩
    have X9 := Lib.hid (X17.out.on RI.keeps b9)
    have Y9 := Lib.hid (Y17.out.on RP.keeps b9)
    have Z9 := Lib.hid (Z17.out.on RI.keeps b9)
    have U9 := Lib.hid (U17.out.on RP.keeps b9)
    have L9 := Lib.hid (L17.out.on RN.keeps b9)
    have G9 := G17.below b9 G17.lt
    have H9 := H17.below b9 H17.lt
    have B9 := B17.trans (b9.mono B17.size)
    clear X17 Y17 Z17 U17 L17 G17 H17 b9 B17
    obtain ⟨A8, n8, c8, rfl, hQ⟩ := oq.read HFZ.out
    have Q9 := Lib.hid hQ
    clear oq hQ
    have F10 : Hid (te = true → ∀ w : World, Sl RN 6 w w.heap.size A8 n8 c8 z → Sl RN 6 w w.heap.size A7 n7 c7 j → Calls Try.prog 25 #[.slice A8 n8 c8, .slice A7 n7 c7] w fun e w' => e = .returned (.bool true) ∧ Below w.heap.size w w') := fun h w hq hl => by
      have := implEqualExpressions w hq hl
      rwa [show decide (z = j) = true by rw [HE2.out h]; simp] at this
    have lG := G9.lt
    have qG0 : w9.cell? ⟨w11.heap.size, 0, none⟩ = some (.int .i64 g.kind) := G9.cell 0
    have qG1 : w9.cell? ⟨w11.heap.size, 1, none⟩ = some (.int .i64 g.field) := G9.cell 1
    have qG2 : w9.cell? ⟨w11.heap.size, 2, none⟩ = some (.int .i64 g.value) := G9.cell 2
    have qG3 : w9.cell? ⟨w11.heap.size, 3, none⟩ = some (.slice A5 g.list.length c5) := G9.cell 3
    have qG4 : w9.cell? ⟨w11.heap.size, 4, none⟩ = some (.slice E5 g.pairs.length d5) := G9.cell 4
    have lH := H9.lt
    have qH0 : w9.cell? ⟨w14.heap.size, 0, none⟩ = some (.int .i64 k.kind) := H9.cell 0
    have qH1 : w9.cell? ⟨w14.heap.size, 1, none⟩ = some (.int .i64 k.field) := H9.cell 1
    have qH2 : w9.cell? ⟨w14.heap.size, 2, none⟩ = some (.int .i64 k.value) := H9.cell 2
    have qH3 : w9.cell? ⟨w14.heap.size, 3, none⟩ = some (.slice A6 n6 c6) := H9.cell 3
    have qH4 : w9.cell? ⟨w14.heap.size, 4, none⟩ = some (.slice E6 m6 d6) := H9.cell 4
    have es := ba_yes (rfl : s2 = s2)
    have et := ba_yes (rfl : r = r)
    go_upto_region 17 with fail
    go_cut [146] (fun s146 wx => s146 = .bool false ∧ Below w9.heap.size w9 wx)
    case first =>
      cases tw with
      | false =>
        cases te with
        | false =>
          go_wp2_with fail
          with_reducible refine (F2.out _ X9.out Y9.out).mono ?_
          rintro e u1 ⟨rfl, d1⟩
          have cc1 := d1
          have qqG := G9.below cc1 G9.lt
          have lG := qqG.lt
          have qG0 : u1.cell? ⟨w11.heap.size, 0, none⟩ = some (.int .i64 g.kind) := qqG.cell 0
          have qG1 : u1.cell? ⟨w11.heap.size, 1, none⟩ = some (.int .i64 g.field) := qqG.cell 1
          have qG2 : u1.cell? ⟨w11.heap.size, 2, none⟩ = some (.int .i64 g.value) := qqG.cell 2
          have qG3 : u1.cell? ⟨w11.heap.size, 3, none⟩ = some (.slice A5 g.list.length c5) := qqG.cell 3
          have qG4 : u1.cell? ⟨w11.heap.size, 4, none⟩ = some (.slice E5 g.pairs.length d5) := qqG.cell 4
          clear qqG
          have qqH := H9.below cc1 H9.lt
          have lH := qqH.lt
          have qH0 : u1.cell? ⟨w14.heap.size, 0, none⟩ = some (.int .i64 k.kind) := qqH.cell 0
          have qH1 : u1.cell? ⟨w14.heap.size, 1, none⟩ = some (.int .i64 k.field) := qqH.cell 1
          have qH2 : u1.cell? ⟨w14.heap.size, 2, none⟩ = some (.int .i64 k.value) := qqH.cell 2
          have qH3 : u1.cell? ⟨w14.heap.size, 3, none⟩ = some (.slice A6 n6 c6) := qqH.cell 3
          have qH4 : u1.cell? ⟨w14.heap.size, 4, none⟩ = some (.slice E6 m6 d6) := qqH.cell 4
          clear qqH
          go_wp2_with fail
          with_reducible refine (F3.out _ (X9.out.on RI.keeps cc1) (Y9.out.on RP.keeps cc1)).mono ?_
          rintro e u2 ⟨rfl, d2⟩
          have cc2 := cc1.trans (d2.mono cc1.size)
          clear d2
          have qqG := G9.below cc2 G9.lt
          have lG := qqG.lt
          have qG0 : u2.cell? ⟨w11.heap.size, 0, none⟩ = some (.int .i64 g.kind) := qqG.cell 0
          have qG1 : u2.cell? ⟨w11.heap.size, 1, none⟩ = some (.int .i64 g.field) := qqG.cell 1
          have qG2 : u2.cell? ⟨w11.heap.size, 2, none⟩ = some (.int .i64 g.value) := qqG.cell 2
          have qG3 : u2.cell? ⟨w11.heap.size, 3, none⟩ = some (.slice A5 g.list.length c5) := qqG.cell 3
          have qG4 : u2.cell? ⟨w11.heap.size, 4, none⟩ = some (.slice E5 g.pairs.length d5) := qqG.cell 4
          clear qqG
          have qqH := H9.below cc2 H9.lt
          have lH := qqH.lt
          have qH0 : u2.cell? ⟨w14.heap.size, 0, none⟩ = some (.int .i64 k.kind) := qqH.cell 0
          have qH1 : u2.cell? ⟨w14.heap.size, 1, none⟩ = some (.int .i64 k.field) := qqH.cell 1
          have qH2 : u2.cell? ⟨w14.heap.size, 2, none⟩ = some (.int .i64 k.value) := qqH.cell 2
          have qH3 : u2.cell? ⟨w14.heap.size, 3, none⟩ = some (.slice A6 n6 c6) := qqH.cell 3
          have qH4 : u2.cell? ⟨w14.heap.size, 4, none⟩ = some (.slice E6 m6 d6) := qqH.cell 4
          clear qqH
          go_wp2_with fail
          with_reducible refine (F7.out _ (L9.out.on RN.keeps cc2)).mono ?_
          rintro e u3 ⟨rfl, d3⟩
          have cc3 := cc2.trans (d3.mono cc2.size)
          clear d3
          go_wp2_with fail
          with_reducible refine (F8.out _ (L9.out.on RN.keeps cc3)).mono ?_
          rintro e u4 ⟨rfl, d4⟩
          have cc4 := cc3.trans (d4.mono cc3.size)
          clear d4
          go_wp2
          go_meet
          exact ⟨rfl, cc4⟩
        | true =>
          go_wp2_with fail
          with_reducible refine (F2.out _ X9.out Y9.out).mono ?_
          rintro e u1 ⟨rfl, d1⟩
          have cc1 := d1
          have qqG := G9.below cc1 G9.lt
          have lG := qqG.lt
          have qG0 : u1.cell? ⟨w11.heap.size, 0, none⟩ = some (.int .i64 g.kind) := qqG.cell 0
          have qG1 : u1.cell? ⟨w11.heap.size, 1, none⟩ = some (.int .i64 g.field) := qqG.cell 1
          have qG2 : u1.cell? ⟨w11.heap.size, 2, none⟩ = some (.int .i64 g.value) := qqG.cell 2
          have qG3 : u1.cell? ⟨w11.heap.size, 3, none⟩ = some (.slice A5 g.list.length c5) := qqG.cell 3
          have qG4 : u1.cell? ⟨w11.heap.size, 4, none⟩ = some (.slice E5 g.pairs.length d5) := qqG.cell 4
          clear qqG
          have qqH := H9.below cc1 H9.lt
          have lH := qqH.lt
          have qH0 : u1.cell? ⟨w14.heap.size, 0, none⟩ = some (.int .i64 k.kind) := qqH.cell 0
          have qH1 : u1.cell? ⟨w14.heap.size, 1, none⟩ = some (.int .i64 k.field) := qqH.cell 1
          have qH2 : u1.cell? ⟨w14.heap.size, 2, none⟩ = some (.int .i64 k.value) := qqH.cell 2
          have qH3 : u1.cell? ⟨w14.heap.size, 3, none⟩ = some (.slice A6 n6 c6) := qqH.cell 3
          have qH4 : u1.cell? ⟨w14.heap.size, 4, none⟩ = some (.slice E6 m6 d6) := qqH.cell 4
          clear qqH
          go_wp2_with fail
          with_reducible refine (F3.out _ (X9.out.on RI.keeps cc1) (Y9.out.on RP.keeps cc1)).mono ?_
          rintro e u2 ⟨rfl, d2⟩
          have cc2 := cc1.trans (d2.mono cc1.size)
          clear d2
          have qqG := G9.below cc2 G9.lt
          have lG := qqG.lt
          have qG0 : u2.cell? ⟨w11.heap.size, 0, none⟩ = some (.int .i64 g.kind) := qqG.cell 0
          have qG1 : u2.cell? ⟨w11.heap.size, 1, none⟩ = some (.int .i64 g.field) := qqG.cell 1
          have qG2 : u2.cell? ⟨w11.heap.size, 2, none⟩ = some (.int .i64 g.value) := qqG.cell 2
          have qG3 : u2.cell? ⟨w11.heap.size, 3, none⟩ = some (.slice A5 g.list.length c5) := qqG.cell 3
          have qG4 : u2.cell? ⟨w11.heap.size, 4, none⟩ = some (.slice E5 g.pairs.length d5) := qqG.cell 4
          clear qqG
          have qqH := H9.below cc2 H9.lt
          have lH := qqH.lt
          have qH0 : u2.cell? ⟨w14.heap.size, 0, none⟩ = some (.int .i64 k.kind) := qqH.cell 0
          have qH1 : u2.cell? ⟨w14.heap.size, 1, none⟩ = some (.int .i64 k.field) := qqH.cell 1
          have qH2 : u2.cell? ⟨w14.heap.size, 2, none⟩ = some (.int .i64 k.value) := qqH.cell 2
          have qH3 : u2.cell? ⟨w14.heap.size, 3, none⟩ = some (.slice A6 n6 c6) := qqH.cell 3
          have qH4 : u2.cell? ⟨w14.heap.size, 4, none⟩ = some (.slice E6 m6 d6) := qqH.cell 4
          clear qqH
          go_wp2_with fail
          with_reducible refine (F7.out _ (L9.out.on RN.keeps cc2)).mono ?_
          rintro e u3 ⟨rfl, d3⟩
          have cc3 := cc2.trans (d3.mono cc2.size)
          clear d3
          go_wp2_with fail
          with_reducible refine (F8.out _ (L9.out.on RN.keeps cc3)).mono ?_
          rintro e u4 ⟨rfl, d4⟩
          have cc4 := cc3.trans (d4.mono cc3.size)
          clear d4
          go_wp2_with fail
          with_reducible refine (F10.out (by first | rfl | trivial) _ (Q9.out.on RN.keeps cc4) (L9.out.on RN.keeps cc4)).mono ?_
          rintro e u5 ⟨rfl, d5⟩
          have cc5 := cc4.trans (d5.mono cc4.size)
          clear d5
          go_wp2
          go_meet
          exact ⟨rfl, cc5⟩
      | true =>
        cases te with
        | false =>
          go_wp2_with fail
          with_reducible refine (F2.out _ X9.out Y9.out).mono ?_
          rintro e u1 ⟨rfl, d1⟩
          have cc1 := d1
          have qqG := G9.below cc1 G9.lt
          have lG := qqG.lt
          have qG0 : u1.cell? ⟨w11.heap.size, 0, none⟩ = some (.int .i64 g.kind) := qqG.cell 0
          have qG1 : u1.cell? ⟨w11.heap.size, 1, none⟩ = some (.int .i64 g.field) := qqG.cell 1
          have qG2 : u1.cell? ⟨w11.heap.size, 2, none⟩ = some (.int .i64 g.value) := qqG.cell 2
          have qG3 : u1.cell? ⟨w11.heap.size, 3, none⟩ = some (.slice A5 g.list.length c5) := qqG.cell 3
          have qG4 : u1.cell? ⟨w11.heap.size, 4, none⟩ = some (.slice E5 g.pairs.length d5) := qqG.cell 4
          clear qqG
          have qqH := H9.below cc1 H9.lt
          have lH := qqH.lt
          have qH0 : u1.cell? ⟨w14.heap.size, 0, none⟩ = some (.int .i64 k.kind) := qqH.cell 0
          have qH1 : u1.cell? ⟨w14.heap.size, 1, none⟩ = some (.int .i64 k.field) := qqH.cell 1
          have qH2 : u1.cell? ⟨w14.heap.size, 2, none⟩ = some (.int .i64 k.value) := qqH.cell 2
          have qH3 : u1.cell? ⟨w14.heap.size, 3, none⟩ = some (.slice A6 n6 c6) := qqH.cell 3
          have qH4 : u1.cell? ⟨w14.heap.size, 4, none⟩ = some (.slice E6 m6 d6) := qqH.cell 4
          clear qqH
          go_wp2_with fail
          with_reducible refine (F3.out _ (X9.out.on RI.keeps cc1) (Y9.out.on RP.keeps cc1)).mono ?_
          rintro e u2 ⟨rfl, d2⟩
          have cc2 := cc1.trans (d2.mono cc1.size)
          clear d2
          have qqG := G9.below cc2 G9.lt
          have lG := qqG.lt
          have qG0 : u2.cell? ⟨w11.heap.size, 0, none⟩ = some (.int .i64 g.kind) := qqG.cell 0
          have qG1 : u2.cell? ⟨w11.heap.size, 1, none⟩ = some (.int .i64 g.field) := qqG.cell 1
          have qG2 : u2.cell? ⟨w11.heap.size, 2, none⟩ = some (.int .i64 g.value) := qqG.cell 2
          have qG3 : u2.cell? ⟨w11.heap.size, 3, none⟩ = some (.slice A5 g.list.length c5) := qqG.cell 3
          have qG4 : u2.cell? ⟨w11.heap.size, 4, none⟩ = some (.slice E5 g.pairs.length d5) := qqG.cell 4
          clear qqG
          have qqH := H9.below cc2 H9.lt
          have lH := qqH.lt
          have qH0 : u2.cell? ⟨w14.heap.size, 0, none⟩ = some (.int .i64 k.kind) := qqH.cell 0
          have qH1 : u2.cell? ⟨w14.heap.size, 1, none⟩ = some (.int .i64 k.field) := qqH.cell 1
          have qH2 : u2.cell? ⟨w14.heap.size, 2, none⟩ = some (.int .i64 k.value) := qqH.cell 2
          have qH3 : u2.cell? ⟨w14.heap.size, 3, none⟩ = some (.slice A6 n6 c6) := qqH.cell 3
          have qH4 : u2.cell? ⟨w14.heap.size, 4, none⟩ = some (.slice E6 m6 d6) := qqH.cell 4
          clear qqH
          go_wp2_with fail
          with_reducible refine (F5.out (by first | rfl | trivial) _ (Z9.out.on RI.keeps cc2) (U9.out.on RP.keeps cc2)).mono ?_
          rintro e u3 ⟨rfl, d3⟩
          have cc3 := cc2.trans (d3.mono cc2.size)
          clear d3
          have qqG := G9.below cc3 G9.lt
          have lG := qqG.lt
          have qG0 : u3.cell? ⟨w11.heap.size, 0, none⟩ = some (.int .i64 g.kind) := qqG.cell 0
          have qG1 : u3.cell? ⟨w11.heap.size, 1, none⟩ = some (.int .i64 g.field) := qqG.cell 1
          have qG2 : u3.cell? ⟨w11.heap.size, 2, none⟩ = some (.int .i64 g.value) := qqG.cell 2
          have qG3 : u3.cell? ⟨w11.heap.size, 3, none⟩ = some (.slice A5 g.list.length c5) := qqG.cell 3
          have qG4 : u3.cell? ⟨w11.heap.size, 4, none⟩ = some (.slice E5 g.pairs.length d5) := qqG.cell 4
          clear qqG
          have qqH := H9.below cc3 H9.lt
          have lH := qqH.lt
          have qH0 : u3.cell? ⟨w14.heap.size, 0, none⟩ = some (.int .i64 k.kind) := qqH.cell 0
          have qH1 : u3.cell? ⟨w14.heap.size, 1, none⟩ = some (.int .i64 k.field) := qqH.cell 1
          have qH2 : u3.cell? ⟨w14.heap.size, 2, none⟩ = some (.int .i64 k.value) := qqH.cell 2
          have qH3 : u3.cell? ⟨w14.heap.size, 3, none⟩ = some (.slice A6 n6 c6) := qqH.cell 3
          have qH4 : u3.cell? ⟨w14.heap.size, 4, none⟩ = some (.slice E6 m6 d6) := qqH.cell 4
          clear qqH
          go_wp2_with fail
          with_reducible refine (F7.out _ (L9.out.on RN.keeps cc3)).mono ?_
          rintro e u4 ⟨rfl, d4⟩
          have cc4 := cc3.trans (d4.mono cc3.size)
          clear d4
          go_wp2_with fail
          with_reducible refine (F8.out _ (L9.out.on RN.keeps cc4)).mono ?_
          rintro e u5 ⟨rfl, d5⟩
          have cc5 := cc4.trans (d5.mono cc4.size)
          clear d5
          go_wp2
          go_meet
          exact ⟨rfl, cc5⟩
        | true =>
          go_wp2_with fail
          with_reducible refine (F2.out _ X9.out Y9.out).mono ?_
          rintro e u1 ⟨rfl, d1⟩
          have cc1 := d1
          have qqG := G9.below cc1 G9.lt
          have lG := qqG.lt
          have qG0 : u1.cell? ⟨w11.heap.size, 0, none⟩ = some (.int .i64 g.kind) := qqG.cell 0
          have qG1 : u1.cell? ⟨w11.heap.size, 1, none⟩ = some (.int .i64 g.field) := qqG.cell 1
          have qG2 : u1.cell? ⟨w11.heap.size, 2, none⟩ = some (.int .i64 g.value) := qqG.cell 2
          have qG3 : u1.cell? ⟨w11.heap.size, 3, none⟩ = some (.slice A5 g.list.length c5) := qqG.cell 3
          have qG4 : u1.cell? ⟨w11.heap.size, 4, none⟩ = some (.slice E5 g.pairs.length d5) := qqG.cell 4
          clear qqG
          have qqH := H9.below cc1 H9.lt
          have lH := qqH.lt
          have qH0 : u1.cell? ⟨w14.heap.size, 0, none⟩ = some (.int .i64 k.kind) := qqH.cell 0
          have qH1 : u1.cell? ⟨w14.heap.size, 1, none⟩ = some (.int .i64 k.field) := qqH.cell 1
          have qH2 : u1.cell? ⟨w14.heap.size, 2, none⟩ = some (.int .i64 k.value) := qqH.cell 2
          have qH3 : u1.cell? ⟨w14.heap.size, 3, none⟩ = some (.slice A6 n6 c6) := qqH.cell 3
          have qH4 : u1.cell? ⟨w14.heap.size, 4, none⟩ = some (.slice E6 m6 d6) := qqH.cell 4
          clear qqH
          go_wp2_with fail
          with_reducible refine (F3.out _ (X9.out.on RI.keeps cc1) (Y9.out.on RP.keeps cc1)).mono ?_
          rintro e u2 ⟨rfl, d2⟩
          have cc2 := cc1.trans (d2.mono cc1.size)
          clear d2
          have qqG := G9.below cc2 G9.lt
          have lG := qqG.lt
          have qG0 : u2.cell? ⟨w11.heap.size, 0, none⟩ = some (.int .i64 g.kind) := qqG.cell 0
          have qG1 : u2.cell? ⟨w11.heap.size, 1, none⟩ = some (.int .i64 g.field) := qqG.cell 1
          have qG2 : u2.cell? ⟨w11.heap.size, 2, none⟩ = some (.int .i64 g.value) := qqG.cell 2
          have qG3 : u2.cell? ⟨w11.heap.size, 3, none⟩ = some (.slice A5 g.list.length c5) := qqG.cell 3
          have qG4 : u2.cell? ⟨w11.heap.size, 4, none⟩ = some (.slice E5 g.pairs.length d5) := qqG.cell 4
          clear qqG
          have qqH := H9.below cc2 H9.lt
          have lH := qqH.lt
          have qH0 : u2.cell? ⟨w14.heap.size, 0, none⟩ = some (.int .i64 k.kind) := qqH.cell 0
          have qH1 : u2.cell? ⟨w14.heap.size, 1, none⟩ = some (.int .i64 k.field) := qqH.cell 1
          have qH2 : u2.cell? ⟨w14.heap.size, 2, none⟩ = some (.int .i64 k.value) := qqH.cell 2
          have qH3 : u2.cell? ⟨w14.heap.size, 3, none⟩ = some (.slice A6 n6 c6) := qqH.cell 3
          have qH4 : u2.cell? ⟨w14.heap.size, 4, none⟩ = some (.slice E6 m6 d6) := qqH.cell 4
          clear qqH
          go_wp2_with fail
          with_reducible refine (F5.out (by first | rfl | trivial) _ (Z9.out.on RI.keeps cc2) (U9.out.on RP.keeps cc2)).mono ?_
          rintro e u3 ⟨rfl, d3⟩
          have cc3 := cc2.trans (d3.mono cc2.size)
          clear d3
          have qqG := G9.below cc3 G9.lt
          have lG := qqG.lt
          have qG0 : u3.cell? ⟨w11.heap.size, 0, none⟩ = some (.int .i64 g.kind) := qqG.cell 0
          have qG1 : u3.cell? ⟨w11.heap.size, 1, none⟩ = some (.int .i64 g.field) := qqG.cell 1
          have qG2 : u3.cell? ⟨w11.heap.size, 2, none⟩ = some (.int .i64 g.value) := qqG.cell 2
          have qG3 : u3.cell? ⟨w11.heap.size, 3, none⟩ = some (.slice A5 g.list.length c5) := qqG.cell 3
          have qG4 : u3.cell? ⟨w11.heap.size, 4, none⟩ = some (.slice E5 g.pairs.length d5) := qqG.cell 4
          clear qqG
          have qqH := H9.below cc3 H9.lt
          have lH := qqH.lt
          have qH0 : u3.cell? ⟨w14.heap.size, 0, none⟩ = some (.int .i64 k.kind) := qqH.cell 0
          have qH1 : u3.cell? ⟨w14.heap.size, 1, none⟩ = some (.int .i64 k.field) := qqH.cell 1
          have qH2 : u3.cell? ⟨w14.heap.size, 2, none⟩ = some (.int .i64 k.value) := qqH.cell 2
          have qH3 : u3.cell? ⟨w14.heap.size, 3, none⟩ = some (.slice A6 n6 c6) := qqH.cell 3
          have qH4 : u3.cell? ⟨w14.heap.size, 4, none⟩ = some (.slice E6 m6 d6) := qqH.cell 4
          clear qqH
          go_wp2_with fail
          with_reducible refine (F7.out _ (L9.out.on RN.keeps cc3)).mono ?_
          rintro e u4 ⟨rfl, d4⟩
          have cc4 := cc3.trans (d4.mono cc3.size)
          clear d4
          go_wp2_with fail
          with_reducible refine (F8.out _ (L9.out.on RN.keeps cc4)).mono ?_
          rintro e u5 ⟨rfl, d5⟩
          have cc5 := cc4.trans (d5.mono cc4.size)
          clear d5
          go_wp2_with fail
          with_reducible refine (F10.out (by first | rfl | trivial) _ (Q9.out.on RN.keeps cc5) (L9.out.on RN.keeps cc5)).mono ?_
          rintro e u6 ⟨rfl, d6⟩
          have cc6 := cc5.trans (d6.mono cc5.size)
          clear d6
          go_wp2
          go_meet
          exact ⟨rfl, cc6⟩
    case rest =>
      obtain ⟨rfl, b18⟩ := hcut
      have B18 := B9.trans (b18.mono B9.size)
      clear es et lG qG0 qG1 qG2 qG3 qG4 lH qH0 qH1 qH2 qH3 qH4 F1 F2 F3 F4 F5 F6 F7 F8 F9 F10 X9 Y9 Z9 U9 L9 Q9 G9 H9 b18 B9 f1 f2 f3 f4 f5
      go_wp2_with fail
      with_reducible refine (drawEE _ (HS.out.on RB.keeps B18) hn0).mono ?_
      rintro e w19 ⟨va, vb, a, b, rfl, ⟨Aa, na, ca, rfl, ha⟩, ⟨Ab, nb, cb, rfl, hb⟩, b19⟩
      have B19 := B18.trans (b19.mono B18.size)
      have X19 := Lib.hid ha
      have Y19 := Lib.hid hb
      clear ha hb b19 B18
      go_wp2_with fail
      with_reducible refine (drawJE _ (HS.out.on RB.keeps B19) hn0).mono ?_
      rintro e w20 ⟨vc, vd, cc, dd, op, rfl, ⟨Ac, nc, cx, rfl, hc⟩, ⟨Ad, nd, dx, rfl, hd⟩, fo, b20⟩
      have X20 := Lib.hid (X19.out.on RN.keeps b20)
      have Y20 := Lib.hid (Y19.out.on RN.keeps b20)
      have B20 := B19.trans (b20.mono B19.size)
      clear X19 Y19 b20 B19
      have C20 := Lib.hid hc
      have D20 := Lib.hid hd
      have FR := Lib.hid (fit_join (fitNs hc) (fitNs hd) fo)
      obtain ⟨jb, hjb⟩ : ∃ jb, Hid (joinB cc dd op = jb) := ⟨_, rfl⟩
      obtain ⟨jr, hjr⟩ : ∃ jr, Hid (joinR cc dd op = jr) := ⟨_, rfl⟩
      rw [hjr.out] at FR
      have HJE : Hid (jb = true → P.okE jr = true) := fun h => by rw [← hjr.out]; exact okE_join (hjb.out.trans h)
      have J1 : Hid (∀ w : World, Sl RN 6 w w.heap.size Ac nc cx cc → Sl RN 6 w w.heap.size Ad nd dx dd → Calls Try.prog 28 #[.slice Ac nc cx, .slice Ad nd dx, .int .i64 op] w (RetNd2 w jr jb)) := fun w h h' => by rw [← hjr.out, ← hjb.out]; exact implJoinExpressions w h h' fo
      have J2 : Hid (∀ w : World, Sl RN 6 w w.heap.size Ac nc cx cc → Sl RN 6 w w.heap.size Ad nd dx dd → Calls Try.prog 29 #[.slice Ac nc cx, .slice Ad nd dx, .int .i64 op] w (RetNd2 w jr jb)) := fun w h h' => by rw [← hjr.out, ← hjb.out]; exact specJoinExpressions w h h' fo
      clear hc hd
      go_wp2_with fail
      with_reducible refine (J1.out _ C20.out D20.out).mono ?_
      rintro e w21 ⟨vj, rfl, oj, b21⟩
      have X21 := Lib.hid (X20.out.on RN.keeps b21)
      have Y21 := Lib.hid (Y20.out.on RN.keeps b21)
      have C21 := Lib.hid (C20.out.on RN.keeps b21)
      have D21 := Lib.hid (D20.out.on RN.keeps b21)
      have B21 := B20.trans (b21.mono B20.size)
      clear X20 Y20 C20 D20 b21 B20
      obtain ⟨Aj, nj, cj, rfl, hj⟩ := oj.read FR.out
      have J21 := Lib.hid hj
      clear oj hj
      go_wp2_with fail
      with_reducible refine (J2.out _ C21.out D21.out).mono ?_
      rintro e w22 ⟨vk, rfl, ok, b22⟩
      have X22 := Lib.hid (X21.out.on RN.keeps b22)
      have Y22 := Lib.hid (Y21.out.on RN.keeps b22)
      have C22 := Lib.hid (C21.out.on RN.keeps b22)
      have D22 := Lib.hid (D21.out.on RN.keeps b22)
      have J22 := Lib.hid (J21.out.on RN.keeps b22)
      have B22 := B21.trans (b22.mono B21.size)
      clear X21 Y21 C21 D21 J21 b22 B21
      obtain ⟨Ak, nk, ck, rfl, hk⟩ := ok.read FR.out
      have K22 := Lib.hid hk
      clear ok hk C22 D22
      go_wp2_with fail
      with_reducible refine (drawAI _ (HS.out.on RB.keeps B22) hn0).mono ?_
      rintro e w23 ⟨vi, li, rfl, ⟨Ai, ni, ci, rfl, hli⟩, HLI, b23⟩
      have X23 := Lib.hid (X22.out.on RN.keeps b23)
      have Y23 := Lib.hid (Y22.out.on RN.keeps b23)
      have J23 := Lib.hid (J22.out.on RN.keeps b23)
      have K23 := Lib.hid (K22.out.on RN.keeps b23)
      have B23 := B22.trans (b23.mono B22.size)
      clear X22 Y22 J22 K22 b23 B22
      have hni : ni ≤ 1048576 := by have := HLI.out; have := hli.len; omega
      have FI := Lib.hid (idsR_fit (fitIts hli))
      have I23 := Lib.hid hli
      clear hli
      obtain ⟨ta, hta⟩ : ∃ ta, Hid (P.okIs li = ta) := ⟨_, rfl⟩
      obtain ⟨tq, htq⟩ : ∃ tq, Hid (decide (a = b) = tq) := ⟨_, rfl⟩
      have E1 : Hid (∀ w : World, Sl RN 6 w w.heap.size Aa na ca a → Sl RN 6 w w.heap.size Ab nb cb b → Calls Try.prog 25 #[.slice Aa na ca, .slice Ab nb cb] w fun e w' => e = .returned (.bool tq) ∧ Below w.heap.size w w') := fun w h h' => by rw [← htq.out]; exact implEqualExpressions w h h'
      have E2 : Hid (∀ w : World, Sl RN 6 w w.heap.size Aa na ca a → Sl RN 6 w w.heap.size Ab nb cb b → Calls Try.prog 31 #[.slice Aa na ca, .slice Ab nb cb] w fun e w' => e = .returned (.bool tq) ∧ Below w.heap.size w w') := fun w h h' => by rw [← htq.out]; exact specEqualExpressions w h h'
      have E3 : Hid (∀ w : World, Sl RN 6 w w.heap.size Aj nj cj jr → Sl RN 6 w w.heap.size Ak nk ck jr → Calls Try.prog 31 #[.slice Aj nj cj, .slice Ak nk ck] w fun e w' => e = .returned (.bool true) ∧ Below w.heap.size w w') := fun w h h' => by
        have := specEqualExpressions w h h'
        rwa [show decide (jr = jr) = true by simp] at this
      have E4 : Hid (jb = true → ∀ w : World, Sl RN 6 w w.heap.size Aj nj cj jr → Calls Try.prog 32 #[.slice Aj nj cj] w fun e w' => e = .returned (.bool true) ∧ Below w.heap.size w w') := fun hb w h => by rw [← HJE.out hb]; exact implIsExpression w h
      have E5 : Hid (∀ w : World, Sl RIt 2 w w.heap.size Ai ni ci li → Calls Try.prog 33 #[.slice Ai ni ci] w fun e w' => e = .returned (.bool ta) ∧ Below w.heap.size w w') := fun w h => by rw [← hta.out]; exact implAreItems w h
      have E6 : Hid (∀ w : World, Sl RIt 2 w w.heap.size Ai ni ci li → Calls Try.prog 34 #[.slice Ai ni ci] w fun e w' => e = .returned (.bool ta) ∧ Below w.heap.size w w') := fun w h => by rw [← hta.out]; exact specAreItems w h
      have q1 : (tq == tq) = true := by simp
      have q2 : (ta == ta) = true := by simp
      cases jb with
      | false =>
        go_wp2_with fail
        with_reducible refine (E1.out _ X23.out Y23.out).mono ?_
        rintro e w24 ⟨rfl, b24⟩
        have X24 := Lib.hid (X23.out.on RN.keeps b24)
        have Y24 := Lib.hid (Y23.out.on RN.keeps b24)
        have J24 := Lib.hid (J23.out.on RN.keeps b24)
        have K24 := Lib.hid (K23.out.on RN.keeps b24)
        have I24 := Lib.hid (I23.out.on RIt.keeps b24)
        have B24 := B23.trans (b24.mono B23.size)
        clear X23 Y23 J23 K23 I23 b24 B23
        go_wp2_with fail
        with_reducible refine (E2.out _ X24.out Y24.out).mono ?_
        rintro e w25 ⟨rfl, b25⟩
        have X25 := Lib.hid (X24.out.on RN.keeps b25)
        have Y25 := Lib.hid (Y24.out.on RN.keeps b25)
        have J25 := Lib.hid (J24.out.on RN.keeps b25)
        have K25 := Lib.hid (K24.out.on RN.keeps b25)
        have I25 := Lib.hid (I24.out.on RIt.keeps b25)
        have B25 := B24.trans (b25.mono B24.size)
        clear X24 Y24 J24 K24 I24 b25 B24
        go_wp2_with fail
        with_reducible refine (E3.out _ J25.out K25.out).mono ?_
        rintro e w26 ⟨rfl, b26⟩
        have X26 := Lib.hid (X25.out.on RN.keeps b26)
        have Y26 := Lib.hid (Y25.out.on RN.keeps b26)
        have J26 := Lib.hid (J25.out.on RN.keeps b26)
        have K26 := Lib.hid (K25.out.on RN.keeps b26)
        have I26 := Lib.hid (I25.out.on RIt.keeps b26)
        have B26 := B25.trans (b26.mono B25.size)
        clear X25 Y25 J25 K25 I25 b26 B25
        go_wp2_with fail
        with_reducible refine (E5.out _ I26.out).mono ?_
        rintro e w27 ⟨rfl, b27⟩
        have X27 := Lib.hid (X26.out.on RN.keeps b27)
        have Y27 := Lib.hid (Y26.out.on RN.keeps b27)
        have J27 := Lib.hid (J26.out.on RN.keeps b27)
        have K27 := Lib.hid (K26.out.on RN.keeps b27)
        have I27 := Lib.hid (I26.out.on RIt.keeps b27)
        have B27 := B26.trans (b27.mono B26.size)
        clear X26 Y26 J26 K26 I26 b27 B26
        go_wp2_with fail
        with_reducible refine (E6.out _ I27.out).mono ?_
        rintro e w28 ⟨rfl, b28⟩
        have X28 := Lib.hid (X27.out.on RN.keeps b28)
        have Y28 := Lib.hid (Y27.out.on RN.keeps b28)
        have J28 := Lib.hid (J27.out.on RN.keeps b28)
        have K28 := Lib.hid (K27.out.on RN.keeps b28)
        have I28 := Lib.hid (I27.out.on RIt.keeps b28)
        have B28 := B27.trans (b28.mono B27.size)
        clear X27 Y27 J27 K27 I27 b28 B27
        go_wp2_with fail
        with_reducible refine (implIdsOf _ I28.out hni).mono ?_
        rintro e w29 ⟨vx, rfl, ox, b29⟩
        have X29 := Lib.hid (X28.out.on RN.keeps b29)
        have Y29 := Lib.hid (Y28.out.on RN.keeps b29)
        have J29 := Lib.hid (J28.out.on RN.keeps b29)
        have K29 := Lib.hid (K28.out.on RN.keeps b29)
        have I29 := Lib.hid (I28.out.on RIt.keeps b29)
        have B29 := B28.trans (b29.mono B28.size)
        clear X28 Y28 J28 K28 I28 b29 B28
        obtain ⟨Ax, nx, cy, rfl, hX⟩ := ox.read FI.out
        have HX := Lib.hid hX
        clear ox hX
        go_wp2_with fail
        with_reducible refine (specIdsOf _ I29.out hni).mono ?_
        rintro e w30 ⟨vz, rfl, oz, b30⟩
        have OX := Lib.hid (HX.out.on RI.keeps b30)
        have B30 := B29.trans (b30.mono B29.size)
        obtain ⟨Az, nz, cz, rfl, hZ⟩ := oz.read FI.out
        have HZ := Lib.hid hZ
        clear oz hZ
        go_wp2_with fail
        with_reducible refine (sameInts _ OX.out HZ.out).mono ?_
        rintro e w31 ⟨rfl, b31⟩
        have B31 := B30.trans (b31.mono B30.size)
        go_wp2
        go_ret
        exact ⟨rfl, B31⟩
      | true =>
        go_wp2_with fail
        with_reducible refine (E1.out _ X23.out Y23.out).mono ?_
        rintro e w24 ⟨rfl, b24⟩
        have X24 := Lib.hid (X23.out.on RN.keeps b24)
        have Y24 := Lib.hid (Y23.out.on RN.keeps b24)
        have J24 := Lib.hid (J23.out.on RN.keeps b24)
        have K24 := Lib.hid (K23.out.on RN.keeps b24)
        have I24 := Lib.hid (I23.out.on RIt.keeps b24)
        have B24 := B23.trans (b24.mono B23.size)
        clear X23 Y23 J23 K23 I23 b24 B23
        go_wp2_with fail
        with_reducible refine (E2.out _ X24.out Y24.out).mono ?_
        rintro e w25 ⟨rfl, b25⟩
        have X25 := Lib.hid (X24.out.on RN.keeps b25)
        have Y25 := Lib.hid (Y24.out.on RN.keeps b25)
        have J25 := Lib.hid (J24.out.on RN.keeps b25)
        have K25 := Lib.hid (K24.out.on RN.keeps b25)
        have I25 := Lib.hid (I24.out.on RIt.keeps b25)
        have B25 := B24.trans (b25.mono B24.size)
        clear X24 Y24 J24 K24 I24 b25 B24
        go_wp2_with fail
        with_reducible refine (E3.out _ J25.out K25.out).mono ?_
        rintro e w26 ⟨rfl, b26⟩
        have X26 := Lib.hid (X25.out.on RN.keeps b26)
        have Y26 := Lib.hid (Y25.out.on RN.keeps b26)
        have J26 := Lib.hid (J25.out.on RN.keeps b26)
        have K26 := Lib.hid (K25.out.on RN.keeps b26)
        have I26 := Lib.hid (I25.out.on RIt.keeps b26)
        have B26 := B25.trans (b26.mono B25.size)
        clear X25 Y25 J25 K25 I25 b26 B25
        go_wp2_with fail
        with_reducible refine (E4.out (by first | rfl | trivial) _ J26.out).mono ?_
        rintro e w27 ⟨rfl, b27⟩
        have X27 := Lib.hid (X26.out.on RN.keeps b27)
        have Y27 := Lib.hid (Y26.out.on RN.keeps b27)
        have J27 := Lib.hid (J26.out.on RN.keeps b27)
        have K27 := Lib.hid (K26.out.on RN.keeps b27)
        have I27 := Lib.hid (I26.out.on RIt.keeps b27)
        have B27 := B26.trans (b27.mono B26.size)
        clear X26 Y26 J26 K26 I26 b27 B26
        go_wp2_with fail
        with_reducible refine (E5.out _ I27.out).mono ?_
        rintro e w28 ⟨rfl, b28⟩
        have X28 := Lib.hid (X27.out.on RN.keeps b28)
        have Y28 := Lib.hid (Y27.out.on RN.keeps b28)
        have J28 := Lib.hid (J27.out.on RN.keeps b28)
        have K28 := Lib.hid (K27.out.on RN.keeps b28)
        have I28 := Lib.hid (I27.out.on RIt.keeps b28)
        have B28 := B27.trans (b28.mono B27.size)
        clear X27 Y27 J27 K27 I27 b28 B27
        go_wp2_with fail
        with_reducible refine (E6.out _ I28.out).mono ?_
        rintro e w29 ⟨rfl, b29⟩
        have X29 := Lib.hid (X28.out.on RN.keeps b29)
        have Y29 := Lib.hid (Y28.out.on RN.keeps b29)
        have J29 := Lib.hid (J28.out.on RN.keeps b29)
        have K29 := Lib.hid (K28.out.on RN.keeps b29)
        have I29 := Lib.hid (I28.out.on RIt.keeps b29)
        have B29 := B28.trans (b29.mono B28.size)
        clear X28 Y28 J28 K28 I28 b29 B28
        go_wp2_with fail
        with_reducible refine (implIdsOf _ I29.out hni).mono ?_
        rintro e w30 ⟨vx, rfl, ox, b30⟩
        have X30 := Lib.hid (X29.out.on RN.keeps b30)
        have Y30 := Lib.hid (Y29.out.on RN.keeps b30)
        have J30 := Lib.hid (J29.out.on RN.keeps b30)
        have K30 := Lib.hid (K29.out.on RN.keeps b30)
        have I30 := Lib.hid (I29.out.on RIt.keeps b30)
        have B30 := B29.trans (b30.mono B29.size)
        clear X29 Y29 J29 K29 I29 b30 B29
        obtain ⟨Ax, nx, cy, rfl, hX⟩ := ox.read FI.out
        have HX := Lib.hid hX
        clear ox hX
        go_wp2_with fail
        with_reducible refine (specIdsOf _ I30.out hni).mono ?_
        rintro e w31 ⟨vz, rfl, oz, b31⟩
        have OX := Lib.hid (HX.out.on RI.keeps b31)
        have B31 := B30.trans (b31.mono B30.size)
        obtain ⟨Az, nz, cz, rfl, hZ⟩ := oz.read FI.out
        have HZ := Lib.hid hZ
        clear oz hZ
        go_wp2_with fail
        with_reducible refine (sameInts _ OX.out HZ.out).mono ?_
        rintro e w32 ⟨rfl, b32⟩
        have B32 := B31.trans (b32.mono B31.size)
        go_wp2
        go_ret
        exact ⟨rfl, B32⟩
end Go.Proofs.Ytphbochfpidgeaa.Wk

namespace Go.Proofs.Ytphbochfpidgeaa
open Go Go.RowKit Go.ChangeShapes Go.WideShapes Go.Deep Go.Proofs.Ytphbochfpidgeaa.M

theorem cells_byte : Try.prog.cellsOf 5 = 1 := by kernel_rfl
section
variable {H : Type} {enc : TypeId × Value → H} {W : World} {b0 : Nat} {v : Value} {d : DataW H} {p : List MemPlace}
theorem op_byte {P : Program} {w : World} {base : Nat} {spare : Nat → Bool} {held : Bool} {e : TypeId} (he : P.underlying e = some (.int .u8)) {fuel : Nat} {cs : List Value} {x : DataW H × List MemPlace} (h : DataW.trod enc P w base spare held fuel e cs = some x) : ∃ a, RB w w.heap.size a cs := by
  obtain ⟨n, hcs, _, hw⟩ := DataW.trod_int he h
  simp [Lit.wf, IntKind.min, IntKind.max, IntKind.signed, IntKind.bits] at hw
  refine ⟨UInt8.ofNat n.toNat, ?_⟩
  show cs = [.int .u8 ((UInt8.ofNat n.toNat).toNat : Int)]
  have e : ((UInt8.ofNat n.toNat).toNat : Int) = n := by
    rw [UInt8.toNat_ofNat']
    omega
  rw [e]; exact hcs
set_option maxRecDepth 100000 in
theorem open_bytes (hv : Value.okWide Try.prog W .any b0 22 v) (h : DataW.Trod enc Try.prog W 0 (fun _ => true) true 22 v d p) : ∃ l, V RB 1 W W.heap.size v l :=
  trod_slice_V Try.underlying22 cells_byte (by omega) (fun _ _ _ hh => op_byte Try.underlying5 hh) hv h
end
end Go.Proofs.Ytphbochfpidgeaa

namespace Go.Proofs.Ytphbochfpidgeaa.LFnTexts
open Go.ChangeShapes Go.WideShapes Go.ChangeAt Go.RowKit
open Go.ChangeMaps (open_string shut_string)
set_option linter.unusedVariables false

theorem own : ownKnob Try.prog.godebug = none := by kernel_rfl
theorem laidOut : laidOutB Try.prog = true := by kernel_rfl

set_option maxRecDepth 100000 in
theorem lifted (os : Os) (started : os.Started) (H : Type) (enc : TypeId × Value → H) :
    ReturnsInHanded {} Try.checked os 3 .any (Rows.fnTextsSpec.pre6 enc Try.prog Try.f3 Rows.fnTextsRow.domain false) (Rows.fnTextsSpec.post enc Try.prog Try.f3 false true false false) := by
  refine returnsInHanded_of_change (C := Try.checked) own started (by kernel_rfl) Try.func3
    (ChangeSpec.witness6 (enc := enc) (C := Try.checked) false ⟨#[], #[.slice none 0 0], []⟩ 8 (by kernel_rfl) (by kernel_rfl) (by kernel_rfl) (by kernel_rfl)) ?_
  intro W base args ds gs before hval0 hW hcnd _
  have hval : ∀ (j : Nat) t v, Try.f3.params[j]? = some t → args[j]? = some v → Value.okWide Try.prog W .any base t v := hval0
  have hW' := hW
  obtain ⟨p, q, hA0, hV, rfl, hfz, hnd⟩ := hW
  have hA : DataW.TrodAll enc Try.prog W 0 (fun _ => true) true Try.f3.params.toList args.toList ds p := hA0
  rw [Try.params3] at hA hval
  obtain ⟨v0, vs0, d0, ds0, p0, q0, hargs, rfl, rfl, h0, r0⟩ := trodAll_cons hA
  obtain ⟨rfl, rfl, rfl⟩ := trodAll_nil r0
  obtain rfl : args = #[v0] := by cases args; simp_all
  obtain ⟨rfl, rfl⟩ := trodVars_none hV
  have k0 := h0
  have lt0 : ∀ x ∈ p0, x.block < W.heap.size := by obtain ⟨m, hm⟩ := k0; exact DataW.trod_lt m _ _ _ hm
  obtain ⟨l0, w0⟩ := open_bytes (hval 0 22 v0 rfl rfl) h0
  clear hA0 hval0
  refine (Wk.FnTexts (w := W) v0 l0 w0).mono fun e W' ⟨he, bel⟩ => ?_
  subst he
  exact ⟨_, rfl, _, _, _, [], _, [], hW', trodAll_mk1 (shut_bool Try.underlying4 _), (trodAll_cons_mk (Below.trod laidOut (by kernel_rfl) (of_decide_eq_true (by kernel_rfl)) k0 bel lt0) trodAll_mk0), rfl, bel.frame _, fun h => by cases h⟩

/-- The given statement. -/
theorem proved : Rows.FnTextsSaid :=
  OpenClaim.holds_of_wide 3 Try.f3 rfl rfl rfl rfl rfl rfl rfl ⟨rfl, rfl, rfl, rfl, rfl⟩ rfl rfl rfl rfl rfl (by as_aux_lemma => kernel_rfl) Try.func3 (by as_aux_lemma => kernel_rfl)
    (of_decide_eq_true (by as_aux_lemma => kernel_rfl)) (by unfold Func.isWrapper; first | (rw [if_pos (by decide +kernel)]; kernel_rfl) | (rw [if_neg (by decide +kernel)]; exact ⟨rfl, rfl⟩))
    (fun os started H enc _ => lifted os started H enc)
#print axioms proved
end Go.Proofs.Ytphbochfpidgeaa.LFnTexts
