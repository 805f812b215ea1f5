/-
  Walks of chapter 2: a text cut at another one; numbers read.
  Conditions: none beyond the bounds that each states.
-/
import Derived.Test.YtgjghpaenliliaaU2
import Derived.Test.YtgjghpaenliliaaU5
import Derived.Test.YtgjghpaenliliaaW11
import Derived.Test.YtgjghpaenliliaaW57
import Derived.Test.YtgjghpaenliliaaP19
import Derived.Maps.AppendAt
namespace Go.Proofs.Ytgjghpaenliliaa.Wk
open Go.RowKit Go.Proofs.Ytgjghpaenliliaa.M
set_option linter.unusedVariables false
attribute [local go_sem] cell_grow

/-! ### texts that a call laid -/
def OwnT (w : World) (lo hi : Nat) (v : Value) (l : List ByteArray) : Prop := w.ownsRow lo 9 1 v l.length (l.map Value.string) ∧ Und v hi
def RetT (w : World) (l : List ByteArray) (e : Ending) (w' : World) : Prop := ∃ v, e = .returned v ∧ OwnT w' w.heap.size w'.heap.size v l ∧ Below w.heap.size w w'
section
variable {w w' : World} {lo hi lo' hi' : Nat} {v : Value} {l : List ByteArray}
theorem OwnT.below (h : OwnT w lo hi v l) (hb : Below w.heap.size w w') : OwnT w' lo hi v l := ⟨own_below h.1 hb, h.2⟩
theorem OwnT.read (h : OwnT w lo hi v l) (hf : ∀ x ∈ l, x.size ≤ maxLen) : V RS 1 w w.heap.size v l := own_strs h.1 hf
end
theorem ba_test {a b : ByteArray} : (a.toList == b.toList) = true ↔ a = b := by
  rw [ByteArray.toList_eq, ByteArray.toList_eq, beq_iff_eq]
  exact ⟨fun h => P.ba_ext h, fun h => by rw [h]⟩
theorem ba_no {a b : ByteArray} (h : a ≠ b) : (a.toList == b.toList) = false := by
  cases e : (a.toList == b.toList) with
  | false => rfl
  | true => exact absurd (ba_test.1 e) h
theorem ba_yes {a b : ByteArray} (h : a = b) : (a.toList == b.toList) = true := ba_test.2 h
theorem str_app {xs : List ByteArray} {w : World} {base E : Nat} {v : Value} {x : ByteArray} {n : Nat} (h : w.ownsRow base E 1 v (n + 1) (xs.map Value.string ++ [.string x])) (hn : xs.length = n) : w.ownsRow base E 1 v (xs ++ [x]).length ((xs ++ [x]).map Value.string) := by
  rw [List.length_append, List.map_append]; subst hn; exact h
theorem ex_one {s : ByteArray} {i : Nat} (h : i < s.size) : s.extract i (i + 1) = ⟨#[s[i]]⟩ := by
  apply P.ba_ext
  rw [P.ex_list, show i + 1 - i = 1 by omega, List.take_one, List.head?_drop]
  have := getD_of h
  have h2 : i < s.data.toList.length := by rw [← P.size_list]; exact h
  rw [List.getElem?_eq_getElem h2]
  simp [List.getD, List.getElem?_eq_getElem h2] at this
  simp
  rfl
theorem ex_grow (s : ByteArray) {f i : Nat} (h : f ≤ i) (h2 : i < s.size) : s.extract f i ++ s.extract i (i + 1) = s.extract f (i + 1) := by
  apply P.ba_ext
  rw [P.ba_app, P.ex_list, P.ex_list, P.ex_list, show i + 1 - f = (i - f) + (i + 1 - i) by omega, List.take_add, List.drop_drop, show f + (i - f) = i by omega]
theorem ex_nil (s : ByteArray) (i : Nat) : s.extract i i = ⟨#[]⟩ := by
  apply P.ba_ext
  rw [P.ex_list, Nat.sub_self]; rfl
/-- A byte as a text, against a byte. -/
theorem one_ne {c d : UInt8} (h : c.toNat ≠ d.toNat) : (⟨#[c]⟩ : ByteArray) ≠ ⟨#[d]⟩ := by
  intro e
  injection e with e
  simp at e
  exact h (by rw [e])
theorem one_eq {c d : UInt8} (h : c.toNat = d.toNat) : (⟨#[c]⟩ : ByteArray) = ⟨#[d]⟩ := by
  rw [UInt8.toNat_inj.1 h]
set_option maxHeartbeats 1600000 in
set_option maxRecDepth 100000 in
theorem cut (w : World) {s b : ByteArray} (hs : s.size ≤ 1048576) (h0 : 0 < b.size) (h16 : b.size ≤ 16) : Calls Try.prog 52 #[.string s, .string b] w (RetT w (P.cut s b)) := by
  obtain ⟨i0, hi, hz0, hz1, hz2⟩ := info_parts info_str
  have HCL := Lib.hid (P.cut_len s b)
  have HCS := Lib.hid (P.cut_size s b)
  go_enter Try.func52, Try.ntmps52
  go_wp2
  go_loopw [5, 6, 7] (fun vo vf vi wr => ∃ (i fr : Nat) (done : List ByteArray), fr ≤ i ∧ i ≤ s.size ∧ vi = .int .i64 i ∧ vf = .int .i64 fr ∧ Hid (done ++ P.cutR s b i fr = P.cut s b) ∧ wr.ownsRow w.heap.size 9 1 vo done.length (done.map Value.string) ∧ Below w.heap.size w wr) (fun _ _ vi _ => s.size - (intOf vi).toNat)
  case atStart => exact ⟨0, 0, [], Nat.le_refl _, Nat.zero_le _, rfl, rfl, rfl, own_empty _ _, (Below.refl _ _).alloc (Nat.le_refl _) _⟩
  case round =>
    obtain ⟨i, fr, done, hfi, his, rfl, rfl, HD, hown, hbw⟩ := hrel
    have hsz := hbw.size
    have hdl : done.length ≤ s.size := by
      have h1 := HCL.out
      rw [← HD.out, List.length_append] at h1
      have := List.length_pos_iff.2 (P.cutR_ne (s := s) (b := b) _ i fr (Nat.le_refl _))
      omega
    obtain ⟨nb, hnb⟩ : ∃ nb, b.size = nb := ⟨_, rfl⟩
    rw [hnb] at h0 h16
    by_cases hend : i + nb ≤ s.size
    · by_cases e : s.extract i (i + nb) = b
      · have ht := ba_yes e
        have HD2 : Hid ((done ++ [s.extract fr i]) ++ P.cutR s b (i + nb) (i + nb) = P.cut s b) := by
          show _ = _
          rw [List.append_assoc, ← HD.out, P.cutR_hit (i := i) (fr := fr) (by omega) (by omega) (by rw [hnb]; exact e), hnb]; rfl
        clear e
        go_wp2_with (at_builtin; refine wpList_append_own _ rfl _ _ 59 rfl w.heap.size 9 i0 (.string ⟨#[]⟩) 1 16 Try.underlying59 hi hz0 hz1 hz2 rfl (by decide) _ _ _ rfl (hown.alloc _) ⟨wr.heap.size, 0, none⟩ 1 1 [_] rfl rfl (one_new _ _ _) (by simp [Value.oneCell']) (by unfold maxLen; omega) (by omega) (by simp; omega) ?_)
        intro v' w3 hown3 hgrow _
        have hbw3 := Lib.hid (app_below hbw hown hgrow)
        have hown4 := Lib.hid (str_app hown3 rfl)
        clear hown3 hgrow hown hbw
        go_wp2
        go_roundw
        case rel => exact ⟨i + nb, i + nb, _, by omega, by omega, by go_num, by go_num, HD2, hown4.out, hbw3.out⟩
        case measure => simp [intOf]; omega
      · have ht := ba_no e
        have HD2 : Hid (done ++ P.cutR s b (i + 1) fr = P.cut s b) := by
          show _ = _
          rw [← HD.out, P.cutR_miss (i := i) (by omega) (by omega) (by rw [hnb]; exact e)]
        clear e
        go_wp2
        go_roundw
        case rel => exact ⟨i + 1, fr, done, by omega, by omega, by go_num, rfl, HD2, hown, hbw⟩
        case measure => simp [intOf]; omega
    · have HD2 : Hid (done ++ [s.extract fr s.size] = P.cut s b) := by
        show _ = _
        rw [← HD.out, P.cutR_end (by omega)]
      go_wp2_with (at_builtin; refine wpList_append_own _ rfl _ _ 59 rfl w.heap.size 9 i0 (.string ⟨#[]⟩) 1 16 Try.underlying59 hi hz0 hz1 hz2 rfl (by decide) _ _ _ rfl (hown.alloc _) ⟨wr.heap.size, 0, none⟩ 1 1 [_] rfl rfl (one_new _ _ _) (by simp [Value.oneCell']) (by unfold maxLen; omega) (by omega) (by simp; omega) ?_)
      intro v' w3 hown3 hgrow _
      have hbw3 := Lib.hid (app_below hbw hown hgrow)
      have hown4 := str_app hown3 rfl
      rw [HD2.out] at hown4
      have HO := Lib.hid hown4
      clear hown3 hgrow hown hbw hown4
      go_wp2
      go_ret
      exact ⟨_, rfl, ⟨HO.out, own_und HO.out⟩, hbw3.out⟩
set_option maxHeartbeats 1600000 in
set_option maxRecDepth 100000 in
theorem l2Cut (w : World) {s : ByteArray} {b : UInt8} (hs : s.size ≤ 1048576) : Calls Try.prog 50 #[.string s, .int .u8 b.toNat] w (RetT w (P.cut s ⟨#[b]⟩)) := by
  obtain ⟨i0, hi, hz0, hz1, hz2⟩ := info_parts info_str
  have HCL := Lib.hid (P.cut_len s ⟨#[b]⟩)
  have HCS := Lib.hid (P.cut_size s ⟨#[b]⟩)
  have hb1 : (⟨#[b]⟩ : ByteArray).size = 1 := rfl
  go_enter Try.func50, Try.ntmps50
  go_wp2
  go_loopw [5, 6, 7] (fun vo vp vi wr => ∃ (i fr : Nat) (done : List ByteArray), fr ≤ i ∧ i ≤ s.size ∧ vi = .int .i64 i ∧ vp = .string (s.extract fr i) ∧ Hid (done ++ P.cutR s ⟨#[b]⟩ i fr = P.cut s ⟨#[b]⟩) ∧ wr.ownsRow w.heap.size 9 1 vo done.length (done.map Value.string) ∧ Below w.heap.size w wr) (fun _ _ vi _ => s.size - (intOf vi).toNat)
  case atStart => exact ⟨0, 0, [], Nat.le_refl _, Nat.zero_le _, rfl, by rw [ex_nil], rfl, own_empty _ _, (Below.refl _ _).alloc (Nat.le_refl _) _⟩
  case round =>
    obtain ⟨i, fr, done, hfi, his, rfl, rfl, HD, hown, hbw⟩ := hrel
    have hsz := hbw.size
    have hxs : (s.extract fr i).size ≤ s.size := by rw [ByteArray.size_extract]; omega
    have hdl : done.length ≤ s.size := by
      have h1 := HCL.out
      rw [← HD.out, List.length_append] at h1
      have := List.length_pos_iff.2 (P.cutR_ne (s := s) (b := ⟨#[b]⟩) _ i fr (Nat.le_refl _))
      omega
    by_cases hend : i < s.size
    · have HG := Lib.hid (ex_one hend)
      have HE := Lib.hid (ex_grow s hfi hend)
      have hx1 : (s.extract i (i + 1)).size = 1 := by rw [HG.out]; rfl
      by_cases e : s[i].toNat = b.toNat
      · have ht : ((s[i].toNat : Int) == (b.toNat : Int)) = true := by rw [e]; simp
        have HD2 : Hid ((done ++ [s.extract fr i]) ++ P.cutR s ⟨#[b]⟩ (i + 1) (i + 1) = P.cut s ⟨#[b]⟩) := by
          show _ = _
          rw [List.append_assoc, ← HD.out, P.cutR_hit (i := i) (by omega) (by omega) (by rw [hb1, HG.out]; exact one_eq e), hb1]; rfl
        have HN := Lib.hid (ex_nil s (i + 1))
        clear e
        go_wp2_with (at_builtin; refine wpList_append_own _ rfl _ _ 59 rfl w.heap.size 9 i0 (.string ⟨#[]⟩) 1 16 Try.underlying59 hi hz0 hz1 hz2 rfl (by decide) _ _ _ rfl (hown.alloc _) ⟨wr.heap.size, 0, none⟩ 1 1 [_] rfl rfl (one_new _ _ _) (by simp [Value.oneCell']) (by unfold maxLen; omega) (by omega) (by simp; omega) ?_)
        intro v' w3 hown3 hgrow _
        have hbw3 := Lib.hid (app_below hbw hown hgrow)
        have hown4 := Lib.hid (str_app hown3 rfl)
        clear hown3 hgrow hown hbw
        go_wp2
        go_roundw
        case rel => exact ⟨i + 1, i + 1, _, by omega, by omega, by go_num, vstr HN.out.symm, HD2, hown4.out, hbw3.out⟩
        case measure => simp [intOf]; omega
      · have ht : ((s[i].toNat : Int) == (b.toNat : Int)) = false := by simp; omega
        have HD2 : Hid (done ++ P.cutR s ⟨#[b]⟩ (i + 1) fr = P.cut s ⟨#[b]⟩) := by
          show _ = _
          rw [← HD.out, P.cutR_miss (i := i) (by omega) (by omega) (by rw [hb1, HG.out]; exact one_ne e)]
        clear e
        go_wp2
        go_roundw
        case rel => exact ⟨i + 1, fr, done, by omega, by omega, by go_num, rfl, HD2, hown, hbw⟩
        case measure => simp [intOf]; omega
    · have hie : i = s.size := by omega
      have HD2 : Hid (done ++ [s.extract fr i] = P.cut s ⟨#[b]⟩) := by
        show _ = _
        rw [← HD.out, P.cutR_end (by omega), hie]
      clear hie
      go_wp2_with (at_builtin; refine wpList_append_own _ rfl _ _ 59 rfl w.heap.size 9 i0 (.string ⟨#[]⟩) 1 16 Try.underlying59 hi hz0 hz1 hz2 rfl (by decide) _ _ _ rfl (hown.alloc _) ⟨wr.heap.size, 0, none⟩ 1 1 [_] rfl rfl (one_new _ _ _) (by simp [Value.oneCell']) (by unfold maxLen; omega) (by omega) (by simp; omega) ?_)
      intro v' w3 hown3 hgrow _
      have hbw3 := Lib.hid (app_below hbw hown hgrow)
      have hown4 := str_app hown3 rfl
      rw [HD2.out] at hown4
      have HO := Lib.hid hown4
      clear hown3 hgrow hown hbw hown4
      go_wp2
      go_ret
      exact ⟨_, rfl, ⟨HO.out, own_und HO.out⟩, hbw3.out⟩
/-- A number, or one that is none. -/
noncomputable def l2N (t : ByteArray) : Int := if piB t.data.toList then piN t.data.toList else -100000
theorem l2Num (w : World) {s : ByteArray} (hs : s.size ≤ maxLen) : Calls Try.prog 103 #[.string s] w fun e w' => e = .returned (.int .i64 (l2N s)) ∧ Below w.heap.size w w' := by
  have HE : ∀ b, piB s.data.toList = b → Hid (l2N s = if b then piN s.data.toList else -100000) := fun b hb => by show _ = _; unfold l2N; rw [hb]
  go_enter Try.func103, Try.ntmps103
  go_wp2_with fail
  refine (specParseInt s hs _).mono ?_
  rintro e w2 ⟨rfl, b2⟩
  cases hb : piB s.data.toList with
  | false =>
    have HE := HE _ hb
    go_wp2
    go_ret
    exact ⟨by rw [HE.out]; rfl, b2⟩
  | true =>
    have HE := HE _ hb
    go_wp2
    go_ret
    exact ⟨by rw [HE.out]; rfl, b2⟩
theorem piN_fit (l : List UInt8) : Fit (piN l) := by
  unfold piN
  cases h : P.pI l with
  | none => unfold Fit; simp
  | some n => have := P.pI_of h; unfold Fit; simp; omega
theorem l2N_fit (t : ByteArray) : Fit (l2N t) := by
  unfold l2N
  split
  · exact piN_fit _
  · unfold Fit; omega
/-- The numbers that the program reads. -/
noncomputable def rdN (s : ByteArray) : List Int := (P.cut s ⟨#[44]⟩).map fun t => piN t.data.toList
set_option maxHeartbeats 1600000 in
set_option maxRecDepth 100000 in
theorem readNumbers (w : World) {s : ByteArray} (hs : s.size ≤ 1048576) : Calls Try.prog 83 #[.string s] w (RetQs w (rdN s)) := by
  obtain ⟨i0, hi, hz0, hz1, hz2⟩ := info_parts info_i2
  have HCL := Lib.hid (P.cut_len s ⟨#[44]⟩)
  have HX := Lib.hid (P.cut_size s ⟨#[44]⟩)
  go_enter Try.func83, Try.ntmps83
  go_wp2_with fail
  refine (cut _ hs (by decide) (by decide)).mono ?_
  rintro e w2 ⟨vp, rfl, hP, b2⟩
  obtain ⟨A, c, rfl, _, _⟩ := own_form hP.1
  obtain ⟨n, hn⟩ : ∃ n, (P.cut s ⟨#[44]⟩).length = n := ⟨_, rfl⟩
  have HL := Lib.hid hn
  have hn1 : n ≤ 1048577 := by have := HL.out; have := HCL.out; omega
  have B2 := ((Below.refl w.heap.size w).alloc (Nat.le_refl _) (.cells #[] 3)).trans (b2.mono (by simp))
  have O2 := own_below (own_emptyS w 3 1) b2
  have hsz2 := B2.size
  have hP1 := Lib.hid hP.1
  have hP2 := Lib.hid hP.2
  simp only [World.size_alloc] at hP1
  clear hP b2
  rw [hn]
  rw [hn] at hP1 hP2
  go_wp2
  go_loopw [3, 5, 6, 7, 12] (fun vo _ _ _ vk wr => ∃ k : Nat, k ≤ n ∧ vk = .int .i64 k ∧ wr.ownsRow w.heap.size 3 1 vo k (((rdN s).take k).map (Value.int .i64)) ∧ Hid (wr.ownsRow (w.heap.size + 1) 9 1 (.slice A n c) n ((P.cut s ⟨#[44]⟩).map Value.string)) ∧ Hid (∀ q, vo.ownBlock = some q → q = w.heap.size ∨ w2.heap.size ≤ q) ∧ w2.heap.size ≤ wr.heap.size ∧ Below w.heap.size w wr) (fun _ _ _ _ vk _ => n - (intOf vk).toNat)
  case atStart => exact ⟨0, Nat.zero_le _, rfl, O2, hP1, fun q hq => .inl (by simp [Value.ownBlock] at hq; omega), Nat.le_refl _, B2⟩
  case round =>
    clear hP1
    obtain ⟨k, hk, rfl, hown, hpr, hq, hw2, hbw⟩ := hrel
    by_cases hlt : k < n
    · obtain ⟨A', n', c', e', hS⟩ := own_strs (xs := P.cut s ⟨#[44]⟩) (by rw [HL.out]; exact hpr.out) (fun x hx => by have := HX.out x hx; unfold maxLen; omega)
      injection e' with e1 e2 e3
      subst e1 e2 e3
      obtain ⟨b, o, x, rfl, hb, hx, hf, hc⟩ := hS.str hlt
      have hsz := hbw.size
      have HX2 : Hid ((rdN s)[k]? = some (piN x.data.toList)) := by show _ = _; unfold rdN; rw [List.getElem?_map, hx]; rfl
      have hxs : x.size ≤ maxLen := by have := HX.out x (List.mem_of_getElem? hx); unfold maxLen; omega
      clear hx hS
      go_wp2_with fail
      refine (implParseInt x hxs _).mono ?_
      rintro e w3 ⟨rfl, b3⟩
      have hown2 := own_below hown b3
      have hpr2 := Lib.hid (own_below hpr.out b3)
      have hbw2 := hbw.trans (b3.mono hsz)
      have hsz3 := hbw2.size
      have hw3 := Nat.le_trans hw2 b3.size
      clear hown hbw b3 hc
      go_wp2_with (at_builtin; refine wpList_append_own_at _ rfl _ _ 29 rfl w.heap.size 3 i0 (.int .i64 0) 1 8 Try.underlying29 hi hz0 hz1 hz2 rfl (by decide) _ _ _ rfl (hown2.alloc _) ⟨w3.heap.size, 0, none⟩ 1 1 [_] rfl rfl (one_new _ _ _) (by simp [Value.oneCell']) (by unfold maxLen; omega) (by omega) (by simp; omega) ?_)
      intro v' w4 hown4 hgrow _ hat
      have hbw4 := Lib.hid (app_below hbw2 hown2 hgrow)
      have hq4 : Hid (∀ q, v'.ownBlock = some q → q = w.heap.size ∨ w2.heap.size ≤ q) := by
        intro q hv
        rcases hat with hat | hat
        · exact hq.out q (hat.symm.trans hv)
        · rw [hat] at hv
          injection hv with hv
          refine .inr ?_
          omega
      have hw4 : w2.heap.size ≤ w4.heap.size := by have := hgrow.size; simp at this; omega
      have hpr4 := Lib.hid (own_grown (hpr2.out.alloc (.cells #[.int .i64 (piN x.data.toList)] 3)) hgrow (fun g hg hh => by
        have h1 := hP2.out g hg
        have h2 := (hpr2.out.lt g hg).1
        have h3 := hq.out g hh.symm
        omega))
      have hown5 : Hid (w4.ownsRow w.heap.size 3 1 v' (k + 1) (((rdN s).take (k + 1)).map (Value.int .i64))) := by
        refine Lib.hid ?_
        rw [← take_map_snoc HX2.out]
        simpa using hown4
      clear hown4 hgrow hown2 hbw2 hat
      go_wp2
      go_roundw
      case rel => exact ⟨k + 1, by omega, by go_num, hown5.out, hpr4, hq4, hw4, hbw4.out⟩
      case measure => simp [intOf]; omega
    · have hl : (rdN s).length = n := by unfold rdN; rw [List.length_map, HL.out]
      have hkn : k = n := by omega
      obtain ⟨A', c', hv, _, _⟩ := own_form hown
      subst hv
      have HO : Hid (OwnQ wr w.heap.size wr.heap.size (.slice A' k c') (rdN s)) := by
        rw [List.take_of_length_le (by omega)] at hown
        exact ⟨by rw [hl, ← hkn]; exact hown, own_und hown⟩
      clear hown
      go_wp2
      go_ret
      exact ⟨_, rfl, HO.out, hbw⟩
end Go.Proofs.Ytgjghpaenliliaa.Wk
