/-
  Walks of chapter 2: lists of items measured, copied, compared.
  Conditions: none beyond the bounds that each states.
-/
import Derived.Test.YtncaamjmidmmdaaW14
import Derived.Test.YtncaamjmidmmdaaM6
namespace Go.Proofs.Ytncaamjmidmmdaa.Wk
open Go.RowKit Go.Proofs.Ytncaamjmidmmdaa.M
set_option linter.unusedVariables false

/-- How many values a list of items holds, the items themselves counted too. -/
def totI : List It → Nat
  | [] => 0
  | x :: t => 1 + x.vals.length + totI t
def valsOf (l : List It) (k : Nat) : Nat := ((l.take k).map fun x => x.vals.length).sum
theorem valsOf_succ {l : List It} {k : Nat} {x : It} (hx : l[k]? = some x) : valsOf l (k + 1) = valsOf l k + x.vals.length := by
  have hl := (List.getElem?_eq_some_iff.1 hx).1
  unfold valsOf
  rw [List.take_succ_eq_append_getElem hl]
  rw [List.getElem?_eq_getElem hl] at hx
  injection hx with hx
  rw [hx]; simp
theorem totI_eq (l : List It) : totI l = l.length + valsOf l l.length := by
  have : ∀ l : List It, totI l = l.length + (l.map fun x => x.vals.length).sum := by
    intro l
    induction l with
    | nil => rfl
    | cons a t ih => simp only [totI, List.length_cons, List.map_cons, List.sum_cons]; omega
  rw [this]; unfold valsOf; rw [List.take_length]
theorem valsOf_le (l : List It) : ∀ k, valsOf l k ≤ valsOf l l.length := by
  intro k
  unfold valsOf
  rw [List.take_length]
  induction l generalizing k with
  | nil => simp
  | cons a t ih =>
    cases k with
    | zero => simp
    | succ k => simp only [List.take_succ_cons, List.map_cons, List.sum_cons]; have := ih k; omega
/-- Item k of a list in memory. -/
theorem itemAt {w : World} {B n c k : Nat} {A : Option Addr} {l : List It} (h : Sl RIt 2 w B A n c l) (hk : k < n) :
    ∃ b o x A1 n1 c1, A = some ⟨b, o, none⟩ ∧ b < B ∧ l[k]? = some x ∧ Fit x.id ∧ Sl RI 1 w B A1 n1 c1 x.vals ∧ w.cell? ⟨b, o + k * 2, none⟩ = some (.int .i64 x.id) ∧ w.cell? ⟨b, o + k * 2 + 1, none⟩ = some (.slice A1 n1 c1) := by
  obtain ⟨b, o, x, cs, e, hlt, hx, _, ⟨v, rfl, hf, A1, n1, c1, rfl, hs⟩, hc⟩ := h.get hk
  exact ⟨b, o, x, A1, n1, c1, e, hlt, hx, hf, hs, by simpa using hc 0 (.int .i64 x.id) rfl, by have := hc 1 (.slice A1 n1 c1) rfl; rwa [← Nat.add_assoc] at this⟩
set_option maxHeartbeats 800000 in
theorem szItemS {A : Option Addr} {n c : Nat} {l : List It} {left : Int} (w : World) (h : Sl RIt 2 w w.heap.size A n c l) (h0 : 0 ≤ left) (h1 : left ≤ 1048576) :
    Calls Try.prog 15 #[.slice A n c, .int .i64 left] w fun e w' => e = .returned (.int .i64 (less left (totI l))) ∧ Below w.heap.size w w' := by
  have hn := Nat.le_trans h.le h.max
  have HT := Lib.hid (totI_eq l)
  have HL := Lib.hid h.len
  unfold maxLen at hn
  by_cases hlt0 : left < n
  · have hv : less left (totI l) = -1 := by
      unfold less
      rw [if_pos (by rw [HT.out, HL.out]; omega)]
    have HV := Lib.hid hv
    clear hv h
    go_enter Try.func15, Try.ntmps15
    go_wp2
    go_ret
    exact ⟨ret_int HV.out.symm, Below.refl _ _⟩
  · go_enter Try.func15, Try.ntmps15
    go_wp2
    go_loopw [1, 5] (fun vl vi wr => ∃ k : Nat, k ≤ n ∧ vi = .int .i64 k ∧ vl = .int .i64 (left - n - valsOf l k) ∧ 0 ≤ left - n - (valsOf l k : Int) ∧ Below w.heap.size w wr) (fun _ vi _ => n - (intOf vi).toNat)
    case atStart => exact ⟨0, Nat.zero_le _, rfl, vint (by simp [valsOf]), by simp [valsOf]; omega, Below.refl _ _⟩
    case round =>
      obtain ⟨k, hk, rfl, rfl, hpos, hbw⟩ := hrel
      by_cases hlt : k < n
      · obtain ⟨b, o, x, A1, n1, c1, rfl, hb, hx, hf, hs, g0, g1⟩ := itemAt h hlt
        have e0 : wr.cell? ⟨b, o + k * 2, none⟩ = some (.int .i64 x.id) := (hbw.cell (p := ⟨b, o + k * 2, none⟩) hb).trans g0
        have e1 : wr.cell? ⟨b, o + k * 2 + 1, none⟩ = some (.slice A1 n1 c1) := (hbw.cell (p := ⟨b, o + k * 2 + 1, none⟩) hb).trans g1
        have hn1 := Nat.le_trans hs.le hs.max
        have HS := Lib.hid (valsOf_succ hx)
        have HN := Lib.hid hs.len
        have HLE := Lib.hid (valsOf_le l (k + 1))
        clear g0 g1 h hs hx
        by_cases hbad : left - n - (valsOf l k : Int) < n1
        · have hl : less (left - n - (valsOf l k : Int)) n1 = -1 := by unfold less; rw [if_pos hbad]
          have HV : Hid (less left (totI l) = -1) := by
            show _ = _
            unfold less
            have e1 := HT.out; have e2 := HL.out; have e3 := HS.out; have e4 := HN.out; have e5 := HLE.out
            rw [if_pos (by omega)]
          go_wp2_with fail
          refine (szItem hpos (by omega) hn1 _).mono ?_
          rintro e w2 ⟨rfl, hb2⟩
          rw [hl]
          have B2 := hbw.trans (hb2.mono hbw.size)
          clear hl hb2 hbw e0 e1
          go_wp2
          go_ret
          exact ⟨ret_int HV.out.symm, B2⟩
        · have hl : less (left - n - (valsOf l k : Int)) n1 = left - n - (valsOf l k : Int) - n1 := by unfold less; rw [if_neg hbad]
          go_wp2_with fail
          refine (szItem hpos (by omega) hn1 _).mono ?_
          rintro e w2 ⟨rfl, hb2⟩
          rw [hl]
          have B2 := hbw.trans (hb2.mono hbw.size)
          clear hl hb2 hbw e0 e1
          go_wp2
          go_roundw
          case rel => exact ⟨k + 1, by omega, by go_num, vint (by have := HS.out; have := HN.out; omega), by have := HS.out; have := HN.out; omega, B2⟩
          case measure => simp [intOf]; omega
      · have HV : Hid (less left (totI l) = left - n - valsOf l k) := by
          show _ = _
          unfold less
          have e1 := HT.out; have e2 := HL.out
          have hkn : k = l.length := by omega
          rw [hkn, if_neg (by rw [hkn] at hpos; omega)]
          rw [hkn] at hpos
          omega
        clear h
        go_wp2
        go_ret
        exact ⟨ret_int HV.out.symm, hbw⟩
theorem info_item : (Try.prog.info? 27).map (fun i => (i.zero, i.size, i.bytes)) = some (some (.agg #[.int .i64 0, .slice none 0 0]), 2, 32) := by kernel_rfl
/-- It returns a list of items that the call laid. -/
def RetIts (w : World) (l : List It) (e : Ending) (w' : World) : Prop := ∃ v, e = .returned v ∧ OwnIts w' w.heap.size 27 3 v l ∧ Below w.heap.size w w'
theorem made_items (n : Nat) : madeCells #[.int .i64 0, .slice none 0 0] (n * 2) = (itc (List.replicate n ((0 : Int), Value.slice none 0 0))).toArray := by
  apply Array.ext
  · rw [size_madeCells]; simp [itc_len]
  · intro j h1 h2
    have hj : j < n * 2 := by rw [size_madeCells] at h1; exact h1
    obtain ⟨a, b⟩ := itc_at (List.replicate n ((0 : Int), Value.slice none 0 0)) (j / 2) (0, .slice none 0 0) (by rw [List.getElem?_replicate, if_pos (by omega)])
    have e : (madeCells #[.int .i64 0, .slice none 0 0] (n * 2))[j] = (#[Value.int .i64 0, .slice none 0 0])[j % 2]! := by simp [madeCells]
    rw [e]
    rcases Nat.mod_two_eq_zero_or_one j with h0 | h0
    · rw [h0]
      rw [show j / 2 * 2 = j by omega] at a
      have := List.getElem?_eq_some_iff.1 a
      obtain ⟨_, hh⟩ := this
      simpa using hh.symm
    · rw [h0]
      rw [show j / 2 * 2 + 1 = j by omega] at b
      obtain ⟨_, hh⟩ := List.getElem?_eq_some_iff.1 b
      simpa using hh.symm
set_option maxHeartbeats 1600000 in
theorem toItemS {A : Option Addr} {n c : Nat} {l : List It} (w : World) (h : Sl RIt 2 w w.heap.size A n c l) (ht : totI l ≤ 1048576) : Calls Try.prog 17 #[.slice A n c] w (RetIts w l) := by
  obtain ⟨i0, hi, hz0, hz1, hz2⟩ := info_parts info_item
  have hn : n ≤ 1048576 := by have := totI_eq l; have := h.len; omega
  have hmk : ∀ w : World, (Instr.makeSlice 34 (.int .i64 (n : Int)) (.int .i64 (n : Int))).run Try.prog w = .ok (.slice (some ⟨w.heap.size, 0, none⟩) n n) (w.alloc (.cells (itc (List.replicate n ((0 : Int), Value.slice none 0 0))).toArray 27)) := fun w => by
    have := run_make (P := Try.prog) w 34 27 i0 _ Try.underlying34 hi hz0 .i64 .i64 n n (by omega) (by omega) (by rw [hz2]; omega) (by omega)
    rw [hz1] at this
    rw [← made_items]
    simpa [Value.cells] using this
  have hvl : ∀ k, valsOf l k ≤ 1048576 := fun k => by have := valsOf_le l k; have := totI_eq l; omega
  have HV := Lib.hid hvl
  have HL := Lib.hid h.len
  clear hvl
  go_enter Try.func17, Try.ntmps17
  go_wp2
  clear hmk
  go_loopw [4] (fun vi wr => ∃ (k : Nat) (ps : List (Int × Value)), k ≤ n ∧ vi = .int .i64 k ∧ OwnRows wr (w.heap.size + 1) 3 (l.take k) ps ∧ Row wr w.heap.size 27 (itc (ps ++ List.replicate (n - k) ((0 : Int), Value.slice none 0 0))) ∧ Below w.heap.size w wr)
    (fun vi _ => n - (intOf vi).toNat)
  case atStart => exact ⟨0, [], Nat.zero_le _, rfl, ⟨rfl, fun i x hx => by simp at hx, fun i j a b _ ha => by simp at ha⟩, Row.new w _ _, (Below.refl _ _).alloc (Nat.le_refl _) _⟩
  case round =>
    obtain ⟨k, ps, hk, rfl, hrows, hrow, hbw⟩ := hrel
    by_cases hlt : k < n
    · obtain ⟨b, o, x, A1, n1, c1, rfl, hb, hx, hf, hs, g0, g1⟩ := itemAt h hlt
      have e0 : wr.cell? ⟨b, o + k * 2, none⟩ = some (.int .i64 x.id) := (hbw.cell (p := ⟨b, o + k * 2, none⟩) hb).trans g0
      have e1 : wr.cell? ⟨b, o + k * 2 + 1, none⟩ = some (.slice A1 n1 c1) := (hbw.cell (p := ⟨b, o + k * 2 + 1, none⟩) hb).trans g1
      have hn1 : n1 ≤ 1048576 := by have := valsOf_succ hx; have := HV.out (k + 1); have := hs.len; omega
      have hS := hs.at_world RI.keeps hbw hbw.size
      have HX := Lib.hid hx
      clear g0 g1 hs hx h
      go_wp2_with fail
      refine (toItem _ hS hn1).mono ?_
      rintro e w2 ⟨v, rfl, hown, hb2⟩
      have hpl : ps.length = k := by have h1 := hrows.1; have h2 := HL.out; rw [List.length_take] at h1; omega
      have R2 := hrow.below hb2 hrow.lt
      have hat : (ps ++ List.replicate (n - k) ((0 : Int), Value.slice none 0 0))[k]? = some (0, .slice none 0 0) := by
        rw [List.getElem?_append_right (by omega), List.getElem?_replicate, if_pos (by omega)]
      obtain ⟨i0', i1'⟩ := itc_at _ k _ hat
      have c0 := (R2.cell (k * 2)).trans i0'
      have c1' := (R2.cell (k * 2 + 1)).trans i1'
      have f0 := R2.free (k * 2)
      have f1 := R2.free (k * 2 + 1)
      have hlw := R2.lt
      have ROWS := Lib.hid (((hrows.snoc HX.out hb2 hown (by have := hrow.lt; omega)).far (a := ⟨w.heap.size, k * 2, none⟩) (by simp) (.int .i64 x.id)).far (a := ⟨w.heap.size, k * 2 + 1, none⟩) (by simp) v)
      have ROW : Hid (Row ((w2.setCell ⟨w.heap.size, k * 2, none⟩ (.int .i64 x.id)).setCell ⟨w.heap.size, k * 2 + 1, none⟩ v) w.heap.size 27 (itc ((ps ++ [(x.id, v)]) ++ List.replicate (n - (k + 1)) ((0 : Int), Value.slice none 0 0)))) := by
        have := (R2.set (k * 2) (.int .i64 x.id)).set (k * 2 + 1) v
        rw [itc_set _ k (x.id, v)] at this
        rw [show n - k = (n - (k + 1)) + 1 by omega, ← hpl, set_at] at this
        rw [hpl] at this
        exact this
      have BEL := Lib.hid (((hbw.trans (hb2.mono hbw.size)).setCell (p := ⟨w.heap.size, k * 2, none⟩) (Nat.le_refl _) (.int .i64 x.id)).setCell (p := ⟨w.heap.size, k * 2 + 1, none⟩) (Nat.le_refl _) v)
      obtain ⟨A', c', rfl, _, _⟩ := own_form hown
      clear hrow hrows hbw hb2 hown R2 hat i0' i1' e0 e1 hS hpl
      go_wp2
      go_roundw
      case rel => exact ⟨k + 1, _, by omega, by go_num, ROWS.out, ROW.out, BEL.out⟩
      case measure => simp [intOf]; omega
    · have hkn : k = n := by omega
      have e : l.take k = l := List.take_of_length_le (by have := HL.out; omega)
      rw [e] at hrows
      rw [hkn, Nat.sub_self, List.replicate_zero, List.append_nil] at hrow
      have HR : Hid (OwnIts wr w.heap.size 27 3 (.slice (some ⟨w.heap.size, 0, none⟩) n n) l) := by
        refine ⟨ps, hrows, ?_, fun u hu => ?_⟩
        · rw [HL.out]
          exact hrow.own (Nat.le_refl _) (by rw [itc_len, hrows.1, HL.out]) (by unfold maxLen; omega)
        · obtain ⟨p, hp, rfl⟩ := List.mem_map.1 hu
          obtain ⟨i, hi⟩ := List.getElem?_of_mem hp
          have hil : i < l.length := by have := (List.getElem?_eq_some_iff.1 hi).1; have := hrows.1; omega
          obtain ⟨v, e1, ho⟩ := hrows.2.1 i l[i] (List.getElem?_eq_getElem hil)
          rw [hi] at e1
          injection e1 with e1
          subst e1
          cases hv : v.ownBlock with
          | none => exact .inl rfl
          | some g =>
            refine .inr fun hh => ?_
            have := (ho.lt g hv).1
            simp [Value.ownBlock] at hh
            omega
      clear hrow hrows h
      go_wp2
      go_ret
      exact ⟨_, rfl, HR.out, hbw⟩
end Go.Proofs.Ytncaamjmidmmdaa.Wk
