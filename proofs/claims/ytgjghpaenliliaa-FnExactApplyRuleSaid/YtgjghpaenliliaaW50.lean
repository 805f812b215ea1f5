/-
  Walks of chapter 5: nodes measured, copied, compared.
  Conditions: none beyond the bounds that each states.
-/
import Derived.Test.YtgjghpaenliliaaW40
import Derived.Test.YtgjghpaenliliaaM12
namespace Go.Proofs.Ytgjghpaenliliaa.Wk
open Go.RowKit Go.Proofs.Ytgjghpaenliliaa.M
set_option linter.unusedVariables false
attribute [local go_sem] cell_grow

/-- How many values a list of nodes holds, the nodes themselves counted too. -/
def totN : List Nd → Nat
  | [] => 0
  | x :: t => 1 + (x.wish.list.length + x.wish.pairs.length) + totN t
def valsN (l : List Nd) (k : Nat) : Nat := ((l.take k).map fun x => x.wish.list.length + x.wish.pairs.length).sum
theorem valsN_succ {l : List Nd} {k : Nat} {x : Nd} (hx : l[k]? = some x) : valsN l (k + 1) = valsN l k + (x.wish.list.length + x.wish.pairs.length) := by
  have hl := (List.getElem?_eq_some_iff.1 hx).1
  unfold valsN
  rw [List.take_succ_eq_append_getElem hl]
  rw [List.getElem?_eq_getElem hl] at hx
  injection hx with hx
  rw [hx]; simp
theorem totN_eq (l : List Nd) : totN l = l.length + valsN l l.length := by
  have : ∀ l : List Nd, totN l = l.length + (l.map fun x => x.wish.list.length + x.wish.pairs.length).sum := by
    intro l
    induction l with
    | nil => rfl
    | cons a t ih => simp only [totN, List.length_cons, List.map_cons, List.sum_cons]; omega
  rw [this]; unfold valsN; rw [List.take_length]
theorem valsN_le (l : List Nd) : ∀ k, valsN l k ≤ valsN l l.length := by
  intro k
  unfold valsN
  rw [List.take_length]
  induction l generalizing k with
  | nil => simp
  | cons a t ih =>
    cases k with
    | zero => simp
    | succ k => simp only [List.take_succ_cons, List.map_cons, List.sum_cons]; have := ih k; omega
abbrev nodeAgg (x : Nd) (u v : Value) : Value := .agg #[.int .i64 x.op, .int .i64 x.wish.kind, .int .i64 x.wish.field, .int .i64 x.wish.value, u, v]
set_option maxHeartbeats 800000 in
theorem sz_node {A E : Option Addr} {n c m d : Nat} {x : Nd} {left : Int} (w : World) (h : Sl RI 1 w w.heap.size A n c x.wish.list) (h' : Sl RP 2 w w.heap.size E m d x.wish.pairs) (h0 : 0 ≤ left) (h1 : left ≤ 1048576) :
    Calls Try.prog 23 #[.agg #[.int .i64 x.op, .int .i64 x.wish.kind, .int .i64 x.wish.field, .int .i64 x.wish.value, .slice A n c, .slice E m d], .int .i64 left] w fun e w' => e = .returned (.int .i64 (less left (x.wish.list.length + x.wish.pairs.length))) ∧ Below w.heap.size w w' := by
  have B1 := (Below.refl w.heap.size w).alloc (Nat.le_refl _) (.cells #[.int .i64 x.op, .int .i64 x.wish.kind, .int .i64 x.wish.field, .int .i64 x.wish.value, .slice A n c, .slice E m d] 49)
  have H := Lib.hid (h.on RI.keeps B1)
  have H' := Lib.hid (h'.on RP.keeps B1)
  clear h h'
  by_cases h2 : left < ((x.wish.list.length + x.wish.pairs.length : Nat) : Int)
  · have hv := less_no h2
    go_enter Try.func23, Try.ntmps23
    go_wp2_with (go_at_call 55; refine (sz_wish _ H.out H'.out h0 h1).mono ?_; rintro e w2 ⟨rfl, b2⟩; rw [hv])
    go_ret
    exact ⟨ret_int hv.symm, B1.trans (b2.mono B1.size)⟩
  · have hv := less_fit (left := left) (t := x.wish.list.length + x.wish.pairs.length) (by omega)
    have hpos : 0 ≤ left - ((x.wish.list.length + x.wish.pairs.length : Nat) : Int) := by omega
    go_enter Try.func23, Try.ntmps23
    go_wp2_with (go_at_call 55; refine (sz_wish _ H.out H'.out h0 h1).mono ?_; rintro e w2 ⟨rfl, b2⟩; rw [hv])
    go_ret
    exact ⟨ret_int hv.symm, B1.trans (b2.mono B1.size)⟩
set_option maxHeartbeats 800000 in
theorem sz_nodes {A : Option Addr} {n c : Nat} {l : List Nd} {left : Int} (w : World) (h : Sl RN 6 w w.heap.size A n c l) (h0 : 0 ≤ left) (h1 : left ≤ 1048576) :
    Calls Try.prog 7 #[.slice A n c, .int .i64 left] w fun e w' => e = .returned (.int .i64 (less left (totN l))) ∧ Below w.heap.size w w' := by
  have hn := Nat.le_trans h.le h.max
  have HT := Lib.hid (totN_eq l)
  have HL := Lib.hid h.len
  unfold maxLen at hn
  by_cases hlt0 : left < n
  · have hv : less left (totN l) = -1 := by
      unfold less
      rw [if_pos (by rw [HT.out, HL.out]; omega)]
    have HV := Lib.hid hv
    clear hv h
    go_enter Try.func7, Try.ntmps7
    go_wp2
    go_ret
    exact ⟨ret_int HV.out.symm, Below.refl _ _⟩
  · go_enter Try.func7, Try.ntmps7
    go_wp2
    go_loopw [1, 5] (fun vl vi wr => ∃ k : Nat, k ≤ n ∧ vi = .int .i64 k ∧ vl = .int .i64 (left - n - valsN l k) ∧ 0 ≤ left - n - (valsN l k : Int) ∧ Below w.heap.size w wr) (fun _ vi _ => n - (intOf vi).toNat)
    case atStart => exact ⟨0, Nat.zero_le _, rfl, vint (by simp [valsN]), by simp [valsN]; omega, Below.refl _ _⟩
    case round =>
      obtain ⟨k, hk, rfl, rfl, hpos, hbw⟩ := hrel
      by_cases hlt : k < n
      · obtain ⟨b, o, x, A1, n1, c1, E1, m1, d1, rfl, hb, hx, hf, hs, ht, g0, g1, g2, g3, g4, g5⟩ := nodeAt h hlt
        have e0 := ((cell_of hbw) b (o + k * 6) hb).trans g0
        have e1 := ((cell_of hbw) b (o + k * 6 + 1) hb).trans g1
        have e2 := ((cell_of hbw) b (o + k * 6 + 2) hb).trans g2
        have e3 := ((cell_of hbw) b (o + k * 6 + 3) hb).trans g3
        have e4 := ((cell_of hbw) b (o + k * 6 + 4) hb).trans g4
        have e5 := ((cell_of hbw) b (o + k * 6 + 5) hb).trans g5
        have HS := Lib.hid (valsN_succ hx)
        have HI := Lib.hid (hs.on RI.keeps hbw)
        have HP := Lib.hid (ht.on RP.keeps hbw)
        have HLE := Lib.hid (valsN_le l (k + 1))
        clear g0 g1 g2 g3 g4 g5 h hs ht hx
        by_cases hbad : left - n - (valsN l k : Int) < ((x.wish.list.length + x.wish.pairs.length : Nat) : Int)
        · have hl := less_no hbad
          have HV : Hid (less left (totN l) = -1) := by
            show _ = _
            unfold less
            have e1 := HT.out; have e2 := HL.out; have e3 := HS.out; have e5 := HLE.out
            rw [if_pos (by omega)]
          go_wp2_with fail
          refine (sz_node _ HI.out HP.out hpos (by omega)).mono ?_
          rintro e w2 ⟨rfl, hb2⟩
          rw [hl]
          have B2 := hbw.trans (hb2.mono hbw.size)
          clear hl hb2 hbw e0 e1 e2 e3 e4 e5
          go_wp2
          go_ret
          exact ⟨ret_int HV.out.symm, B2⟩
        · have hl := less_fit (left := left - n - (valsN l k : Int)) (t := x.wish.list.length + x.wish.pairs.length) (by omega)
          go_wp2_with fail
          refine (sz_node _ HI.out HP.out hpos (by omega)).mono ?_
          rintro e w2 ⟨rfl, hb2⟩
          rw [hl]
          have B2 := hbw.trans (hb2.mono hbw.size)
          have hp2 : 0 ≤ left - n - (valsN l k : Int) - ((x.wish.list.length + x.wish.pairs.length : Nat) : Int) := by omega
          clear hl hb2 hbw e0 e1 e2 e3 e4 e5
          go_wp2
          go_roundw
          case rel => exact ⟨k + 1, by omega, by go_num, vint (by have := HS.out; omega), by have := HS.out; omega, B2⟩
          case measure => simp [intOf]; omega
      · have HV : Hid (less left (totN l) = left - n - valsN l k) := by
          show _ = _
          unfold less
          have e1 := HT.out; have e2 := HL.out
          have hkn : k = l.length := by omega
          rw [hkn, if_neg (by rw [hkn] at hpos; omega)]
          rw [hkn] at hpos
          omega
        clear h
        go_wp2
        go_ret
        exact ⟨ret_int HV.out.symm, hbw⟩
theorem info_node : (Try.prog.info? 55).map (fun i => (i.zero, i.size, i.bytes)) = some (some (.agg #[.int .i64 0, .int .i64 0, .int .i64 0, .int .i64 0, .slice none 0 0, .slice none 0 0]), 6, 80) := by kernel_rfl
def zeroN : NdC := (⟨0, ⟨0, 0, 0, [], []⟩⟩, .slice none 0 0, .slice none 0 0)
theorem made_nodes (n : Nat) : madeCells #[.int .i64 0, .int .i64 0, .int .i64 0, .int .i64 0, .slice none 0 0, .slice none 0 0] (n * 6) = (ndc (List.replicate n zeroN)).toArray := by
  apply Array.ext
  · rw [size_madeCells]; simp [ndc_len]
  · intro j h1 h2
    have hj : j < n * 6 := by rw [size_madeCells] at h1; exact h1
    obtain ⟨a0, a1, a2, a3, a4, a5⟩ := ndc_at (List.replicate n zeroN) (j / 6) zeroN (by rw [List.getElem?_replicate, if_pos (by omega)])
    have e : (madeCells #[.int .i64 0, .int .i64 0, .int .i64 0, .int .i64 0, .slice none 0 0, .slice none 0 0] (n * 6))[j] = (#[Value.int .i64 0, .int .i64 0, .int .i64 0, .int .i64 0, .slice none 0 0, .slice none 0 0])[j % 6]! := by simp [madeCells]
    rw [e]
    have key : ∀ r, r < 6 → j % 6 = r → j = j / 6 * 6 + r := fun r _ h => by omega
    have hr : j % 6 < 6 := Nat.mod_lt _ (by decide)
    rcases (by omega : j % 6 = 0 ∨ j % 6 = 1 ∨ j % 6 = 2 ∨ j % 6 = 3 ∨ j % 6 = 4 ∨ j % 6 = 5) with h0 | h0 | h0 | h0 | h0 | h0
    · rw [h0]; rw [show j / 6 * 6 = j by omega] at a0; obtain ⟨_, hh⟩ := List.getElem?_eq_some_iff.1 a0; simpa [zeroN] using hh.symm
    · rw [h0]; rw [show j / 6 * 6 + 1 = j by omega] at a1; obtain ⟨_, hh⟩ := List.getElem?_eq_some_iff.1 a1; simpa [zeroN] using hh.symm
    · rw [h0]; rw [show j / 6 * 6 + 2 = j by omega] at a2; obtain ⟨_, hh⟩ := List.getElem?_eq_some_iff.1 a2; simpa [zeroN] using hh.symm
    · rw [h0]; rw [show j / 6 * 6 + 3 = j by omega] at a3; obtain ⟨_, hh⟩ := List.getElem?_eq_some_iff.1 a3; simpa [zeroN] using hh.symm
    · rw [h0]; rw [show j / 6 * 6 + 4 = j by omega] at a4; obtain ⟨_, hh⟩ := List.getElem?_eq_some_iff.1 a4; simpa [zeroN] using hh.symm
    · rw [h0]; rw [show j / 6 * 6 + 5 = j by omega] at a5; obtain ⟨_, hh⟩ := List.getElem?_eq_some_iff.1 a5; simpa [zeroN] using hh.symm
/-- It returns a node by value, whose rows are the call's own. -/
def RetNO (w : World) (x : Nd) (e : Ending) (w' : World) : Prop :=
  ∃ u v, e = .returned (.agg #[.int .i64 x.op, .int .i64 x.wish.kind, .int .i64 x.wish.field, .int .i64 x.wish.value, u, v]) ∧ OwnW w' w.heap.size 3 92 x.wish u v ∧ Below w.heap.size w w'
set_option maxHeartbeats 1600000 in
theorem toNode {A E : Option Addr} {n c m d : Nat} {x : Nd} (w : World) (h : Sl RI 1 w w.heap.size A n c x.wish.list) (g : Sl RP 2 w w.heap.size E m d x.wish.pairs) (ht : x.wish.list.length + x.wish.pairs.length ≤ 1048576) :
    Calls Try.prog 27 #[.agg #[.int .i64 x.op, .int .i64 x.wish.kind, .int .i64 x.wish.field, .int .i64 x.wish.value, .slice A n c, .slice E m d]] w (RetNO w x) := by
  have hb3 : ∀ o1 o2 o3, Below w.heap.size w (((w.alloc o1).alloc o2).alloc o3) := fun o1 o2 o3 => (((Below.refl _ _).alloc (Nat.le_refl _) _).alloc (by simp) _).alloc (by simp; omega) _
  go_enter Try.func27, Try.ntmps27
  go_wp2_with fail
  refine (toWish (x := x.wish) _ (h.on RI.keeps (hb3 _ _ _)) (g.on RP.keeps (hb3 _ _ _)) ht).mono ?_
  rintro e w1 ⟨v1, v2, rfl, ho, b1⟩
  obtain ⟨A1, c1, rfl, _, _⟩ := own_form ho.1
  obtain ⟨E1, d1, rfl, _, _⟩ := own_form ho.2.1
  have B0 := hb3 (.cells [Value.int .i64 x.op, .int .i64 x.wish.kind, .int .i64 x.wish.field, .int .i64 x.wish.value, .slice A n c, .slice E m d].toArray 49) (.cells [Value.int .i64 0, .int .i64 0, .int .i64 0, .int .i64 0, .slice none 0 0, .slice none 0 0].toArray 55) (.cells [Value.int .i64 x.op, .int .i64 0, .int .i64 0, .int .i64 0, .slice none 0 0, .slice none 0 0].toArray 55)
  have R1 := ((Row.new (w.alloc (.cells [Value.int .i64 x.op, .int .i64 x.wish.kind, .int .i64 x.wish.field, .int .i64 x.wish.value, .slice A n c, .slice E m d].toArray 49)) 55 [.int .i64 0, .int .i64 0, .int .i64 0, .int .i64 0, .slice none 0 0, .slice none 0 0]).alloc (.cells [Value.int .i64 x.op, .int .i64 0, .int .i64 0, .int .i64 0, .slice none 0 0, .slice none 0 0].toArray 55)).below b1 (by simp)
  have R2 := (Row.new ((w.alloc (.cells [Value.int .i64 x.op, .int .i64 x.wish.kind, .int .i64 x.wish.field, .int .i64 x.wish.value, .slice A n c, .slice E m d].toArray 49)).alloc (.cells [Value.int .i64 0, .int .i64 0, .int .i64 0, .int .i64 0, .slice none 0 0, .slice none 0 0].toArray 55)) 55 [.int .i64 x.op, .int .i64 0, .int .i64 0, .int .i64 0, .slice none 0 0, .slice none 0 0]).below b1 (by simp)
  have BB := Lib.hid (B0.trans (b1.mono B0.size))
  simp only [World.size_alloc] at R1 R2 ho
  have O := Lib.hid ho
  have z1 := R1.lt
  have z2 := R2.lt
  have c10 := R1.cell 0
  have f10 := R1.free 0
  have c20 := R2.cell 0
  have f20 := R2.free 0
  have c11 := R1.cell 1
  have f11 := R1.free 1
  have c21 := R2.cell 1
  have f21 := R2.free 1
  have c12 := R1.cell 2
  have f12 := R1.free 2
  have c22 := R2.cell 2
  have f22 := R2.free 2
  have c13 := R1.cell 3
  have f13 := R1.free 3
  have c23 := R2.cell 3
  have f23 := R2.free 3
  have c14 := R1.cell 4
  have f14 := R1.free 4
  have c24 := R2.cell 4
  have f24 := R2.free 4
  have c15 := R1.cell 5
  have f15 := R1.free 5
  have c25 := R2.cell 5
  have f25 := R2.free 5
  simp at c10 c20 c11 c21 c12 c22 c13 c23 c14 c24 c15 c25
  clear R1 R2 B0 b1 ho hb3 h g
  go_wp2
  refine bodyPost_ret (v := .agg #[.int .i64 x.op, .int .i64 x.wish.kind, .int .i64 x.wish.field, .int .i64 x.wish.value, .slice A1 x.wish.list.length c1, .slice E1 x.wish.pairs.length d1]) (by simp [results, Try.results27, go_sem, c10, c11, c12, c13, c14, c15]) rfl ?_
  refine ⟨_, _, rfl, OwnW.mono (lo := w.heap.size + 1 + 1 + 1) ?_ (by omega), ?_⟩
  · repeat (refine OwnW.far ?_ (by first | (simp; done) | (simp; omega)) _)
    exact O.out
  · repeat (refine Below.setCell ?_ (by first | (simp; done) | (simp; omega)) _)
    exact BB.out
/-- It returns a list of nodes that the call laid. -/
def RetNs (w : World) (l : List Nd) (e : Ending) (w' : World) : Prop := ∃ v, e = .returned v ∧ OwnN w' w.heap.size 55 3 92 v l ∧ Below w.heap.size w w'
set_option maxHeartbeats 1600000 in
theorem toNodeS {A : Option Addr} {n c : Nat} {l : List Nd} (w : World) (h : Sl RN 6 w w.heap.size A n c l) (ht : totN l ≤ 1048576) : Calls Try.prog 9 #[.slice A n c] w (RetNs w l) := by
  obtain ⟨i0, hi, hz0, hz1, hz2⟩ := info_parts info_node
  have hn : n ≤ 1048576 := by have := totN_eq l; have := h.len; omega
  have hmk : ∀ w : World, (Instr.makeSlice 25 (.int .i64 (n : Int)) (.int .i64 (n : Int))).run Try.prog w = .ok (.slice (some ⟨w.heap.size, 0, none⟩) n n) (w.alloc (.cells (ndc (List.replicate n zeroN)).toArray 55)) := fun w => by
    have := run_make (P := Try.prog) w 25 55 i0 _ Try.underlying25 hi hz0 .i64 .i64 n n (by omega) (by omega) (by rw [hz2]; omega) (by omega)
    rw [hz1] at this
    rw [← made_nodes]
    simpa [Value.cells] using this
  have hvl : ∀ k, valsN l k ≤ 1048576 := fun k => by have := valsN_le l k; have := totN_eq l; omega
  have HV := Lib.hid hvl
  have HL := Lib.hid h.len
  clear hvl
  go_enter Try.func9, Try.ntmps9
  go_wp2
  clear hmk
  go_loopw [4] (fun vi wr => ∃ (k : Nat) (ps : List NdC), k ≤ n ∧ vi = .int .i64 k ∧ Hid (ps.map (·.1) = l.take k) ∧ OwnNs wr (w.heap.size + 1) 3 92 ps ∧ Row wr w.heap.size 55 (ndc (ps ++ List.replicate (n - k) zeroN)) ∧ Below w.heap.size w wr)
    (fun vi _ => n - (intOf vi).toNat)
  case atStart => exact ⟨0, [], Nat.zero_le _, rfl, rfl, OwnNs.nil _ _ _ _, Row.new w _ _, (Below.refl _ _).alloc (Nat.le_refl _) _⟩
  case round =>
    obtain ⟨k, ps, hk, rfl, hmp, hrows, hrow, hbw⟩ := hrel
    by_cases hlt : k < n
    · obtain ⟨b, o, x, A1, n1, c1, E1, m1, d1, rfl, hb, hx, hf, hs, ht1, g0, g1, g2, g3, g4, g5⟩ := nodeAt h hlt
      have e0 := ((cell_of hbw) b (o + k * 6) hb).trans g0
      have e1 := ((cell_of hbw) b (o + k * 6 + 1) hb).trans g1
      have e2 := ((cell_of hbw) b (o + k * 6 + 2) hb).trans g2
      have e3 := ((cell_of hbw) b (o + k * 6 + 3) hb).trans g3
      have e4 := ((cell_of hbw) b (o + k * 6 + 4) hb).trans g4
      have e5 := ((cell_of hbw) b (o + k * 6 + 5) hb).trans g5
      have hn1 : x.wish.list.length + x.wish.pairs.length ≤ 1048576 := by have := valsN_succ hx; have := HV.out (k + 1); omega
      have HI := Lib.hid (hs.on RI.keeps hbw)
      have HP := Lib.hid (ht1.on RP.keeps hbw)
      have HX := Lib.hid hx
      clear g0 g1 g2 g3 g4 g5 hs ht1 hx h
      go_wp2_with fail
      refine (toNode (x := x) _ HI.out HP.out hn1).mono ?_
      rintro e w2 ⟨v1, v2, rfl, hown, hb2⟩
      have hpl : ps.length = k := by have h1 := congrArg List.length hmp.out; have h2 := HL.out; rw [List.length_map, List.length_take] at h1; omega
      have R2 := hrow.below hb2 hrow.lt
      have hat : (ps ++ List.replicate (n - k) zeroN)[k]? = some zeroN := by
        rw [List.getElem?_append_right (by omega), List.getElem?_replicate, if_pos (by omega)]
      obtain ⟨i0', i1', i2', i3', i4', i5'⟩ := ndc_at _ k _ hat
      have c0 := (R2.cell (k * 6)).trans i0'
      have c1' := (R2.cell (k * 6 + 1)).trans i1'
      have c2' := (R2.cell (k * 6 + 2)).trans i2'
      have c3' := (R2.cell (k * 6 + 3)).trans i3'
      have c4' := (R2.cell (k * 6 + 4)).trans i4'
      have c5' := (R2.cell (k * 6 + 5)).trans i5'
      have f0 := R2.free (k * 6)
      have f1 := R2.free (k * 6 + 1)
      have f2 := R2.free (k * 6 + 2)
      have f3 := R2.free (k * 6 + 3)
      have f4 := R2.free (k * 6 + 4)
      have f5 := R2.free (k * 6 + 5)
      have hlw := R2.lt
      have ROWS := Lib.hid (((((((hrows.snoc (p := (x, v1, v2)) hb2 hown (Nat.le_refl _) (by have := hrow.lt; omega)).far (a := ⟨w.heap.size, k * 6, none⟩) (by simp) (.int .i64 x.op)).far (a := ⟨w.heap.size, k * 6 + 1, none⟩) (by simp) (.int .i64 x.wish.kind)).far (a := ⟨w.heap.size, k * 6 + 2, none⟩) (by simp) (.int .i64 x.wish.field)).far (a := ⟨w.heap.size, k * 6 + 3, none⟩) (by simp) (.int .i64 x.wish.value)).far (a := ⟨w.heap.size, k * 6 + 4, none⟩) (by simp) v1).far (a := ⟨w.heap.size, k * 6 + 5, none⟩) (by simp) v2)
      have ROW : Hid (Row ((((((w2.setCell ⟨w.heap.size, k * 6, none⟩ (.int .i64 x.op)).setCell ⟨w.heap.size, k * 6 + 1, none⟩ (.int .i64 x.wish.kind)).setCell ⟨w.heap.size, k * 6 + 2, none⟩ (.int .i64 x.wish.field)).setCell ⟨w.heap.size, k * 6 + 3, none⟩ (.int .i64 x.wish.value)).setCell ⟨w.heap.size, k * 6 + 4, none⟩ v1).setCell ⟨w.heap.size, k * 6 + 5, none⟩ v2) w.heap.size 55 (ndc ((ps ++ [(x, v1, v2)]) ++ List.replicate (n - (k + 1)) zeroN))) := by
        have := (((((R2.set (k * 6) (.int .i64 x.op)).set (k * 6 + 1) (.int .i64 x.wish.kind)).set (k * 6 + 2) (.int .i64 x.wish.field)).set (k * 6 + 3) (.int .i64 x.wish.value)).set (k * 6 + 4) v1).set (k * 6 + 5) v2
        rw [ndc_set _ k (x, v1, v2)] at this
        rw [show n - k = (n - (k + 1)) + 1 by omega, ← hpl, set_at] at this
        rw [hpl] at this
        exact this
      have BEL := Lib.hid (((((((hbw.trans (hb2.mono hbw.size)).setCell (p := ⟨w.heap.size, k * 6, none⟩) (Nat.le_refl _) (.int .i64 x.op)).setCell (p := ⟨w.heap.size, k * 6 + 1, none⟩) (Nat.le_refl _) (.int .i64 x.wish.kind)).setCell (p := ⟨w.heap.size, k * 6 + 2, none⟩) (Nat.le_refl _) (.int .i64 x.wish.field)).setCell (p := ⟨w.heap.size, k * 6 + 3, none⟩) (Nat.le_refl _) (.int .i64 x.wish.value)).setCell (p := ⟨w.heap.size, k * 6 + 4, none⟩) (Nat.le_refl _) v1).setCell (p := ⟨w.heap.size, k * 6 + 5, none⟩) (Nat.le_refl _) v2)
      have HMP : Hid ((ps ++ [(x, v1, v2)]).map (·.1) = l.take (k + 1)) := by
        show _ = _
        obtain ⟨hl, e⟩ := List.getElem?_eq_some_iff.1 HX.out
        rw [List.map_append, hmp.out, List.take_succ_eq_append_getElem hl, e]
        rfl
      obtain ⟨A', c', rfl, _, _⟩ := own_form hown.1
      obtain ⟨A'', c'', rfl, _, _⟩ := own_form hown.2.1
      clear hrow hrows hbw hb2 hown R2 hat i0' i1' i2' i3' i4' i5' e0 e1 e2 e3 e4 e5 hpl
      go_wp2
      go_roundw
      case rel => exact ⟨k + 1, _, by omega, by go_num, HMP, ROWS.out, ROW.out, BEL.out⟩
      case measure => simp [intOf]; omega
    · have hkn : k = n := by omega
      have e : l.take k = l := List.take_of_length_le (by have := HL.out; omega)
      have hmp' := hmp.out
      rw [e] at hmp'
      rw [hkn, Nat.sub_self, List.replicate_zero, List.append_nil] at hrow
      have hps : ps.length = n := by have h1 := congrArg List.length hmp'; have := HL.out; rw [List.length_map] at h1; omega
      have HR : Hid (OwnN wr w.heap.size 55 3 92 (.slice (some ⟨w.heap.size, 0, none⟩) n n) l) := by
        refine ⟨ps, hmp', hrows.mono (by omega), ?_, fun u hu => ?_⟩
        · rw [HL.out]
          exact hrow.own (Nat.le_refl _) (by rw [ndc_len, hps]) (by unfold maxLen; omega)
        · cases hv : u.ownBlock with
          | none => exact .inl hv
          | some g =>
            refine .inr fun hh => ?_
            rw [hv] at hh
            have := (hrows.lt hu hv).1
            simp [Value.ownBlock] at hh
            omega
      clear hrow hrows h
      go_wp2
      go_ret
      exact ⟨_, rfl, HR.out, hbw⟩
theorem to_nodes {A : Option Addr} {n c : Nat} {l : List Nd} (w : World) (h : Sl RN 6 w w.heap.size A n c l) (ht : totN l ≤ 1048576) : Calls Try.prog 9 #[.slice A n c] w (RetSl RN 6 w l) :=
  (toNodeS w h ht).mono fun e w' ⟨v, he, ho, hb⟩ => by
    obtain ⟨A', n', c', rfl, hs⟩ := ho.read (fitNs h)
    exact ⟨A', n', c', he, hs, hb⟩
set_option maxHeartbeats 800000 in
theorem eq_node {A E A' E' : Option Addr} {n c m d n' c' m' d' : Nat} {x : Nd} (w : World) (h : Sl RI 1 w w.heap.size A n c x.wish.list) (g : Sl RP 2 w w.heap.size E m d x.wish.pairs) (h' : Sl RI 1 w w.heap.size A' n' c' x.wish.list) (g' : Sl RP 2 w w.heap.size E' m' d' x.wish.pairs) :
    Calls Try.prog 31 #[.agg #[.int .i64 x.op, .int .i64 x.wish.kind, .int .i64 x.wish.field, .int .i64 x.wish.value, .slice A n c, .slice E m d], .agg #[.int .i64 x.op, .int .i64 x.wish.kind, .int .i64 x.wish.field, .int .i64 x.wish.value, .slice A' n' c', .slice E' m' d']] w fun e w' => e = .returned (.bool true) ∧ Below w.heap.size w w' := by
  have B2 := ((Below.refl w.heap.size w).alloc (Nat.le_refl _) (.cells #[.int .i64 x.op, .int .i64 x.wish.kind, .int .i64 x.wish.field, .int .i64 x.wish.value, .slice A n c, .slice E m d] 55)).alloc (by simp) (.cells #[.int .i64 x.op, .int .i64 x.wish.kind, .int .i64 x.wish.field, .int .i64 x.wish.value, .slice A' n' c', .slice E' m' d'] 55)
  have H := Lib.hid (h.on RI.keeps B2)
  have H' := Lib.hid (h'.on RI.keeps B2)
  have G := Lib.hid (g.on RP.keeps B2)
  have G' := Lib.hid (g'.on RP.keeps B2)
  have q1 : (x.op != x.op) = false := by simp
  clear h h' g g'
  go_enter Try.func31, Try.ntmps31
  go_wp2_with (go_at_call 68; refine (eq_wish (x := x.wish) _ H.out G.out H'.out G'.out).mono ?_; rintro e w2 ⟨rfl, b2⟩)
  go_ret
  exact ⟨rfl, B2.trans (b2.mono B2.size)⟩
set_option maxHeartbeats 1600000 in
set_option maxRecDepth 100000 in
theorem eq_nodes {A A' : Option Addr} {n n' c c' : Nat} {l : List Nd} (w : World) (h : Sl RN 6 w w.heap.size A n c l) (h' : Sl RN 6 w w.heap.size A' n' c' l) :
    Calls Try.prog 11 #[.slice A n c, .slice A' n' c'] w fun e w' => e = .returned (.bool true) ∧ Below w.heap.size w w' := by
  obtain rfl : n = n' := h.len.symm.trans h'.len
  have mx1 := Nat.le_trans h.le h.max
  unfold maxLen at mx1
  have ht : ((n : Int) != (n : Int)) = false := by simp
  go_enter Try.func11, Try.ntmps11
  go_wp2
  go_loopw [5] (fun vi wr => ∃ k : Nat, k ≤ n ∧ vi = .int .i64 k ∧ Below w.heap.size w wr) (fun vi _ => n - (intOf vi).toNat)
  case atStart => exact ⟨0, Nat.zero_le _, rfl, Below.refl _ _⟩
  case round =>
    obtain ⟨k, hk, rfl, hbw⟩ := hrel
    by_cases hlt : k < n
    · obtain ⟨b, o, x, A1, n1, c1, E1, m1, d1, rfl, hb, hx, hf, hs, ht1, g0, g1, g2, g3, g4, g5⟩ := nodeAt h hlt
      obtain ⟨b', o', y, A2, n2, c2, E2, m2, d2, rfl, hb', hy, hf', hs', ht1', g0', g1', g2', g3', g4', g5'⟩ := nodeAt h' hlt
      obtain rfl : x = y := by rw [hx] at hy; injection hy
      have hsz := hbw.size
      have i1 : b < wr.heap.size := by omega
      have i2 : b' < wr.heap.size := by omega
      have e0 := ((cell_of hbw) b (o + k * 6) hb).trans g0
      have e1 := ((cell_of hbw) b (o + k * 6 + 1) hb).trans g1
      have e2 := ((cell_of hbw) b (o + k * 6 + 2) hb).trans g2
      have e3 := ((cell_of hbw) b (o + k * 6 + 3) hb).trans g3
      have e4 := ((cell_of hbw) b (o + k * 6 + 4) hb).trans g4
      have e5 := ((cell_of hbw) b (o + k * 6 + 5) hb).trans g5
      have e0' := ((cell_of hbw) b' (o' + k * 6) hb').trans g0'
      have e1' := ((cell_of hbw) b' (o' + k * 6 + 1) hb').trans g1'
      have e2' := ((cell_of hbw) b' (o' + k * 6 + 2) hb').trans g2'
      have e3' := ((cell_of hbw) b' (o' + k * 6 + 3) hb').trans g3'
      have e4' := ((cell_of hbw) b' (o' + k * 6 + 4) hb').trans g4'
      have e5' := ((cell_of hbw) b' (o' + k * 6 + 5) hb').trans g5'
      have HS := Lib.hid (hs.on RI.keeps hbw)
      have HS' := Lib.hid (hs'.on RI.keeps hbw)
      have HT := Lib.hid (ht1.on RP.keeps hbw)
      have HT' := Lib.hid (ht1'.on RP.keeps hbw)
      have HB := Lib.hid hbw
      have q1 : (k : Int) < (n : Int) := by omega
      clear hx hy h h' hbw hs hs' ht1 ht1' g0 g1 g2 g3 g4 g5 g0' g1' g2' g3' g4' g5'
      go_wp2_with fail
      refine wp_region_qb (by kernel_rfl) (by kernel_rfl) ?_; (repeat (go_big_quiet_step ((go_at_call 31; exact quietB (eq_node _ (HS.out.gr RI.keeps _ _) (HT.out.gr RP.keeps _ _) (HS'.out.gr RI.keeps _ _) (HT'.out.gr RP.keeps _ _)))))); refine wpQuiet_nil ?_; intro w8 hb8
      go_wp2
      go_roundw
      case rel => exact ⟨k + 1, by omega, by go_num, HB.out.trans (hb8.mono hsz)⟩
      case measure => simp [intOf]; omega
    · clear h h'
      go_wp2
      go_ret
      exact ⟨rfl, hbw⟩
end Go.Proofs.Ytgjghpaenliliaa.Wk
