/-
  Walks of chapter 2: an item read back from its text.
  Conditions: none beyond the bounds that each states.
-/
import Derived.Test.YtncaamjmidmmdaaW70
import Derived.Test.YtncaamjmidmmdaaW20
import Derived.Test.YtncaamjmidmmdaaM18
namespace Go.Proofs.Ytncaamjmidmmdaa.Wk
open Go.RowKit Go.Proofs.Ytncaamjmidmmdaa.M
set_option linter.unusedVariables false
set_option linter.unusedSimpArgs false
attribute [local go_sem] cell_grow

/-! ### texts of numbers -/
theorem fmtS_list (n : Int) : P.fmtL n = P.nums (fmtS n).data.toList := (bytesEq2 (fmtL_mem n) _).1 rfl
theorem fmtL_dig {n : Int} : ∀ x ∈ P.fmtL n, x = 45 ∨ 48 ≤ x ∧ x ≤ 57 := by
  intro x hx
  unfold P.fmtL at hx
  split at hx
  · simp at hx; omega
  · split at hx
    · rcases List.mem_cons.1 hx with rfl | hx
      · exact .inl rfl
      · have := P.digs_mem _ _ hx; omega
    · have := P.digs_mem _ _ hx; omega
theorem fmtS_dig {n : Int} : ∀ x ∈ (fmtS n).data.toList, x.toNat = 45 ∨ 48 ≤ x.toNat ∧ x.toNat ≤ 57 := by
  intro x hx
  have h1 : (x.toNat : Int) ∈ P.fmtL n := by
    rw [fmtS_list]
    exact List.mem_map.2 ⟨x, hx, rfl⟩
  have := fmtL_dig _ h1
  omega
/-- The byte occurs in no text of a number. -/
theorem fmtS_no {n : Int} {b : UInt8} (h : b.toNat ≠ 45 ∧ (b.toNat < 48 ∨ 57 < b.toNat)) : ∀ x ∈ (fmtS n).data.toList, x ≠ b := by
  rintro x hx rfl
  have := fmtS_dig x hx
  omega
theorem piN_fmt {n : Int} (h : -1000000000 < n) (h2 : n < 1000000000) : piN (fmtS n).data.toList = n ∧ piB (fmtS n).data.toList = true := piN_some (P.pI_some (fmtS_list n) h h2)
theorem l2N_fmt {n : Int} (h : -1000000000 < n) (h2 : n < 1000000000) : l2N (fmtS n) = n := by
  obtain ⟨h3, h4⟩ := piN_fmt h h2
  unfold l2N; rw [h4, h3]; rfl
theorem nums_cut {xs : List Int} (h : xs ≠ []) : P.cut (numsS ⟨#[44]⟩ xs) ⟨#[44]⟩ = xs.map fmtS := by
  unfold numsS
  refine P.cut_glue (b0 := 44) (bs := []) rfl (by simpa using h) (fun q hq => ?_)
  obtain ⟨n, _, rfl⟩ := List.mem_map.1 hq
  exact fmtS_no (by decide)
theorem map_same {α β : Type} {f : α → β} {g : β → α} {l : List α} (h : ∀ x ∈ l, g (f x) = x) : (l.map f).map g = l := by
  rw [List.map_map]
  conv => rhs; rw [← List.map_id l]
  exact List.map_congr_left fun x hx => h x hx
theorem rdN_nums {xs : List Int} (h : xs ≠ []) (hb : ∀ x ∈ xs, -1000000000 < x ∧ x < 1000000000) : rdN (numsS ⟨#[44]⟩ xs) = xs := by
  unfold rdN
  rw [nums_cut h]
  exact map_same fun x hx => (piN_fmt (hb x hx).1 (hb x hx).2).1
/-- The numbers that the reference reads. -/
noncomputable def rdL (s : ByteArray) : List Int := (P.cut s ⟨#[44]⟩).map l2N
theorem rdL_nums {xs : List Int} (h : xs ≠ []) (hb : ∀ x ∈ xs, -1000000000 < x ∧ x < 1000000000) : rdL (numsS ⟨#[44]⟩ xs) = xs := by
  unfold rdL
  rw [nums_cut h]
  exact map_same fun x hx => l2N_fmt (hb x hx).1 (hb x hx).2
theorem tails_mem {b : List UInt8} {ps : List (List UInt8)} {x : UInt8} (h : x ∈ P.tails b ps) : x ∈ b ∨ ∃ q ∈ ps, x ∈ q := by
  unfold P.tails at h
  obtain ⟨q, hq, hx⟩ := List.mem_flatMap.1 h
  rcases List.mem_append.1 hx with hx | hx
  · exact .inl hx
  · exact .inr ⟨q, hq, hx⟩
theorem glue_mem {b : ByteArray} {l : List ByteArray} {x : UInt8} (h : x ∈ (P.glue b l).data.toList) : x ∈ b.data.toList ∨ ∃ q ∈ l, x ∈ q.data.toList := by
  cases l with
  | nil => simp [P.glue, P.glueTo] at h
  | cons p ps =>
    rw [P.glue_list] at h
    rcases List.mem_append.1 h with h | h
    · exact .inr ⟨p, by simp, h⟩
    · rcases tails_mem h with h | ⟨q, hq, h⟩
      · exact .inl h
      · obtain ⟨t, ht, rfl⟩ := List.mem_map.1 hq
        exact .inr ⟨t, by simp [ht], h⟩
/-- The byte occurs in no text of numbers. -/
theorem nums_no {xs : List Int} {b : UInt8} (h : b.toNat ≠ 45 ∧ (b.toNat < 48 ∨ 57 < b.toNat)) (h2 : b.toNat ≠ 44) : ∀ x ∈ (numsS ⟨#[44]⟩ xs).data.toList, x ≠ b := by
  intro x hx
  unfold numsS at hx
  rcases glue_mem hx with hx | ⟨q, hq, hx⟩
  · simp at hx
    rintro rfl
    rw [hx] at h2
    exact h2 rfl
  · obtain ⟨n, _, rfl⟩ := List.mem_map.1 hq
    exact fmtS_no h x hx
theorem okV_bd {xs : List Int} (h : P.okV xs = true) : ∀ x ∈ xs, -1000000000 < x ∧ x < 1000000000 := by
  intro x hx
  have := P.inR_t (List.all_eq_true.1 h x hx)
  omega
theorem cut_nil {b : ByteArray} (h : 0 < b.size) : P.cut ⟨#[]⟩ b = [⟨#[]⟩] := by
  unfold P.cut
  rw [P.cutR_end (show (⟨#[]⟩ : ByteArray).size < 0 + b.size by show 0 < _; omega)]
  rfl
/-! ### items -/
theorem item_cut {x : It} (h : P.okI x = true) : P.cut (itemS x) ⟨#[58]⟩ = [fmtS x.id, numsS ⟨#[44]⟩ x.vals] := by
  unfold itemS
  rw [h, if_pos rfl]
  refine P.cut_join (b0 := 58) (bs := []) rfl ?_ (fun q hq => ?_)
  · rw [P.ba_app, P.ba_app]; simp [P.tails]
  · simp at hq
    rcases hq with rfl | rfl
    · exact fmtS_no (by decide)
    · exact nums_no (by decide) (by decide)
theorem item_back {x : It} (h : P.okI x = true) : piN (fmtS x.id).data.toList = x.id ∧ l2N (fmtS x.id) = x.id ∧ rdN (numsS ⟨#[44]⟩ x.vals) = x.vals ∧ rdL (numsS ⟨#[44]⟩ x.vals) = x.vals := by
  have h2 := h
  unfold P.okI at h2
  rw [Bool.and_eq_true, Bool.and_eq_true, decide_eq_true_eq] at h2
  obtain ⟨⟨h3, h4⟩, h5⟩ := h2
  have h6 := P.inR_t h3
  have hne : x.vals ≠ [] := by intro e; rw [e] at h4; simp at h4
  exact ⟨(piN_fmt (by omega) (by omega)).1, l2N_fmt (by omega) (by omega), rdN_nums hne (okV_bd h5), rdL_nums hne (okV_bd h5)⟩
open Classical in
/-- The item that is written so. -/
noncomputable def parI (s : ByteArray) : It := if h : ∃ x, P.okI x = true ∧ itemS x = s then h.choose else ⟨0, []⟩
open Classical in
noncomputable def parIB (s : ByteArray) : Bool := decide (∃ x, P.okI x = true ∧ itemS x = s)
theorem item_inj {x y : It} (hx : P.okI x = true) (hy : P.okI y = true) (h : itemS x = itemS y) : x = y := by
  have h1 := item_cut hx
  rw [h, item_cut hy] at h1
  simp only [List.cons.injEq, and_true] at h1
  obtain ⟨h2, h3⟩ := h1
  obtain ⟨a1, _, a3, _⟩ := item_back hx
  obtain ⟨b1, _, b3, _⟩ := item_back hy
  rw [← h2] at a1
  rw [← h3] at a3
  obtain ⟨xi, xv⟩ := x
  obtain ⟨yi, yv⟩ := y
  simp only at a1 a3 b1 b3
  rw [← a1, ← a3, b1, b3]
theorem parI_yes {x : It} {s : ByteArray} (hx : P.okI x = true) (h : itemS x = s) : parI s = x ∧ parIB s = true := by
  have he : ∃ x, P.okI x = true ∧ itemS x = s := ⟨x, hx, h⟩
  unfold parI parIB
  rw [dif_pos he]
  refine ⟨item_inj he.choose_spec.1 hx (he.choose_spec.2.trans h.symm), ?_⟩
  simp only [decide_eq_true_eq]
  exact he
theorem parI_no {s : ByteArray} (h : ∀ x, P.okI x = true → itemS x ≠ s) : parI s = ⟨0, []⟩ ∧ parIB s = false := by
  have he : ¬ ∃ x, P.okI x = true ∧ itemS x = s := fun ⟨x, h1, h2⟩ => h x h1 h2
  unfold parI parIB
  rw [dif_neg he]
  exact ⟨rfl, by simp only [decide_eq_false_iff_not]; exact he⟩
theorem itemS_ok {x : It} (h : itemS x ≠ ⟨#[]⟩) : P.okI x = true := by
  cases e : P.okI x with
  | true => rfl
  | false => exact absurd (by unfold itemS; rw [e]; rfl) h
/-- No two sides: no item is written so. -/
theorem parI_len {s : ByteArray} (h : (P.cut s ⟨#[58]⟩).length ≠ 2) : parI s = ⟨0, []⟩ ∧ parIB s = false :=
  parI_no fun x hx e => h (by rw [← e, item_cut hx]; rfl)
theorem parI_fit (s : ByteArray) : Fit (parI s).id ∧ ∀ y ∈ (parI s).vals, Fit y := by
  by_cases h : ∃ x, P.okI x = true ∧ itemS x = s
  · obtain ⟨x, hx, he⟩ := h
    rw [(parI_yes hx he).1]
    unfold P.okI at hx
    rw [Bool.and_eq_true, Bool.and_eq_true] at hx
    obtain ⟨⟨h3, _⟩, h5⟩ := hx
    have := P.inR_t h3
    refine ⟨by unfold Fit; omega, fun y hy => ?_⟩
    have := okV_bd h5 y hy
    unfold Fit; omega
  · rw [(parI_no fun x hx e => h ⟨x, hx, e⟩).1]
    exact ⟨by unfold Fit; simp, by simp⟩
theorem parI_vals (s : ByteArray) : (parI s).vals.length ≤ 3 := by
  by_cases h : ∃ x, P.okI x = true ∧ itemS x = s
  · obtain ⟨x, hx, he⟩ := h
    rw [(parI_yes hx he).1, P.okI_len hx]
    exact Nat.le_refl _
  · rw [(parI_no fun x hx e => h ⟨x, hx, e⟩).1]
    exact Nat.zero_le _
/-- What the program comes to, its two sides cut. -/
theorem parI_impl {s a b : ByteArray} (h : P.cut s ⟨#[58]⟩ = [a, b]) : (itemS ⟨piN a.data.toList, rdN b⟩ = s → parI s = ⟨piN a.data.toList, rdN b⟩ ∧ parIB s = true) ∧ (itemS ⟨piN a.data.toList, rdN b⟩ ≠ s → parI s = ⟨0, []⟩ ∧ parIB s = false) := by
  refine ⟨fun e => parI_yes (itemS_ok fun h0 => ?_) e, fun e => parI_no fun x hx ex => e ?_⟩
  · rw [← e, h0, cut_nil (by decide)] at h
    simp at h
  · have hc := item_cut hx
    rw [ex, h] at hc
    simp only [List.cons.injEq, and_true] at hc
    obtain ⟨rfl, rfl⟩ := hc
    obtain ⟨a1, _, a3, _⟩ := item_back hx
    rw [a1, a3]
    exact ex
/-- What the reference comes to. -/
noncomputable def refI (s : ByteArray) : It := ⟨l2N ((P.cut s ⟨#[58]⟩).getD 0 ⟨#[]⟩), if (P.cut s ⟨#[58]⟩).length = 2 then rdL ((P.cut s ⟨#[58]⟩).getD 1 ⟨#[]⟩) else []⟩
theorem parI_spec {s : ByteArray} : (s ≠ ⟨#[]⟩ → itemS (refI s) = s → parI s = refI s ∧ parIB s = true) ∧ ((s = ⟨#[]⟩ ∨ itemS (refI s) ≠ s) → parI s = ⟨0, []⟩ ∧ parIB s = false) := by
  refine ⟨fun h0 e => parI_yes (itemS_ok fun h => h0 (e.symm.trans h)) e, fun h => parI_no fun x hx ex => ?_⟩
  have hc := item_cut hx
  rcases h with h | h
  · rw [ex, h, cut_nil (by decide)] at hc
    simp at hc
  · refine h ?_
    rw [ex] at hc
    obtain ⟨_, a2, _, a4⟩ := item_back hx
    have : refI s = x := by
      unfold refI
      rw [hc]
      simp only [List.getD_cons_zero, List.length_cons, List.length_nil, List.getD_cons_succ, Nat.zero_add, Nat.reduceAdd, if_true]
      rw [a2, a4]
    rw [this, ex]
/-- It returns an item by value, its row the call's own, and a truth value. -/
def RetIB (w : World) (x : It) (b : Bool) (e : Ending) (w' : World) : Prop := ∃ v, e = .returned (.tuple #[.agg #[.int .i64 x.id, v], .bool b]) ∧ OwnQ w' w.heap.size w'.heap.size v x.vals ∧ Below w.heap.size w w'
theorem own_nilQ (w : World) (lo hi : Nat) : OwnQ w lo hi (.slice none 0 0) [] := ⟨World.ownsRow_nil w lo 3 1, fun g hg => by simp [Value.ownBlock] at hg⟩
theorem ret_ib {x y : It} {b c : Bool} {v : Value} (h : x = y ∧ b = c) : Ending.returned (.tuple #[.agg #[.int .i64 x.id, v], .bool b]) = .returned (.tuple #[.agg #[.int .i64 y.id, v], .bool c]) := by rw [h.1, h.2]
set_option maxHeartbeats 1600000 in
set_option maxRecDepth 100000 in
theorem implParseItem (w : World) {s : ByteArray} (hs : s.size ≤ 1048576) : Calls Try.prog 33 #[.string s] w (RetIB w (parI s) (parIB s)) := by
  have HCL := Lib.hid (P.cut_len s ⟨#[58]⟩)
  have HX := Lib.hid (P.cut_size s ⟨#[58]⟩)
  go_enter Try.func33, Try.ntmps33
  go_wp2_with fail
  refine (cut _ hs (by decide) (by decide)).mono ?_
  rintro e w2 ⟨vp, rfl, hP, b2⟩
  have B2 := ((Below.refl w.heap.size w).alloc (Nat.le_refl _) (.cells #[.int .i64 0, .slice none 0 0] 27)).trans (b2.mono (by simp))
  have R2 := (Row.new w 27 [.int .i64 0, .slice none 0 0]).below b2 (by simp)
  have hP1 := Lib.hid hP.1
  obtain ⟨A, c, rfl, _, _⟩ := own_form hP.1
  by_cases hl : (P.cut s ⟨#[58]⟩).length = 2
  · obtain ⟨a, b, hab⟩ : ∃ a b, P.cut s ⟨#[58]⟩ = [a, b] := by
      match hc : P.cut s ⟨#[58]⟩, hl with
      | [a, b], _ => exact ⟨a, b, rfl⟩
    have hsa : a.size ≤ 1048576 := Nat.le_trans (HX.out a (by rw [hab]; simp)) hs
    have hsb : b.size ≤ 1048576 := Nat.le_trans (HX.out b (by rw [hab]; simp)) hs
    have HI := Lib.hid (parI_impl hab)
    obtain ⟨A', n', c', e', hS⟩ := own_strs hP.1 (fun x hx => by have := HX.out x hx; unfold maxLen; omega)
    injection e' with e1 e2 e3
    subst e1 e3
    have hl' := hl
    rw [hl] at e2
    obtain ⟨bb, o, x, rfl, hbb, hx0, _, hc0⟩ := hS.str (k := 0) (by omega)
    obtain ⟨bb1, o1, x1, hbe, _, hx1, _, hc1⟩ := hS.str (k := 1) (by omega)
    injection hbe with hbe
    injection hbe with hbe1 hbe2 _
    subst hbe1 hbe2
    rw [hab] at hx0 hx1
    simp at hx0 hx1
    subst hx0 hx1
    rw [hl]
    have hsz2 := b2.size
    simp at hsz2
    clear hP hS e2
    have f0 := R2.free 0
    have f1 := R2.free 1
    go_wp2_with fail
    refine (readNumbers _ hsb).mono ?_
    rintro e w3 ⟨vv, rfl, hV, b3⟩
    obtain ⟨A3, c3, rfl, _, _⟩ := own_form hV.1
    have hsz3 := b3.size
    have R3 := R2.below b3 (by omega)
    have k0 := ((cell_of b3) bb (o + 0) hbb).trans hc0
    rw [Nat.add_zero] at k0
    have hV1 := hV.1
    have hV2 := hV.2
    clear hV hc0 hc1 f0 f1
    have hlt3 : bb < w3.heap.size := by omega
    have B3 := B2.trans (b3.mono (by omega))
    obtain ⟨p0, hp0⟩ : ∃ p0, piN a.data.toList = p0 := ⟨_, rfl⟩
    have hpf : Fit p0 := by rw [← hp0]; exact piN_fit _
    rw [hp0] at HI
    go_wp2_with fail
    refine (implParseInt a (by unfold maxLen; omega) _).mono ?_
    rintro e w4 ⟨rfl, b4⟩
    rw [hp0]
    have hsz4 := b4.size
    simp at hsz4
    have R4 := ((R3.alloc (.cells #[.int .i64 0, .slice A3 (rdN b).length c3] 27))).below b4 (by simp; omega)
    have X4 := (Row.new w3 27 [.int .i64 0, .slice A3 (rdN b).length c3]).below b4 (by simp)
    have O4 := own_below (hV1.alloc (.cells #[.int .i64 0, .slice A3 (rdN b).length c3] 27)) b4
    have B4 := (B3.alloc B3.size (.cells #[.int .i64 0, .slice A3 (rdN b).length c3] 27)).trans (b4.mono (by have := B3.size; simp; omega))
    have f0 := X4.free 0
    have x0 : w4.cell? ⟨w3.heap.size, 0, none⟩ = some (.int .i64 0) := X4.cell 0
    have x1 : w4.cell? ⟨w3.heap.size, 1, none⟩ = some (.slice A3 (rdN b).length c3) := X4.cell 1
    have hlt4 : w3.heap.size < w4.heap.size := by omega
    clear k0 b4 b3 b2
    have X5 := X4.set 0 (.int .i64 p0)
    have R5 := R4.far (p := ⟨w3.heap.size, 0, none⟩) (by simp; omega) (.int .i64 p0)
    have O5 := own_chg O4 ((Chg.refl (fun q => q = w3.heap.size) w4).setCell (p := ⟨w3.heap.size, 0, none⟩) rfl (.int .i64 p0)) (fun g hg => by
      have := hV2 g hg
      show ¬ g = _
      omega)
    have B5 := B4.setCell (p := ⟨w3.heap.size, 0, none⟩) (by simp; omega) (.int .i64 p0)
    have X5c0 : (w4.setCell ⟨w3.heap.size, 0, none⟩ (.int .i64 p0)).cell? ⟨w3.heap.size, 0, none⟩ = some (.int .i64 p0) := X5.cell 0
    have X5c1 : (w4.setCell ⟨w3.heap.size, 0, none⟩ (.int .i64 p0)).cell? ⟨w3.heap.size, 1, none⟩ = some (.slice A3 (rdN b).length c3) := X5.cell 1
    obtain ⟨w5, hw5⟩ : ∃ w5, w4.setCell ⟨w3.heap.size, 0, none⟩ (.int .i64 p0) = w5 := ⟨_, rfl⟩
    have hz5 : w5.heap.size = w4.heap.size := by rw [← hw5]; simp
    rw [hw5] at X5 R5 O5 B5 X5c0 X5c1
    have S5 : Sl RI 1 w5 w5.heap.size A3 (rdN b).length c3 (rdN b) := by
      obtain ⟨A', n', c', e', hS⟩ := own_ints O5 (fun x hx => by unfold rdN at hx; obtain ⟨t, _, rfl⟩ := List.mem_map.1 hx; exact piN_fit _)
      injection e' with e1 e2 e3
      subst e1 e3
      rw [e2]; exact hS
    clear X4 R4 O4 B4
    go_wp2_with fail
    try rw [hw5]
    refine (implFormatItem (x := ⟨p0, rdN b⟩) _ S5 hpf).mono ?_
    rintro e w6 ⟨rfl, b6⟩
    have hsz6 := b6.size
    have R6 := R5.below b6 (by omega)
    have X6 := X5.below b6 (by omega)
    have O6 := own_below O5 b6
    have B6 := B5.trans (b6.mono (by omega))
    have f0 := R6.free 0
    have f1 := R6.free 1
    have hlt := R6.lt
    have c0 : w6.cell? ⟨w.heap.size, 0, none⟩ = some (.int .i64 0) := R6.cell 0
    have c1 : w6.cell? ⟨w.heap.size, 1, none⟩ = some (.slice none 0 0) := R6.cell 1
    have y0 : w6.cell? ⟨w3.heap.size, 0, none⟩ = some (.int .i64 p0) := X6.cell 0
    have y1 : w6.cell? ⟨w3.heap.size, 1, none⟩ = some (.slice A3 (rdN b).length c3) := X6.cell 1
    have hltx := X6.lt
    have BF := Lib.hid ((B6.setCell (p := ⟨w.heap.size, 0, none⟩) (Nat.le_refl _) (.int .i64 p0)).setCell (p := ⟨w.heap.size, 1, none⟩) (Nat.le_refl _) (.slice A3 (rdN b).length c3))
    have BN := Lib.hid ((B6.setCell (p := ⟨w.heap.size, 0, none⟩) (Nat.le_refl _) (.int .i64 0)).setCell (p := ⟨w.heap.size, 1, none⟩) (Nat.le_refl _) (.slice none 0 0))
    have OF := Lib.hid (own_mono (b' := w.heap.size) (ownsRow_setCell_below (ownsRow_setCell_below O6 (a := ⟨w.heap.size, 0, none⟩) (by simp; omega) (.int .i64 p0)) (a := ⟨w.heap.size, 1, none⟩) (by simp; omega) (.slice A3 (rdN b).length c3)) (by omega))
    clear R6 X6 O6 B6 b6 X5 R5 O5 B5 X5c0 X5c1 S5
    by_cases e : itemS ⟨p0, rdN b⟩ = s
    · have HP := Lib.hid (HI.out.1 e)
      have q := ba_yes e
      clear e HI
      go_wp2
      refine bodyPost_ret (v := .tuple #[.agg #[.int .i64 p0, .slice A3 (rdN b).length c3], .bool true]) (by simp [results, Try.results33, go_sem, c0, c1]) rfl ?_
      refine ⟨_, ret_ib (x := ⟨p0, rdN b⟩) (b := true) ⟨HP.out.1.symm, HP.out.2.symm⟩, ?_, BF.out⟩
      rw [HP.out.1]
      exact ⟨OF.out, own_und OF.out⟩
    · have HP := Lib.hid (HI.out.2 e)
      have q := ba_no e
      clear e HI
      go_wp2
      refine bodyPost_ret (v := .tuple #[.agg #[.int .i64 0, .slice none 0 0], .bool false]) (by simp [results, Try.results33, go_sem, c0, c1]) rfl ?_
      refine ⟨_, ret_ib (x := ⟨0, []⟩) (v := .slice none 0 0) (b := false) ⟨HP.out.1.symm, HP.out.2.symm⟩, ?_, BN.out⟩
      rw [HP.out.1]; exact own_nilQ _ _ _
  · have HP := Lib.hid (parI_len hl)
    obtain ⟨n, hn⟩ : ∃ n, (P.cut s ⟨#[58]⟩).length = n := ⟨_, rfl⟩
    rw [hn] at hl ⊢
    have q : ((n : Int) != 2) = true := by simp; omega
    have f0 := R2.free 0
    have f1 := R2.free 1
    have hlt := R2.lt
    have c0 : w2.cell? ⟨w.heap.size, 0, none⟩ = some (.int .i64 0) := R2.cell 0
    have c1 : w2.cell? ⟨w.heap.size, 1, none⟩ = some (.slice none 0 0) := R2.cell 1
    clear hP
    go_wp2
    refine bodyPost_ret (v := .tuple #[.agg #[.int .i64 0, .slice none 0 0], .bool false]) (by simp [results, Try.results33, go_sem, c0, c1]) rfl ?_
    refine ⟨_, ret_ib (x := ⟨0, []⟩) (v := .slice none 0 0) (b := false) ⟨HP.out.1.symm, HP.out.2.symm⟩, ?_, ?_⟩
    · rw [HP.out.1]; exact own_nilQ _ _ _
    · exact (B2.setCell (p := ⟨w.heap.size, 0, none⟩) (Nat.le_refl _) _).setCell (p := ⟨w.heap.size, 1, none⟩) (Nat.le_refl _) _
section
variable {w w' : World} {v : Value} {b o : Nat}
theorem cellA (h : w.cell? ⟨b, o, none⟩ = some v) (x : Obj) : (w.alloc x).cell? ⟨b, o, none⟩ = some v := by
  rw [World.cell?_alloc_lt _ _ _ (World.block_lt_of_cell? w _ h)]; exact h
theorem cellB {B : Nat} (h : w.cell? ⟨b, o, none⟩ = some v) (hb : Below B w w') (hlt : b < B) : w'.cell? ⟨b, o, none⟩ = some v := ((cell_of hb) b o hlt).trans h
theorem cellG {row : Option Nat} (h : w.cell? ⟨b, o, none⟩ = some v) (hg : w.grownBy w' row) (hne : some b ≠ row) : w'.cell? ⟨b, o, none⟩ = some v := by
  rw [World.cell?_of_block (w := w) (hg.block b (World.block_lt_of_cell? w _ h) hne)]; exact h
theorem cellS {p : Addr} (h : w.cell? ⟨b, o, none⟩ = some v) (hne : p.block ≠ b) (u : Value) : (w.setCell p u).cell? ⟨b, o, none⟩ = some v := by
  rw [World.cell?_setCell_far _ _ _ _ hne]; exact h
end
theorem below_drew8 {W w8 : World} (h : Below W.drew.heap.size W.drew w8) : Below W.heap.size W w8 := (Below.refl W.heap.size W).drew.trans h
set_option maxHeartbeats 1600000 in
set_option maxRecDepth 100000 in
theorem specParseItem (w : World) {s : ByteArray} (hs : s.size ≤ 1048576) : Calls Try.prog 32 #[.string s] w (RetIB w (parI s) (parIB s)) := by
  obtain ⟨i0, hi, hz0, hz1, hz2⟩ := info_parts info_i2
  have HX := Lib.hid (P.cut_size s ⟨#[58]⟩)
  have HI := Lib.hid (parI_spec (s := s))
  go_enter Try.func32, Try.ntmps32
  go_wp2_with fail
  refine (l2Cut _ (b := 58) hs).mono ?_
  rintro e w2 ⟨vp, rfl, hP, b2⟩
  have B2 := ((Below.refl w.heap.size w).alloc (Nat.le_refl _) (.cells #[.int .i64 0, .slice none 0 0] 27)).trans (b2.mono (by simp))
  have R2 := (Row.new w 27 [.int .i64 0, .slice none 0 0]).below b2 (by simp)
  obtain ⟨A, c, rfl, _, _⟩ := own_form hP.1
  obtain ⟨A', n', c', e', hS⟩ := own_strs hP.1 (fun x hx => by have := HX.out x hx; unfold maxLen; omega)
  injection e' with e1 e2 e3
  subst e1 e3
  obtain ⟨np, hnp⟩ : ∃ np, (P.cut s ⟨#[58]⟩).length = np := ⟨_, rfl⟩
  have hpos := P.cut_pos s ⟨#[58]⟩
  have HNP := Lib.hid hnp
  rw [hnp] at e2 hpos
  subst e2
  obtain ⟨bb, o, a, rfl, hbb, hx0, _, hc0⟩ := hS.str (k := 0) (by omega)
  rw [Nat.add_zero] at hc0
  have hsa : a.size ≤ maxLen := by have := HX.out a (List.mem_of_getElem? hx0); unfold maxLen; omega
  have HA : Hid ((P.cut s ⟨#[58]⟩).getD 0 ⟨#[]⟩ = a) := by show _ = _; simp [List.getD, hx0]
  have hsz2 := b2.size
  simp at hsz2
  have hq1 : (0 : Int) < (np : Int) := by omega
  have hnc := hS.le
  have hnc2 : (np : Int) ≤ (c : Int) := by omega
  clear hP
  rw [hnp]
  go_wp2_with fail
  refine (l2Num _ hsa).mono ?_
  rintro e w3 ⟨rfl, b3⟩
  obtain ⟨p0, hp0⟩ : ∃ p0, l2N a = p0 := ⟨_, rfl⟩
  have hpf : Fit p0 := by rw [← hp0]; exact l2N_fit _
  rw [hp0]
  have hsz3 := b3.size
  by_cases hl : np = 2
  · subst hl
    obtain ⟨bb1, o1, x1, hbe, _, hx1, _, hc1⟩ := hS.str (k := 1) (by omega)
    injection hbe with hbe
    injection hbe with hbe1 hbe2 _
    subst hbe1 hbe2
    have k1 := cellB hc1 b3 hbb
    have hlt3 : bb < w3.heap.size := by omega
    have hx1s : x1.size ≤ 1048576 := Nat.le_trans (HX.out x1 (List.mem_of_getElem? hx1)) hs
    have HREF : Hid (refI s = ⟨p0, rdL x1⟩) := by
      show _ = _
      unfold refI
      rw [HA.out, hp0, HNP.out, if_pos rfl]
      have : (P.cut s ⟨#[58]⟩).getD 1 ⟨#[]⟩ = x1 := by simp [List.getD, hx1]
      rw [this]
    have HCL := Lib.hid (P.cut_len x1 ⟨#[44]⟩)
    have HX1 := Lib.hid (P.cut_size x1 ⟨#[44]⟩)
    go_wp2_with fail
    refine (l2Cut _ (b := 44) hx1s).mono ?_
    rintro e w4 ⟨vp, rfl, hP, b4⟩
    have hsz4 := b4.size
    simp at hsz4
    have R4 := ((R2.below b3 (by omega)).alloc (.cells #[.int .i64 p0, .slice none 0 0] 27)).below b4 (by simp; omega)
    have X4 := (Row.new w3 27 [.int .i64 p0, .slice none 0 0]).below b4 (by simp)
    have B4 := ((B2.trans (b3.mono (by omega))).alloc (by omega) (.cells #[.int .i64 p0, .slice none 0 0] 27)).trans (b4.mono (by simp; omega))
    have hP1 := Lib.hid hP.1
    have hP2 := Lib.hid hP.2
    simp only [World.size_alloc] at hP1
    obtain ⟨A2, c2, rfl, _, _⟩ := own_form hP.1
    obtain ⟨n, hn⟩ : ∃ n, (P.cut x1 ⟨#[44]⟩).length = n := ⟨_, rfl⟩
    have HL := Lib.hid hn
    have hn1 : n ≤ 1048577 := by have := HL.out; have := HCL.out; omega
    have XR4 := Lib.hid X4
    have RR4 := Lib.hid R4
    clear hP b2 b3 b4 hc0 hc1 k1 R2 B2 hS R4 X4
    rw [hn]
    rw [hn] at hP1 hP2
    go_wp2
    go_loopw [7] (fun vi wr => ∃ (k : Nat) (A5 : Option Addr) (c5 : Nat), k ≤ n ∧ vi = .int .i64 k ∧ Hid (wr.ownsRow w4.heap.size 3 1 (.slice A5 k c5) k (((rdL x1).take k).map (Value.int .i64))) ∧ Hid (wr.ownsRow (w3.heap.size + 1) 9 1 (.slice A2 n c2) n ((P.cut x1 ⟨#[44]⟩).map Value.string)) ∧ Hid (Row wr w3.heap.size 27 [.int .i64 p0, .slice A5 k c5]) ∧ Hid (Row wr w.heap.size 27 [.int .i64 0, .slice none 0 0]) ∧ w4.heap.size ≤ wr.heap.size ∧ Below w.heap.size w wr) (fun vi _ => n - (intOf vi).toNat)
    case atStart => exact ⟨0, none, 0, Nat.zero_le _, rfl, World.ownsRow_nil _ _ _ _, hP1, XR4, RR4, Nat.le_refl _, B4⟩
    case round =>
      clear hP1 XR4 RR4
      obtain ⟨k, A5, c5, hk, rfl, hown, hpr, hXr, hRr, hw4, hbw⟩ := hrel
      by_cases hlt : k < n
      · obtain ⟨A', n', c', e', hS⟩ := own_strs (xs := P.cut x1 ⟨#[44]⟩) (by rw [HL.out]; exact hpr.out) (fun x hx => by have := HX1.out x hx; unfold maxLen; omega)
        injection e' with e1 e2 e3
        subst e1 e2 e3
        obtain ⟨bt, ot, t, rfl, hbt, hxt, _, hct⟩ := hS.str hlt
        have hnc3 := hS.le
        have q1 : (k : Int) < (n : Int) := by omega
        have q2 : (n : Int) ≤ (c2 : Int) := by omega
        have hts : t.size ≤ maxLen := by have := HX1.out t (List.mem_of_getElem? hxt); unfold maxLen; omega
        have HT : Hid ((rdL x1)[k]? = some (l2N t)) := by show _ = _; unfold rdL; rw [List.getElem?_map, hxt]; rfl
        obtain ⟨hbtl, hbth⟩ : w3.heap.size + 1 ≤ bt ∧ bt < w4.heap.size := ⟨(hpr.out.lt bt rfl).1, hP2.out bt rfl⟩
        have C0 : wr.drew.cell? ⟨bt, ot + k, none⟩ = some (.string t) := hct
        have xl := hXr.out.lt
        have x1c : wr.drew.cell? ⟨w3.heap.size, 1, none⟩ = some (.slice A5 k c5) := hXr.out.cell 1
        have hrow : ∀ q, (Value.slice A5 k c5).ownBlock = some q → w4.heap.size ≤ q := fun q hq => (hown.out.lt q hq).1
        have h63 : k + 1 ≤ maxLen := by unfold maxLen; omega
        have hby : (k + 1) * 8 ≤ 140737488355328 := by omega
        clear hS hxt hct
        go_wp2_with fail
        refine wp_region_T 8 (fun w' => w'.cell? ⟨w3.heap.size, 1, none⟩ = some (.slice A5 k c5) ∧ w'.cell? ⟨bt, ot + k, none⟩ = some (.string t)) (by kernel_rfl) ⟨x1c, C0⟩ (fun hC => ?_)
        refine wpAnyT_take (i := 0) (v := ?v9_0) rfl (by kernel_rfl) (fun _ _ _ h => h) (Or.inl ⟨by rfl, ?h9_0⟩) (by assumption) ?r9_0; (case h9_0 => (intro w9 hC9; (try dsimp only at hC9); go_simp; (try with_reducible rfl))); (try simp only [Act.put, List.setIfInBounds_toArray, List.set_cons_zero, List.set_cons_succ])
        refine wpAnyT_take (i := 1) (v := ?v9_1) rfl (by kernel_rfl) (fun _ _ _ h => h) (Or.inl ⟨by rfl, ?h9_1⟩) (by assumption) ?r9_1; (case h9_1 => (intro w9 hC9; (try dsimp only at hC9); go_simp; (try with_reducible rfl))); (try simp only [Act.put, List.setIfInBounds_toArray, List.set_cons_zero, List.set_cons_succ])
        refine wpAnyT_take (i := 2) (v := ?v9_2) rfl (by kernel_rfl) (fun _ _ _ h => h) (Or.inl ⟨by rfl, ?h9_2⟩) (by assumption) ?r9_2; (case h9_2 => (intro w9 hC9; (try dsimp only at hC9); go_simp; (try with_reducible rfl))); (try simp only [Act.put, List.setIfInBounds_toArray, List.set_cons_zero, List.set_cons_succ])
        refine wpAnyT_take (i := 3) (v := ?v9_3) rfl (by kernel_rfl) (fun _ _ _ h => h) (Or.inl ⟨by rfl, ?h9_3⟩) (by assumption) ?r9_3; (case h9_3 => (intro w9 hC9; (try dsimp only at hC9); go_simp; (try with_reducible rfl))); (try simp only [Act.put, List.setIfInBounds_toArray, List.set_cons_zero, List.set_cons_succ])
        refine wpAnyT_take (i := 4) (v := ?v9_4) rfl (by kernel_rfl) (fun _ _ _ h => h) (Or.inl ⟨by rfl, ?h9_4⟩) (by assumption) ?r9_4; (case h9_4 => (intro w9 hC9; (try dsimp only at hC9); go_simp; (try with_reducible rfl))); (try simp only [Act.put, List.setIfInBounds_toArray, List.set_cons_zero, List.set_cons_succ])
        refine wpAnyT_take (i := 5) (v := ?v9_5) rfl (by kernel_rfl) (fun _ _ _ h => h) (Or.inl ⟨by rfl, ?h9_5⟩) (by assumption) ?r9_5; (case h9_5 => (intro w9 hC9; (try dsimp only at hC9); go_simp; (try with_reducible rfl))); (try simp only [Act.put, List.setIfInBounds_toArray, List.set_cons_zero, List.set_cons_succ])
        refine wpAnyT_rest 6 (by kernel_rfl) ?_; simp only [List.drop_succ_cons, List.drop_zero]
        refine wpListT_step rfl ?_
        go_wp2_with fail
        refine (l2Num _ hts).mono ?_
        rintro e w8 ⟨rfl, b8⟩
        have x8 := cellB x1c b8 (by simp; omega)
        have C8 := cellB C0 b8 (by simp; omega)
        have s8 := b8.size
        go_wp2
        refine ⟨fun _ => ⟨x8, C8⟩, ?_⟩
        refine wpListT_step rfl ?_
        go_wp2
        refine ⟨fun _ => ⟨cellA x8 _, cellA C8 _⟩, ?_⟩
        refine wpListT_end (by decide) rfl ?_
        have b8' := below_drew8 b8
        have hwr8 := b8'.size
        have hown8 := Lib.hid (own_below hown.out b8')
        have hpr8 := Lib.hid (own_below hpr.out b8')
        have hX8 := Lib.hid ((hXr.out.below b8' xl).alloc (.cells #[.int .i64 (l2N t)] 3))
        have hR8 := Lib.hid ((hRr.out.below b8' hRr.out.lt).alloc (.cells #[.int .i64 (l2N t)] 3))
        have hbw8 := Lib.hid ((hbw.trans (b8'.mono hbw.size)).alloc (by have := hbw.size; omega) (.cells #[.int .i64 (l2N t)] 3))
        clear b8 x8 C8
        go_wp2_with (at_builtin; refine wpList_append_own _ rfl _ _ 22 rfl w4.heap.size 3 i0 (.int .i64 0) 1 8 Try.underlying22 hi hz0 hz1 hz2 rfl (by decide) _ _ _ rfl (hown8.out.alloc _) ⟨w8.heap.size, 0, none⟩ 1 1 [_] rfl rfl (one_new _ _ _) (by simp [Value.oneCell']) (by unfold maxLen; omega) (by omega) (by simp; omega) ?_)
        intro v' w9 hown9 hgrow _
        obtain ⟨A9, c9, rfl, _, _⟩ := own_form hown9
        have hX9 := hX8.out.grown hgrow (fun e => by have := hrow _ e.symm; omega)
        have hR9 := hR8.out.grown hgrow (fun e => by have := hrow _ e.symm; have := hRr.out.lt; have := hbw.size; omega)
        have hpr9 := own_grown (hpr8.out.alloc _) hgrow (fun g hg e => by have := hrow g e.symm; have := hP2.out g hg; omega)
        have hB9 := Lib.hid (hbw8.out.grown hgrow (by have := hbw.size; simp; omega) (fun q hq => by have := hrow q hq; have := hbw.size; omega))
        have f1 := hX9.free 1
        have y1 : w9.cell? ⟨w3.heap.size, 1, none⟩ = some (.slice A5 k c5) := hX9.cell 1
        have hlt9 := hX9.lt
        have hs9 := hgrow.size
        simp at hs9
        have X10 : Hid (Row (w9.setCell ⟨w3.heap.size, 1, none⟩ (.slice A9 (k + 1) c9)) w3.heap.size 27 [.int .i64 p0, .slice A9 (k + 1) c9]) := hX9.set 1 _
        have R10 : Hid (Row (w9.setCell ⟨w3.heap.size, 1, none⟩ (.slice A9 (k + 1) c9)) w.heap.size 27 [.int .i64 0, .slice none 0 0]) := hR9.far (by show w.heap.size ≠ w3.heap.size; omega) _
        have P10 := Lib.hid (ownsRow_setCell_below hpr9 (a := ⟨w3.heap.size, 1, none⟩) (by show w3.heap.size < _; omega) (.slice A9 (k + 1) c9))
        have O10 : Hid ((w9.setCell ⟨w3.heap.size, 1, none⟩ (.slice A9 (k + 1) c9)).ownsRow w4.heap.size 3 1 (.slice A9 (k + 1) c9) (k + 1) (((rdL x1).take (k + 1)).map (Value.int .i64))) := by
          have := ownsRow_setCell_below hown9 (a := ⟨w3.heap.size, 1, none⟩) (by show w3.heap.size < _; omega) (.slice A9 (k + 1) c9)
          obtain ⟨hl9, e9⟩ := List.getElem?_eq_some_iff.1 HT.out
          show World.ownsRow _ _ _ _ _ _ _
          rw [List.take_succ_eq_append_getElem hl9, e9, List.map_append, List.map_take]
          exact this
        have B10 := Lib.hid (hB9.out.setCell (p := ⟨w3.heap.size, 1, none⟩) (by show w.heap.size ≤ w3.heap.size; omega) (.slice A9 (k + 1) c9))
        clear hX9 hR9 hpr9 hown9 hgrow hbw
        go_wp2
        go_roundw
        case rel => exact ⟨k + 1, A9, c9, by omega, by go_num, O10.out, P10.out, X10.out, R10.out, by simp; omega, B10.out⟩
        case measure => simp [intOf]; omega
      · have hkn : k = n := by omega
        subst hkn
        have hrl : (rdL x1).length = k := by unfold rdL; rw [List.length_map, HL.out]
        have OX := hown.out
        rw [List.take_of_length_le (by omega)] at OX
        have XX := hXr.out
        have RX := hRr.out
        obtain ⟨xs, hxs⟩ : ∃ xs, rdL x1 = xs := ⟨_, rfl⟩
        have FX : Hid (∀ x ∈ xs, Fit x) := by
          show ∀ x ∈ xs, Fit x
          rw [← hxs]
          intro x hx
          unfold rdL at hx
          obtain ⟨t, _, rfl⟩ := List.mem_map.1 hx
          exact l2N_fit _
        rw [hxs] at OX HREF hrl
        have hlo : w.heap.size < w4.heap.size := by omega
        clear hxs hown hXr hRr hpr
        have y0 : wr.cell? ⟨w3.heap.size, 0, none⟩ = some (.int .i64 p0) := XX.cell 0
        have y1 : wr.cell? ⟨w3.heap.size, 1, none⟩ = some (.slice A5 k c5) := XX.cell 1
        have f0 := RX.free 0
        have f1 := RX.free 1
        have hlt := RX.lt
        have hltx := XX.lt
        have c0 : wr.cell? ⟨w.heap.size, 0, none⟩ = some (.int .i64 0) := RX.cell 0
        have c1 : wr.cell? ⟨w.heap.size, 1, none⟩ = some (.slice none 0 0) := RX.cell 1
        have HPE : Hid ((s = ⟨#[]⟩ ∨ itemS (refI s) ≠ s) → parI s = ⟨0, []⟩ ∧ parIB s = false) := HI.out.2
        have HPY : Hid (s ≠ ⟨#[]⟩ → itemS ⟨p0, xs⟩ = s → parI s = ⟨p0, xs⟩ ∧ parIB s = true) := by
          have := HI.out.1
          rw [HREF.out] at this
          exact this
        have HPN : Hid (itemS ⟨p0, xs⟩ ≠ s → parI s = ⟨0, []⟩ ∧ parIB s = false) := fun h => HI.out.2 (.inr (by rw [HREF.out]; exact h))
        by_cases h0 : s = ⟨#[]⟩
        · have q0 : s.toList = [] := by rw [h0, ByteArray.toList_eq]
          have q1 : s.toList.isEmpty = true := by rw [q0]; rfl
          have HP := Lib.hid (HPE.out (.inl h0))
          have BN := Lib.hid ((hbw.setCell (p := ⟨w.heap.size, 0, none⟩) (Nat.le_refl _) (.int .i64 0)).setCell (p := ⟨w.heap.size, 1, none⟩) (Nat.le_refl _) (.slice none 0 0))
          clear h0 HPE HPY HPN OX hbw XX RX HI
          go_wp2
          refine bodyPost_ret (v := .tuple #[.agg #[.int .i64 0, .slice none 0 0], .bool false]) (by simp [results, Try.results32, go_sem, c0, c1]) rfl ?_
          refine ⟨_, ret_ib (x := ⟨0, []⟩) (v := .slice none 0 0) (b := false) ⟨HP.out.1.symm, HP.out.2.symm⟩, ?_, BN.out⟩
          rw [HP.out.1]; exact own_nilQ _ _ _
        · have q0 : ¬ s.toList = [] := fun e => h0 (by rw [ByteArray.toList_eq] at e; exact P.ba_ext e)
          have q1 : s.toList.isEmpty = false := by rw [List.isEmpty_eq_false_iff]; exact q0
          have S9 : Sl RI 1 wr wr.heap.size A5 k c5 xs := by
            obtain ⟨A', n', c', e', hS⟩ := own_ints (xs := xs) (by rw [hrl]; exact OX) FX.out
            injection e' with e1 e2 e3
            subst e1 e2 e3
            exact hS
          have OH := Lib.hid OX
          have XH := Lib.hid XX
          have RH := Lib.hid RX
          have BH := Lib.hid hbw
          have H0 := Lib.hid h0
          clear XX RX OX hbw h0 HI
          go_wp2_with fail
          refine (specFormatItem (x := ⟨p0, xs⟩) _ S9 hpf).mono ?_
          rintro e w6 ⟨rfl, b6⟩
          have hsz6 := b6.size
          have R6 := RH.out.below b6 (by omega)
          have X6 := XH.out.below b6 (by omega)
          have O6 := own_below OH.out b6
          have B6 := BH.out.trans (b6.mono BH.out.size)
          clear y0 y1 f0 f1 c0 c1 hlt hltx S9
          have f0 := R6.free 0
          have f1 := R6.free 1
          have hlt := R6.lt
          have c0 : w6.cell? ⟨w.heap.size, 0, none⟩ = some (.int .i64 0) := R6.cell 0
          have c1 : w6.cell? ⟨w.heap.size, 1, none⟩ = some (.slice none 0 0) := R6.cell 1
          have y0 : w6.cell? ⟨w3.heap.size, 0, none⟩ = some (.int .i64 p0) := X6.cell 0
          have y1 : w6.cell? ⟨w3.heap.size, 1, none⟩ = some (.slice A5 k c5) := X6.cell 1
          have hltx := X6.lt
          have BF := Lib.hid ((B6.setCell (p := ⟨w.heap.size, 0, none⟩) (Nat.le_refl _) (.int .i64 p0)).setCell (p := ⟨w.heap.size, 1, none⟩) (Nat.le_refl _) (.slice A5 k c5))
          have BN := Lib.hid ((B6.setCell (p := ⟨w.heap.size, 0, none⟩) (Nat.le_refl _) (.int .i64 0)).setCell (p := ⟨w.heap.size, 1, none⟩) (Nat.le_refl _) (.slice none 0 0))
          have OF : Hid ((((w6.setCell ⟨w.heap.size, 0, none⟩ (.int .i64 p0)).setCell ⟨w.heap.size, 1, none⟩ (.slice A5 k c5))).ownsRow w.heap.size 3 1 (.slice A5 k c5) xs.length (xs.map (Value.int .i64))) := by
            show World.ownsRow _ _ _ _ _ _ _
            rw [hrl]
            exact own_mono (b' := w.heap.size) (ownsRow_setCell_below (ownsRow_setCell_below O6 (a := ⟨w.heap.size, 0, none⟩) hlo (.int .i64 p0)) (a := ⟨w.heap.size, 1, none⟩) hlo (.slice A5 k c5)) (by omega)
          clear R6 X6 O6 B6 b6
          by_cases e : itemS ⟨p0, xs⟩ = s
          · have HP := Lib.hid (HPY.out H0.out e)
            have q := ba_yes e
            clear e HPE HPY HPN
            go_wp2
            refine bodyPost_ret (v := .tuple #[.agg #[.int .i64 p0, .slice A5 k c5], .bool true]) (by simp [results, Try.results32, go_sem, c0, c1]) rfl ?_
            refine ⟨_, ret_ib (x := ⟨p0, xs⟩) (b := true) ⟨HP.out.1.symm, HP.out.2.symm⟩, ?_, BF.out⟩
            rw [HP.out.1]
            exact ⟨OF.out, own_und OF.out⟩
          · have HP := Lib.hid (HPN.out e)
            have q := ba_no e
            clear e HPE HPY HPN
            go_wp2
            refine bodyPost_ret (v := .tuple #[.agg #[.int .i64 0, .slice none 0 0], .bool false]) (by simp [results, Try.results32, go_sem, c0, c1]) rfl ?_
            refine ⟨_, ret_ib (x := ⟨0, []⟩) (v := .slice none 0 0) (b := false) ⟨HP.out.1.symm, HP.out.2.symm⟩, ?_, BN.out⟩
            rw [HP.out.1]; exact own_nilQ _ _ _
  · have q : ((np : Int) == 2) = false := by simp; omega
    have RX := (R2.below b3 (by omega)).alloc (.cells #[.int .i64 p0, .slice none 0 0] 27)
    have XX := Row.new w3 27 [.int .i64 p0, .slice none 0 0]
    have B3 := (B2.trans (b3.mono (by omega))).alloc (by omega) (.cells #[.int .i64 p0, .slice none 0 0] 27)
    have OX : (w3.alloc (.cells #[.int .i64 p0, .slice none 0 0] 27)).ownsRow (w3.heap.size + 1) 3 1 (.slice none 0 0) 0 (([] : List Int).map (Value.int .i64)) := World.ownsRow_nil _ _ _ _
    have HREF : Hid (refI s = ⟨p0, []⟩) := by
      show _ = _
      unfold refI
      rw [HA.out, hp0, HNP.out, if_neg hl]
    obtain ⟨xs, hxs⟩ : ∃ xs : List Int, [] = xs := ⟨_, rfl⟩
    have hrl : xs.length = 0 := by rw [← hxs]; rfl
    have FX : Hid (∀ x ∈ xs, Fit x) := by
      show ∀ x ∈ xs, Fit x
      rw [← hxs]; simp
    have hlo : w.heap.size < w3.heap.size + 1 := by omega
    rw [hxs] at OX HREF
    clear hxs
    have y0 : (w3.alloc (.cells #[.int .i64 p0, .slice none 0 0] 27)).cell? ⟨w3.heap.size, 0, none⟩ = some (.int .i64 p0) := XX.cell 0
    have y1 : (w3.alloc (.cells #[.int .i64 p0, .slice none 0 0] 27)).cell? ⟨w3.heap.size, 1, none⟩ = some (.slice none 0 0) := XX.cell 1
    have f0 := RX.free 0
    have f1 := RX.free 1
    have hlt := RX.lt
    have hltx := XX.lt
    have c0 : (w3.alloc (.cells #[.int .i64 p0, .slice none 0 0] 27)).cell? ⟨w.heap.size, 0, none⟩ = some (.int .i64 0) := RX.cell 0
    have c1 : (w3.alloc (.cells #[.int .i64 p0, .slice none 0 0] 27)).cell? ⟨w.heap.size, 1, none⟩ = some (.slice none 0 0) := RX.cell 1
    have HPE : Hid ((s = ⟨#[]⟩ ∨ itemS (refI s) ≠ s) → parI s = ⟨0, []⟩ ∧ parIB s = false) := HI.out.2
    have HPY : Hid (s ≠ ⟨#[]⟩ → itemS ⟨p0, xs⟩ = s → parI s = ⟨p0, xs⟩ ∧ parIB s = true) := by
      have := HI.out.1
      rw [HREF.out] at this
      exact this
    have HPN : Hid (itemS ⟨p0, xs⟩ ≠ s → parI s = ⟨0, []⟩ ∧ parIB s = false) := fun h => HI.out.2 (.inr (by rw [HREF.out]; exact h))
    by_cases h0 : s = ⟨#[]⟩
    · have q0 : s.toList = [] := by rw [h0, ByteArray.toList_eq]
      have q1 : s.toList.isEmpty = true := by rw [q0]; rfl
      have HP := Lib.hid (HPE.out (.inl h0))
      have BN := Lib.hid ((B3.setCell (p := ⟨w.heap.size, 0, none⟩) (Nat.le_refl _) (.int .i64 0)).setCell (p := ⟨w.heap.size, 1, none⟩) (Nat.le_refl _) (.slice none 0 0))
      clear h0 HPE HPY HPN OX B3 XX RX HI
      go_wp2
      refine bodyPost_ret (v := .tuple #[.agg #[.int .i64 0, .slice none 0 0], .bool false]) (by simp [results, Try.results32, go_sem, c0, c1]) rfl ?_
      refine ⟨_, ret_ib (x := ⟨0, []⟩) (v := .slice none 0 0) (b := false) ⟨HP.out.1.symm, HP.out.2.symm⟩, ?_, BN.out⟩
      rw [HP.out.1]; exact own_nilQ _ _ _
    · have q0 : ¬ s.toList = [] := fun e => h0 (by rw [ByteArray.toList_eq] at e; exact P.ba_ext e)
      have q1 : s.toList.isEmpty = false := by rw [List.isEmpty_eq_false_iff]; exact q0
      have S9 : Sl RI 1 (w3.alloc (.cells #[.int .i64 p0, .slice none 0 0] 27)) (w3.alloc (.cells #[.int .i64 p0, .slice none 0 0] 27)).heap.size none 0 0 xs := by
        obtain ⟨A', n', c', e', hS⟩ := own_ints (xs := xs) (by rw [hrl]; exact OX) FX.out
        injection e' with e1 e2 e3
        subst e1 e2 e3
        exact hS
      have OH := Lib.hid OX
      have XH := Lib.hid XX
      have RH := Lib.hid RX
      have BH := Lib.hid B3
      have H0 := Lib.hid h0
      clear XX RX OX B3 h0 HI
      go_wp2_with fail
      refine (specFormatItem (x := ⟨p0, xs⟩) _ S9 hpf).mono ?_
      rintro e w6 ⟨rfl, b6⟩
      have hsz6 := b6.size
      have R6 := RH.out.below b6 (by omega)
      have X6 := XH.out.below b6 (by omega)
      have O6 := own_below OH.out b6
      have B6 := BH.out.trans (b6.mono BH.out.size)
      clear y0 y1 f0 f1 c0 c1 hlt hltx S9
      have f0 := R6.free 0
      have f1 := R6.free 1
      have hlt := R6.lt
      have c0 : w6.cell? ⟨w.heap.size, 0, none⟩ = some (.int .i64 0) := R6.cell 0
      have c1 : w6.cell? ⟨w.heap.size, 1, none⟩ = some (.slice none 0 0) := R6.cell 1
      have y0 : w6.cell? ⟨w3.heap.size, 0, none⟩ = some (.int .i64 p0) := X6.cell 0
      have y1 : w6.cell? ⟨w3.heap.size, 1, none⟩ = some (.slice none 0 0) := X6.cell 1
      have hltx := X6.lt
      have BF := Lib.hid ((B6.setCell (p := ⟨w.heap.size, 0, none⟩) (Nat.le_refl _) (.int .i64 p0)).setCell (p := ⟨w.heap.size, 1, none⟩) (Nat.le_refl _) (.slice none 0 0))
      have BN := Lib.hid ((B6.setCell (p := ⟨w.heap.size, 0, none⟩) (Nat.le_refl _) (.int .i64 0)).setCell (p := ⟨w.heap.size, 1, none⟩) (Nat.le_refl _) (.slice none 0 0))
      have OF : Hid ((((w6.setCell ⟨w.heap.size, 0, none⟩ (.int .i64 p0)).setCell ⟨w.heap.size, 1, none⟩ (.slice none 0 0))).ownsRow w.heap.size 3 1 (.slice none 0 0) xs.length (xs.map (Value.int .i64))) := by
        show World.ownsRow _ _ _ _ _ _ _
        rw [hrl]
        exact own_mono (b' := w.heap.size) (ownsRow_setCell_below (ownsRow_setCell_below O6 (a := ⟨w.heap.size, 0, none⟩) hlo (.int .i64 p0)) (a := ⟨w.heap.size, 1, none⟩) hlo (.slice none 0 0)) (by omega)
      clear R6 X6 O6 B6 b6
      by_cases e : itemS ⟨p0, xs⟩ = s
      · have HP := Lib.hid (HPY.out H0.out e)
        have q := ba_yes e
        clear e HPE HPY HPN
        go_wp2
        refine bodyPost_ret (v := .tuple #[.agg #[.int .i64 p0, .slice none 0 0], .bool true]) (by simp [results, Try.results32, go_sem, c0, c1]) rfl ?_
        refine ⟨_, ret_ib (x := ⟨p0, xs⟩) (b := true) ⟨HP.out.1.symm, HP.out.2.symm⟩, ?_, BF.out⟩
        rw [HP.out.1]
        exact ⟨OF.out, own_und OF.out⟩
      · have HP := Lib.hid (HPN.out e)
        have q := ba_no e
        clear e HPE HPY HPN
        go_wp2
        refine bodyPost_ret (v := .tuple #[.agg #[.int .i64 0, .slice none 0 0], .bool false]) (by simp [results, Try.results32, go_sem, c0, c1]) rfl ?_
        refine ⟨_, ret_ib (x := ⟨0, []⟩) (v := .slice none 0 0) (b := false) ⟨HP.out.1.symm, HP.out.2.symm⟩, ?_, BN.out⟩
        rw [HP.out.1]; exact own_nilQ _ _ _
end Go.Proofs.Ytncaamjmidmmdaa.Wk
