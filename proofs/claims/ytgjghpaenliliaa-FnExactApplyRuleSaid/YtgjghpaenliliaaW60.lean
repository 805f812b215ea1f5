/-
  Walks of chapters 2, 4, 5: numbers, wishes and nodes copied by the program.
  Conditions: none beyond the bounds that each states.
-/
import Derived.Test.YtgjghpaenliliaaU7
import Derived.Test.YtgjghpaenliliaaM14
import Derived.Test.YtgjghpaenliliaaM15
import Derived.Deep.RegionHeld3
import Derived.Deep.AppendLies
namespace Go.Proofs.Ytgjghpaenliliaa.Wk
open Go.RowKit Go.Proofs.Ytgjghpaenliliaa.M
set_option linter.unusedVariables false
attribute [local go_sem] cell_grow

theorem info_i4 : (Try.prog.info? 3).map (fun i => (i.zero, i.size, i.bytes)) = some (some (.int .i64 0), 1, 8) := by kernel_rfl
theorem info_p4 : (Try.prog.info? 92).map (fun i => (i.zero, i.size, i.bytes)) = some (some (.agg #[.int .i64 0, .int .i64 0]), 2, 16) := by kernel_rfl
set_option maxHeartbeats 800000 in
theorem copyInts {A : Option Addr} {n c : Nat} {xs : List Int} (w : World) (h : Sl RI 1 w w.heap.size A n c xs) (hn : n ≤ 1048576) :
    Calls Try.prog 99 #[.slice A n c] w fun e w' => ∃ v, e = .returned v ∧ w'.ownsRow w.heap.size 3 1 v xs.length (xs.map (Value.int .i64)) ∧ Below w.heap.size w w' := by
  obtain ⟨i0, hi, hz0, hz1, hz2⟩ := info_parts info_i4
  have BW := (Below.refl w.heap.size w).alloc (Nat.le_refl _) (.cells #[] 3)
  have h1 := h.on RI.keeps BW
  have hl := h.len
  have HC := Lib.hid (slI_cells h1)
  have HS := Lib.hid (slI_some h1)
  have hown := own_emptyS w 3 1
  clear h h1
  go_enter Try.func99, Try.ntmps99
  go_wp2_with (at_builtin; refine append_slice rfl _ _ 29 rfl w.heap.size 3 i0 (.int .i64 0) 1 8 Try.underlying29 hi hz0 hz1 hz2 rfl (by decide) _ 0 [] rfl hown A n c (xs.map (Value.int .i64)) rfl (by rw [List.length_map]; omega) HS.out HC.out (ints_one xs) (by unfold maxLen; omega) (by omega) (by simp) ?_)
  intro v' w4 hown4 hgrow
  have hbw4 := Lib.hid (BW.grown hgrow BW.size (fun k hk => (hown.lt k hk).1))
  have hown5 : Hid (w4.ownsRow w.heap.size 3 1 v' xs.length (xs.map (Value.int .i64))) := by
    refine Lib.hid ?_
    rw [hl]
    simpa using hown4
  clear hown4 hgrow hown
  go_wp2
  go_ret
  exact ⟨_, rfl, hown5.out, hbw4.out⟩
set_option maxHeartbeats 1600000 in
set_option maxRecDepth 100000 in
theorem copyWish {A E : Option Addr} {n c m d : Nat} {x : Wi} (w : World) (h : Sl RI 1 w w.heap.size A n c x.list) (g : Sl RP 2 w w.heap.size E m d x.pairs) (hn : n ≤ 1048576) (hm : m ≤ 1048576) :
    Calls Try.prog 79 #[.agg #[.int .i64 x.kind, .int .i64 x.field, .int .i64 x.value, .slice A n c, .slice E m d]] w (RetWO w x) := by
  obtain ⟨i0, hi, hz0, hz1, hz2⟩ := info_parts info_p4
  have B2 := ((Below.refl w.heap.size w).alloc (Nat.le_refl _) (.cells [Value.int .i64 x.kind, .int .i64 x.field, .int .i64 x.value, .slice A n c, .slice E m d].toArray 53)).alloc (by simp) (.cells [Value.int .i64 0, .int .i64 0, .int .i64 0, .slice none 0 0, .slice none 0 0].toArray 53)
  have R0 := (Row.new w 53 [.int .i64 x.kind, .int .i64 x.field, .int .i64 x.value, .slice A n c, .slice E m d]).alloc (.cells [Value.int .i64 0, .int .i64 0, .int .i64 0, .slice none 0 0, .slice none 0 0].toArray 53)
  have R1 := Row.new (w.alloc (.cells [Value.int .i64 x.kind, .int .i64 x.field, .int .i64 x.value, .slice A n c, .slice E m d].toArray 53)) 53 [.int .i64 0, .int .i64 0, .int .i64 0, .slice none 0 0, .slice none 0 0]
  have H2 := h.on RI.keeps B2
  have G2 := g.on RP.keeps B2
  have gl := g.len
  clear h
  go_enter Try.func79, Try.ntmps79
  go_wp2_with fail
  refine (copyInts _ H2 hn).mono ?_
  rintro e w1 ⟨v1, rfl, ho1, b1⟩
  obtain ⟨A1, c1, rfl, _, _⟩ := own_form ho1
  have R0 := R0.below b1 (by simp; omega)
  have R1 := R1.below b1 (by simp)
  have BB := B2.trans (b1.mono B2.size)
  simp only [World.size_alloc] at R1 ho1
  have z2 : w.heap.size + 1 + 1 ≤ w1.heap.size := by have := b1.size; simp at this; omega
  have BS := BB.setCell (p := ⟨w.heap.size, 3, none⟩) (Nat.le_refl _) (.slice A1 x.list.length c1)
  have S0 := (R0.set 3 (.slice A1 x.list.length c1)).alloc (.cells #[] 92)
  have S1 := (R1.far (p := ⟨w.heap.size, 3, none⟩) (by simp) (.slice A1 x.list.length c1)).alloc (.cells #[] 92)
  have OS := (ownsRow_setCell_below ho1 (a := ⟨w.heap.size, 3, none⟩) (by simp; omega) (.slice A1 x.list.length c1)).alloc (.cells #[] 92)
  have hz : (w1.setCell ⟨w.heap.size, 3, none⟩ (.slice A1 x.list.length c1)).heap.size = w1.heap.size := by simp
  have BS2 := BS.alloc (by rw [hz]; omega) (.cells #[] 92)
  have OP := own_emptyS (w1.setCell ⟨w.heap.size, 3, none⟩ (.slice A1 x.list.length c1)) 92 2
  rw [hz] at OP
  have G4 := g.on RP.keeps BS2
  have HC := Lib.hid (slP_cells G4)
  have HS := Lib.hid (slI_some G4)
  have hsW2 : ((w1.setCell ⟨w.heap.size, 3, none⟩ (.slice A1 x.list.length c1)).alloc (.cells #[] 92)).heap.size = w1.heap.size + 1 := by simp
  have hoA : ∀ q, (Value.slice A1 x.list.length c1).ownBlock = some q → w.heap.size + 1 + 1 ≤ q ∧ q < w1.heap.size := fun q hq => ho1.lt q hq
  have c00 := R0.cell 0
  have c01 := R0.cell 1
  have c02 := R0.cell 2
  have c03 := R0.cell 3
  have c04 := R0.cell 4
  have f03 := R0.free 3
  have f04 := R0.free 4
  simp at c00 c01 c02 c03 c04
  have z0 := R0.lt
  have z1 := R1.lt
  clear ho1 G4 G2 H2 g BB B2 b1
  go_wp2_with (at_builtin; refine append_slice rfl _ _ 51 rfl w1.heap.size 92 i0 (.agg #[.int .i64 0, .int .i64 0]) 2 16 Try.underlying51 hi hz0 hz1 hz2 rfl (by decide) _ 0 [] rfl OP E m d (prc x.pairs) rfl (by rw [prc_len]; omega) HS.out HC.out (prc_one x.pairs) (by unfold maxLen; omega) (by omega) (by rw [hsW2]; omega) ?_)
  intro v' w4 hown4 hgrow
  have hne : ∀ k, (Value.slice (some ⟨w1.heap.size, 0, none⟩) 0 0).ownBlock = some k → k = w1.heap.size := fun k hk => by injection hk with hk; exact hk.symm
  have Q0 := S0.grown hgrow (fun e => by have := hne _ e.symm; omega)
  have Q1 := S1.grown hgrow (fun e => by have := hne _ e.symm; omega)
  have OA := own_grown OS hgrow (fun q hq e => by have := hne _ e.symm; have := (hoA q hq).2; omega)
  have B4 := Lib.hid (BS2.grown hgrow BS2.size (fun k hk => by have := hne k hk; omega))
  obtain ⟨E2, d2, rfl, _, _⟩ := own_form hown4
  have OB : Hid (w4.ownsRow w1.heap.size 92 2 (.slice E2 m d2) x.pairs.length (prc x.pairs)) := by
    refine Lib.hid ?_
    have h3 : w4.ownsRow w1.heap.size 92 2 (.slice E2 m d2) m (prc x.pairs) := by simpa using hown4
    rw [gl]
    exact h3
  have HFar : Hid (Far (.slice A1 x.list.length c1) (.slice E2 m d2)) := by
    cases hv : (Value.slice A1 x.list.length c1).ownBlock with
    | none => exact .inl hv
    | some q =>
      refine .inr fun hh => ?_
      rw [hv] at hh
      have g1 := (hoA q hv).2
      have g2 := (hown4.lt q hh.symm).1
      omega
  have HOA := Lib.hid OA
  have q00 := Q0.cell 0
  have q01 := Q0.cell 1
  have q02 := Q0.cell 2
  have q03 := Q0.cell 3
  have q04 := Q0.cell 4
  have h04 := Q0.free 4
  have q10 := Q1.cell 0
  have q11 := Q1.cell 1
  have q12 := Q1.cell 2
  have q13 := Q1.cell 3
  have q14 := Q1.cell 4
  have h10 := Q1.free 0
  have h11 := Q1.free 1
  have h12 := Q1.free 2
  have h13 := Q1.free 3
  have h14 := Q1.free 4
  have y0 := Q0.lt
  have y1 := Q1.lt
  simp at q00 q01 q02 q03 q04 q10 q11 q12 q13 q14
  clear S0 S1 OS BS2 OP hown4 hgrow OA Q0 Q1 R0 R1 BS HC HS hne c00 c01 c02 c03 c04 f03 f04
  go_wp2
  refine bodyPost_ret (v := .agg #[.int .i64 x.kind, .int .i64 x.field, .int .i64 x.value, .slice A1 x.list.length c1, .slice E2 m d2]) (by simp [results, Try.results79, go_sem, q10, q11, q12, q13, q14]) rfl ?_
  refine ⟨_, _, rfl, OwnW.mono (lo := w.heap.size + 1 + 1) ?_ (by omega), ?_⟩
  · repeat (refine OwnW.far ?_ (by first | (simp; done) | (simp; omega)) _)
    exact ⟨HOA.out, own_mono OB.out (by omega), HFar.out⟩
  · repeat (refine Below.setCell ?_ (by first | (simp; done) | (simp; omega)) _)
    exact B4.out
theorem copyWishE {A E : Option Addr} {n c m d : Nat} {x : Wi} (w : World) (h : Sl RI 1 w w.heap.size A n c x.list) (g : Sl RP 2 w w.heap.size E m d x.pairs) (hn : n ≤ 1048576) (hm : m ≤ 1048576) :
    Calls Try.prog 79 #[.agg #[.int .i64 x.kind, .int .i64 x.field, .int .i64 x.value, .slice A n c, .slice E m d]] w fun e w' => ∃ A2 c2 E2 d2, e = .returned (.agg #[.int .i64 x.kind, .int .i64 x.field, .int .i64 x.value, .slice A2 x.list.length c2, .slice E2 x.pairs.length d2]) ∧ OwnW w' w.heap.size 3 92 x (.slice A2 x.list.length c2) (.slice E2 x.pairs.length d2) ∧ Below w.heap.size w w' :=
  (copyWish w h g hn hm).mono fun e w' ⟨u, v, he, ho, hb⟩ => by
    obtain ⟨A2, c2, rfl, _, _⟩ := own_form ho.1
    obtain ⟨E2, d2, rfl, _, _⟩ := own_form ho.2.1
    exact ⟨A2, c2, E2, d2, he, ho, hb⟩
theorem six_new (w : World) (a b c d e f : Value) (t : TypeId) : ∀ j u, [a, b, c, d, e, f][j]? = some u → (w.alloc (.cells #[a, b, c, d, e, f] t)).cell? ((⟨w.heap.size, 0, none⟩ : Addr).add j) = some u := by
  intro j u hj
  match j, hj with
  | 0, hj => simp at hj; subst hj; simp [Addr.add]
  | 1, hj => simp at hj; subst hj; simp [Addr.add]
  | 2, hj => simp at hj; subst hj; simp [Addr.add]
  | 3, hj => simp at hj; subst hj; simp [Addr.add]
  | 4, hj => simp at hj; subst hj; simp [Addr.add]
  | 5, hj => simp at hj; subst hj; simp [Addr.add]
  | j + 6, hj => simp at hj
theorem below_of_drew {W w8 : World} (h : Below W.drew.heap.size W.drew w8) : Below W.heap.size W w8 := (Below.refl W.heap.size W).drew.trans h
theorem row_of_drew {w w8 : World} {E : TypeId} {xs : List Value} (h : Below (w.alloc (.cells xs.toArray E)).drew.heap.size (w.alloc (.cells xs.toArray E)).drew w8) : Row w8 w.heap.size E xs :=
  (Row.new w E xs).drew.below h (by
    have : (w.alloc (.cells xs.toArray E)).drew.heap.size = (w.alloc (.cells xs.toArray E)).heap.size := rfl
    rw [this]; simp)
theorem sl_drew {α : Type} {R : Rep α} {sz n c : Nat} {A : Option Addr} {l : List α} {w : World} (h : Sl R sz w w.heap.size A n c l) (K : Keeps R) : Sl R sz w.drew w.drew.heap.size A n c l := h.on K (Below.refl _ _).drew
theorem lt_alloc_drew (w : World) (o : Obj) : w.heap.size < (w.alloc o).drew.heap.size := by
  have : (w.alloc o).drew.heap.size = (w.alloc o).heap.size := rfl
  rw [this]; simp
/-- What a region holds on to of a box of six cells. -/
theorem boxS {w' : World} {g : Nat} {E : TypeId} {a b c d e f : Value} (h : Row w' g E [a, b, c, d, e, f]) :
    Row w' g E [a, b, c, d, e, f] ∧ w'.cell? ⟨g, 0, none⟩ = some a ∧ w'.cell? ⟨g, 1, none⟩ = some b ∧ w'.cell? ⟨g, 2, none⟩ = some c ∧ w'.cell? ⟨g, 3, none⟩ = some d ∧ w'.cell? ⟨g, 4, none⟩ = some e ∧ w'.cell? ⟨g, 5, none⟩ = some f :=
  ⟨h, h.cell 0, h.cell 1, h.cell 2, h.cell 3, h.cell 4, h.cell 5⟩
theorem size_le_alloc (w : World) (o : Obj) : w.heap.size ≤ (w.alloc o).heap.size := by simp
theorem ones6 {a b c d e f : Value} (h1 : a.oneCell' = true) (h2 : b.oneCell' = true) (h3 : c.oneCell' = true) (h4 : d.oneCell' = true) (h5 : e.oneCell' = true) (h6 : f.oneCell' = true) : ∀ u ∈ [a, b, c, d, e, f], u.oneCell' = true := by
  intro u hu
  simp at hu
  rcases hu with rfl | rfl | rfl | rfl | rfl | rfl <;> assumption
set_option maxHeartbeats 3200000 in
set_option maxRecDepth 100000 in
theorem copyNodes {A : Option Addr} {n c : Nat} {l : List Nd} (w : World) (h : Sl RN 6 w w.heap.size A n c l) (hn : n ≤ 1048576) (hfit : ∀ x ∈ l, x.wish.list.length ≤ 1048576 ∧ x.wish.pairs.length ≤ 1048576) : Calls Try.prog 43 #[.slice A n c] w (RetNd w l) := by
  obtain ⟨i0, hi, hz0, hz1, hz2⟩ := info_parts info_node
  have HL := Lib.hid h.len
  have HFI := Lib.hid hfit
  go_enter Try.func43, Try.ntmps43
  go_wp2
  go_loopw [3, 5, 9] (fun vo v5 vk wr => ∃ (k : Nat) (ps : List NdC), k ≤ n ∧ vk = .int .i64 k ∧ Hid (ps.map (·.1) = l.take k) ∧ Hid (ps.length = k) ∧ PartN wr w.heap.size 55 3 92 vo ps ∧ Below w.heap.size w wr) (fun _ _ vk _ => n - (intOf vk).toNat)
  case atStart => exact ⟨0, [], Nat.zero_le _, rfl, rfl, rfl, PartN.nil w _ _ _, (Below.refl _ _).alloc (Nat.le_refl _) _⟩
  case round =>
    clear hfit
    obtain ⟨k, ps, hk, rfl, HM, HPL, hpart, hbw⟩ := hrel
    by_cases hlt : k < n
    · obtain ⟨b, o, x, A1, n1, c1, E1, m1, d1, rfl, hb, hx, hf, hs, ht1, g0, g1, g2, g3, g4, g5⟩ := nodeAt h hlt
      have e0 := ((cell_of hbw) b (o + k * 6) hb).trans g0
      have e1 := ((cell_of hbw) b (o + k * 6 + 1) hb).trans g1
      have e2 := ((cell_of hbw) b (o + k * 6 + 2) hb).trans g2
      have e3 := ((cell_of hbw) b (o + k * 6 + 3) hb).trans g3
      have e4 := ((cell_of hbw) b (o + k * 6 + 4) hb).trans g4
      have e5 := ((cell_of hbw) b (o + k * 6 + 5) hb).trans g5
      have hsz := hbw.size
      have BW := (Below.refl wr.heap.size wr).alloc (Nat.le_refl _) (.cells #[.int .i64 x.op, .int .i64 x.wish.kind, .int .i64 x.wish.field, .int .i64 x.wish.value, .slice A1 n1 c1, .slice E1 m1 d1] 55)
      have HS := Lib.hid ((hs.on RI.keeps hbw).on RI.keeps BW)
      have HT := Lib.hid ((ht1.on RP.keeps hbw).on RP.keeps BW)
      have HPT := Lib.hid (hpart.below BW)
      have HB := Lib.hid (hbw.trans (BW.mono hsz))
      obtain ⟨fl, fp⟩ := HFI.out x (List.mem_of_getElem? hx)
      have n1e : n1 ≤ 1048576 := by have := hs.len; omega
      have m1e : m1 ≤ 1048576 := by have := ht1.len; omega
      have HX := Lib.hid hx
      obtain ⟨A', c', hv, _, _⟩ := own_form hpart.out
      subst hv
      have hpl := HPL.out
      subst hpl
      have h63 : ps.length + 1 ≤ maxLen := by unfold maxLen; omega
      have hby : (ps.length + 1) * 80 ≤ 140737488355328 := by omega
      have hw : (wr.alloc (.cells #[.int .i64 x.op, .int .i64 x.wish.kind, .int .i64 x.wish.field, .int .i64 x.wish.value, .slice A1 n1 c1, .slice E1 m1 d1] 55)).heap.size = wr.heap.size + 1 := by simp
      have hne : some wr.heap.size ≠ (Value.slice A' ps.length c').ownBlock := fun e => by have := (hpart.out.lt _ e.symm).2; omega
      clear h hx g0 g1 g2 g3 g4 g5 hs ht1 hpart hbw BW hf
      go_wp2_with fail
      go_region_held3 (fun w' => Row w' wr.heap.size 55 [.int .i64 x.op, .int .i64 x.wish.kind, .int .i64 x.wish.field, .int .i64 x.wish.value, .slice A1 n1 c1, .slice E1 m1 d1] ∧ w'.cell? ⟨wr.heap.size, 0, none⟩ = some (.int .i64 x.op) ∧ w'.cell? ⟨wr.heap.size, 1, none⟩ = some (.int .i64 x.wish.kind) ∧ w'.cell? ⟨wr.heap.size, 2, none⟩ = some (.int .i64 x.wish.field) ∧ w'.cell? ⟨wr.heap.size, 3, none⟩ = some (.int .i64 x.wish.value) ∧ w'.cell? ⟨wr.heap.size, 4, none⟩ = some (.slice A1 n1 c1) ∧ w'.cell? ⟨wr.heap.size, 5, none⟩ = some (.slice E1 m1 d1)) (first | exact boxS (Row.new wr 55 [.int .i64 x.op, .int .i64 x.wish.kind, .int .i64 x.wish.field, .int .i64 x.wish.value, .slice A1 n1 c1, .slice E1 m1 d1]).drew | exact boxS hR8 | exact boxS (hR8.alloc _) | exact boxS ((hR8.alloc _).grown hgrow hne) | fail) (first | (go_simp; go_at_call 79; with_reducible (refine (copyWishE (x := x.wish) _ (sl_drew HS.out RI.keeps) (sl_drew HT.out RP.keeps) n1e m1e).mono ?_); rintro e w8 ⟨A2, c2, E2, d2, rfl, how, hb8⟩; have hR8 := row_of_drew hb8; have hS8 := below_of_drew hb8; have hs8 : w.heap.size ≤ w8.heap.size := Nat.le_trans HB.out.size hS8.size) | (refine step_append_lies _ (by rfl) _ _ _ (by rfl) w.heap.size 55 i0 _ 6 80 Try.underlying25 hi hz0 hz1 hz2 rfl (Nat.zero_lt_succ 5) _ _ _ (by rfl) ((HPT.out.below hS8).out.alloc _) ⟨w8.heap.size, 0, none⟩ 1 1 [.int .i64 x.op, .int .i64 x.wish.kind, .int .i64 x.wish.field, .int .i64 x.wish.value, .slice A2 x.wish.list.length c2, .slice E2 x.wish.pairs.length d2] (by rfl) (by rfl) (six_new _ _ _ _ _ _ _ _) (ones6 rfl rfl rfl rfl rfl rfl) Nat.one_pos h63 hby (Nat.le_trans hs8 (size_le_alloc _ _)) _ rfl ?_; intro gg cap w1 hown1 hgrow hat hgl) | fail)
      have hP1 : Hid (PartN w1 w.heap.size 55 3 92 (.slice (some ⟨gg, 0, none⟩) (ps.length + 1) cap) (ps ++ [(x, .slice A2 x.wish.list.length c2, .slice E2 x.wish.pairs.length d2)])) :=
        HPT.out.append (x := x) hS8 how (by first | exact Nat.le_refl _ | (simp; done)) HB.out.size ((Below.refl w8.heap.size w8).alloc (Nat.le_refl _) _) hgrow hown1 hat
      have hB1 := Lib.hid (((HB.out.trans (hS8.mono HB.out.size)).alloc hs8 (.cells #[.int .i64 x.op, .int .i64 x.wish.kind, .int .i64 x.wish.field, .int .i64 x.wish.value, .slice A2 x.wish.list.length c2, .slice E2 x.wish.pairs.length d2] 55)).grown hgrow (by simp; omega) (fun q hq => (HPT.out.out.lt q hq).1))
      have HM2 : Hid ((ps ++ [(x, Value.slice A2 x.wish.list.length c2, Value.slice E2 x.wish.pairs.length d2)]).map (·.1) = l.take (ps.length + 1)) := by
        show _ = _
        obtain ⟨hl, e⟩ := List.getElem?_eq_some_iff.1 HX.out
        rw [List.map_append, HM.out, List.take_succ_eq_append_getElem hl, e]
        rfl
      have HPL2 : Hid ((ps ++ [(x, Value.slice A2 x.wish.list.length c2, Value.slice E2 x.wish.pairs.length d2)]).length = ps.length + 1) := by show _ = _; rw [List.length_append]; rfl
      clear how hb8 hS8 hown1 hgrow hat
      go_wp2
      go_roundw
      case rel => exact ⟨ps.length + 1, _, by omega, by go_num, HM2, HPL2, hP1.out, hB1.out⟩
      case measure => simp [intOf]; omega
    · have hkn : k = n := by omega
      obtain ⟨A', c', hv, _, _⟩ := own_form hpart.out
      subst hv
      have HM3 : Hid (ps.map (·.1) = l) := by
        show _ = _
        rw [HM.out, List.take_of_length_le (by have := HL.out; omega)]
      have HO : Hid (OwnNd wr w.heap.size wr.heap.size (.slice A' ps.length c') l) := by
        refine ⟨ps, HM3.out, fun p hp => ⟨hpart.rows.each p hp, own_und (hpart.rows.each p hp).1, own_und (hpart.rows.each p hp).2.1⟩, hpart.rows.apart, ?_, own_und hpart.out, hpart.far⟩
        rw [← HM3.out, List.length_map]
        exact hpart.out
      clear h hpart
      go_wp2
      go_ret
      exact ⟨_, rfl, by first | exact HO.out | (rw [← HPL.out]; exact HO.out), hbw⟩
end Go.Proofs.Ytgjghpaenliliaa.Wk
