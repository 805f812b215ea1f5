/-
  The given statement on laws.FnOrders: for every input that the row speaks of, the call returns true and the arguments read as before.
  Conditions: none beyond the row's own.
-/
import Derived.Test.YtmglapndpcfafaaP11
import Derived.Test.YtmglapndpcfafaaP15
import Derived.Test.YtmglapndpcfafaaP16
import Derived.Test.YtmglapndpcfafaaW83
import Derived.Test.YtmglapndpcfafaaW84
import Derived.Test.YtmglapndpcfafaaW85
import Derived.Test.YtmglapndpcfafaaW55
import Derived.Test.YtmglapndpcfafaaW56
import Derived.Test.YtmglapndpcfafaaW33
import Derived.Test.YtmglapndpcfafaaO1
import Derived.Test.YtmglapndpcfafaaRows
import Derived.ProofKit
import Derived.OpenShut
import Derived.ShutString
import Derived.ChangeOld
import Derived.Below
namespace Go.Proofs.Ytmglapndpcfafaa.P
set_option linter.unusedVariables false

theorem fold_ge {g : Int → Int} {v : Int} : ∀ (m : List (Int × Int)) (a : Int), a ≤ m.foldl (fun a p => if p.2 = v then max a (g p.1 + 1) else a) a
  | [], a => Int.le_refl _
  | p :: t, a => by
    rw [List.foldl_cons]
    refine Int.le_trans ?_ (fold_ge t _)
    split <;> omega
theorem fold_mem {g : Int → Int} {v : Int} {p : Int × Int} : ∀ (m : List (Int × Int)) (a : Int), p ∈ m → p.2 = v → g p.1 + 1 ≤ m.foldl (fun a p => if p.2 = v then max a (g p.1 + 1) else a) a
  | q :: t, a, h, hv => by
    rw [List.foldl_cons]
    rcases List.mem_cons.1 h with rfl | h
    · rw [if_pos hv]
      exact Int.le_trans (by omega) (fold_ge t _)
    · exact fold_mem t _ h hv
theorem fold_congr {g g' : Int → Int} {v : Int} : ∀ (m : List (Int × Int)) (a : Int), (∀ p ∈ m, p.2 = v → g p.1 = g' p.1) → m.foldl (fun a p => if p.2 = v then max a (g p.1 + 1) else a) a = m.foldl (fun a p => if p.2 = v then max a (g' p.1 + 1) else a) a
  | [], a, _ => rfl
  | q :: t, a, h => by
    rw [List.foldl_cons, List.foldl_cons]
    by_cases e : q.2 = v
    · rw [if_pos e, if_pos e, h q (by simp) e]
      exact fold_congr t _ fun p hp => h p (by simp [hp])
    · rw [if_neg e, if_neg e]
      exact fold_congr t _ fun p hp => h p (by simp [hp])
/-- Enough steps: the height stands. -/
theorem hgt_stable {l : List (Int × Int)} (h : okP l = true) : ∀ (f : Nat) (v : Int), rnk l v ≤ f → hgt l (f + 1) v = hgt l f v
  | 0, v, hr => by
    rw [hgt, hgt]
    rw [fold_congr (g' := fun _ => 0) l 0 (fun p hp e => by have := rnk_lt h hp; rw [e] at this; omega)]
    have : ∀ (m : List (Int × Int)), (∀ p ∈ m, p ∈ l) → m.foldl (fun a p => if p.2 = v then max a ((fun _ => (0 : Int)) p.1 + 1) else a) 0 = 0 := by
      intro m
      induction m with
      | nil => intro _; rfl
      | cons q t ih =>
        intro hm
        rw [List.foldl_cons, if_neg (fun e => by have := rnk_lt h (hm q (by simp)); rw [e] at this; omega)]
        exact ih fun p hp => hm p (by simp [hp])
    exact this l fun p hp => hp
  | f + 1, v, hr => by
    rw [hgt, hgt]
    refine fold_congr l 0 fun p hp e => ?_
    have := rnk_lt h hp
    rw [e] at this
    exact hgt_stable h f p.1 (by omega)
theorem hgt_lt {l : List (Int × Int)} (h : okP l = true) {a b : Int} (hp : Path l a b) : hgt l 11 a < hgt l 11 b := by
  induction hp with
  | @one a b hm =>
    have h1 := fold_mem (g := hgt l 11) (v := b) l 0 hm rfl
    have h2 : hgt l (11 + 1) b = l.foldl (fun a p => if p.2 = b then max a (hgt l 11 p.1 + 1) else a) 0 := by rw [hgt]
    rw [← h2, hgt_stable h 11 b (by have := rnk_le l b; omega)] at h1
    simp only at h1
    omega
  | two _ _ h1 h2 => omega
theorem abv_lt {l : List (Int × Int)} (h : okP l = true) {a b : Int} (hp : abv l a b = true) : hgt l 11 a < hgt l 11 b := hgt_lt h (abv_iff.1 hp)
theorem closR_mem {l : List (Int × Int)} {p : Int × Int} (hp : p ∈ closR l) : okP l = true ∧ (0 ≤ p.1 ∧ p.1 < 10) ∧ (0 ≤ p.2 ∧ p.2 < 10) ∧ abv l p.1 p.2 = true := by
  unfold closR at hp
  cases e : okP l with
  | false => rw [e] at hp; simp at hp
  | true =>
    rw [e, if_pos rfl] at hp
    obtain ⟨h1, h2, h3⟩ := closC_mem hp
    exact ⟨rfl, ⟨h1.1, by omega⟩, h2, h3⟩
theorem abv_asym {l : List (Int × Int)} (h : okP l = true) {a b : Int} (hp : abv l a b = true) : abv l b a = false := by
  cases e : abv l b a with
  | false => rfl
  | true =>
    have := abv_trans hp e
    rw [okP_irr h a] at this; cases this
/-! ### the order of a linearization -/
theorem next_rdy {l : List (Int × Int)} (h : okP l = true) {S : List Int} (hS : S.length < 10) : rdy l S (nextV l S : Nat) = true := by
  obtain ⟨v, hv, hr⟩ := some_ready h hS
  unfold nextV
  cases e : (List.range 10).find? (fun v => rdy l S (v : Nat)) with
  | none =>
    rw [List.find?_eq_none] at e
    exact absurd hr (by simpa using e v (by simpa using hv))
  | some u =>
    have := List.find?_some e
    simpa using this
theorem rdy_spec {l : List (Int × Int)} {S : List Int} {v : Int} (h : rdy l S v = true) : v ∉ S ∧ ∀ p ∈ l, p.2 = v → p.1 ∈ S := by
  unfold rdy rdyK at h
  rw [List.take_length] at h
  simp only [Bool.and_eq_true, Bool.not_eq_true', decide_eq_false_iff_not, List.all_eq_true, Bool.or_eq_true, decide_eq_true_eq] at h
  refine ⟨h.1, fun p hp e => ?_⟩
  rcases h.2 p hp with h1 | h1
  · exact absurd e h1
  · exact h1
def Closed (l : List (Int × Int)) (S : List Int) : Prop := ∀ x ∈ S, ∀ y, Path l y x → y ∈ S
theorem rdy_path {l : List (Int × Int)} {S : List Int} {v : Int} (hc : Closed l S) (h : rdy l S v = true) {y : Int} (hp : Path l y v) : y ∈ S := by
  obtain ⟨_, h2⟩ := rdy_spec h
  have key : ∀ {a b : Int}, Path l a b → b = v → a ∈ S := by
    intro a b hp
    induction hp with
    | @one a b hm => intro e; exact h2 _ hm e
    | @two a b c p1 p2 h1 h2 => intro e; exact hc _ (h2 e) _ p1
  exact key hp rfl
theorem lin_closed {l : List (Int × Int)} (h : okP l = true) : ∀ k, k ≤ 10 → Closed l (lin l k)
  | 0, _ => fun x hx => absurd hx (by simp [lin])
  | k + 1, hk => by
    have ih := lin_closed h k (by omega)
    have hr := next_rdy h (S := lin l k) (by rw [lin_len]; omega)
    intro x hx y hp
    rw [lin] at hx ⊢
    rcases List.mem_append.1 hx with hx | hx
    · exact List.mem_append.2 (.inl (ih x hx y hp))
    · simp at hx
      subst hx
      exact List.mem_append.2 (.inl (rdy_path ih hr hp))
theorem lin_take {l : List (Int × Int)} : ∀ {k n : Nat}, k ≤ n → (lin l n).take k = lin l k
  | k, 0, h => by
    obtain rfl : k = 0 := by omega
    rfl
  | k, n + 1, h => by
    by_cases e : k = n + 1
    · subst e
      rw [List.take_of_length_le (by rw [lin_len]; omega)]
    · rw [lin, List.take_append_of_le_length (by rw [lin_len]; omega)]
      exact lin_take (by omega)
theorem lin_at {l : List (Int × Int)} {k : Nat} (hk : k < 10) : (lin l 10)[k]? = some ((nextV l (lin l k) : Nat) : Int) := by
  have h1 : (lin l (k + 1))[k]? = some ((nextV l (lin l k) : Nat) : Int) := by
    rw [lin, List.getElem?_append_right (by rw [lin_len]; omega), lin_len]; simp
  rw [← lin_take (l := l) (k := k + 1) (n := 10) (by omega), List.getElem?_take, if_pos (by omega)] at h1
  exact h1
/-- Of two values of a linearization the later one is another one, and not above the earlier one. -/
theorem linR_order {l : List (Int × Int)} {i k : Nat} {x y : Int} (hx : (linR l)[i]? = some x) (hy : (linR l)[k]? = some y) (hki : k < i) : y ≠ x ∧ abv l x y = false := by
  unfold linR at hx hy
  cases h : okP l with
  | false => rw [h] at hx; simp at hx
  | true =>
    rw [h, if_pos rfl] at hx hy
    have hi : i < 10 := by have := (List.getElem?_eq_some_iff.1 hx).1; rwa [lin_len] at this
    have hr := next_rdy h (S := lin l i) (by rw [lin_len]; omega)
    rw [lin_at hi] at hx
    injection hx with hx
    rw [hx] at hr
    obtain ⟨h1, h2⟩ := rdy_spec hr
    have hyi : y ∈ lin l i := by
      rw [← lin_take (l := l) (k := i) (n := 10) (by omega)]
      exact List.mem_of_getElem? (i := k) (by rw [List.getElem?_take, if_pos hki]; exact hy)
    refine ⟨fun e => h1 (by rw [← e]; exact hyi), ?_⟩
    cases e : abv l x y with
    | false => rfl
    | true => exact absurd (lin_closed h i (by omega) y hyi x (abv_iff.1 e)) h1
theorem linR_full (l : List (Int × Int)) : (decide ((linR l).length = 10)) = okP l := by
  unfold linR
  cases h : okP l with
  | false => simp
  | true => rw [if_pos rfl, lin_len]; simp
end Go.Proofs.Ytmglapndpcfafaa.P

namespace Go.Proofs.Ytmglapndpcfafaa.Wk
open Go.RowKit Go.Proofs.Ytmglapndpcfafaa.M
set_option linter.unusedVariables false
set_option linter.unusedSimpArgs false
attribute [local go_sem] cell_grow

theorem isAbv_yes {l : List (Int × Int)} {p : Int × Int} (h : p ∈ P.closR l) : isAbv l p.1 p.2 = true ∧ isAbv l p.2 p.1 = false ∧ ¬ heightOf l p.2 ≤ heightOf l p.1 := by
  obtain ⟨h0, h1, h2, h3⟩ := P.closR_mem h
  have e1 := P.inR_mk (x := p.1) (lo := 0) (hi := 9) (by omega)
  have e2 := P.inR_mk (x := p.2) (lo := 0) (hi := 9) (by omega)
  refine ⟨by unfold isAbv; rw [h0, h3]; rfl, by unfold isAbv; rw [h0, P.abv_asym h0 h3]; rfl, ?_⟩
  have := P.abv_lt h0 h3
  unfold heightOf
  rw [h0, e1, e2]
  simp
  omega
theorem isAbv_trans {l : List (Int × Int)} {p q : Int × Int} (h : p ∈ P.closR l) (g : q ∈ P.closR l) (e : q.1 = p.2) : isAbv l p.1 q.2 = true := by
  obtain ⟨h0, h1, h2, h3⟩ := P.closR_mem h
  obtain ⟨g0, g1, g2, g3⟩ := P.closR_mem g
  rw [e] at g3
  unfold isAbv
  rw [h0, P.abv_trans h3 g3]
  rfl
theorem isAbv_lin {l : List (Int × Int)} {i k : Nat} {x y : Int} (hx : (P.linR l)[i]? = some x) (hy : (P.linR l)[k]? = some y) (hki : k < i) : (y == x) = false ∧ isAbv l x y = false := by
  obtain ⟨h1, h2⟩ := P.linR_order hx hy hki
  refine ⟨by simpa using h1, ?_⟩
  unfold isAbv
  rw [h2]; simp
set_option maxHeartbeats 2500000 in
set_option maxRecDepth 100000 in
theorem FnOrders (w : World) (v0 : Value) (l0 : List UInt8) (e0 : V RB 1 w w.heap.size v0 l0) : Calls Try.prog 3 #[v0] w fun e w' => e = .returned (.bool true) ∧ Below w.heap.size w w' := by
  obtain ⟨A0, n0, c0', rfl, hS⟩ := e0
  have HS := Lib.hid hS
  by_cases hbig : 1048576 < n0
  · have q : decide (1048576 < n0) = true := by simpa using hbig
    go_enter Try.func3, Try.ntmps3
    go_wp2_with fail
    refine (lawBig _ HS.out).mono ?_
    rintro e w1 ⟨rfl, rfl⟩
    rw [q]
    go_wp2
    go_ret
    exact ⟨rfl, Below.refl _ _⟩
  have q : decide (1048576 < n0) = false := by simpa using hbig
  have hn0 : n0 ≤ 1048576 := by omega
  clear hS hbig
  go_enter Try.func3, Try.ntmps3
  go_wp2_with fail
  refine (lawBig _ HS.out).mono ?_
  rintro e w1 ⟨rfl, rfl⟩
  rw [q]
  clear q
  go_wp2_with fail
  refine (drawCO _ HS.out hn0).mono ?_
  rintro e w2 ⟨v, l, rfl, ⟨A, n, c, rfl, hl⟩, b2⟩
  have HL2 := Lib.hid hl
  clear hl
  go_wp2_with fail
  refine (implClosureOf _ HL2.out).mono ?_
  rintro e w3 ⟨vx, rfl, ox, b3⟩
  have HX3 := own_pairs ox (closR_fit l)
  obtain ⟨Ax, nx, cx, rfl, hx3⟩ := HX3
  have HL3 := Lib.hid (HL2.out.on RP.keeps b3)
  have HX3 := Lib.hid hx3
  have B3 := b2.trans (b3.mono b2.size)
  clear ox hx3 b3 b2 HL2
  go_wp2_with fail
  refine (specClosureOf _ HL3.out).mono ?_
  rintro e w4 ⟨vy, rfl, oy, b4⟩
  have HY4 := own_pairs oy (closR_fit l)
  obtain ⟨Ay, ny, cy, rfl, hy4⟩ := HY4
  have HL4 := Lib.hid (HL3.out.on RP.keeps b4)
  have HX4 := Lib.hid (HX3.out.on RP.keeps b4)
  have HY4 := Lib.hid hy4
  have B4 := B3.trans (b4.mono B3.size)
  clear oy hy4 b4 B3 HX3 HL3
  have hxy : nx = ny := HX4.out.len.symm.trans HY4.out.len
  subst hxy
  obtain ⟨tb, htb⟩ : ∃ tb, P.okP l = tb := ⟨_, rfl⟩
  have HTB := Lib.hid htb
  have qb : (tb != tb) = false := by cases tb <;> rfl
  clear htb
  go_wp2_with fail
  refine (implArePairs _ HL4.out).mono ?_
  rintro e w5 ⟨rfl, b5⟩
  rw [HTB.out]
  have HL5 := Lib.hid (HL4.out.on RP.keeps b5)
  go_wp2_with fail
  refine (specArePairs _ HL5.out).mono ?_
  rintro e w6 ⟨rfl, b6⟩
  rw [HTB.out]
  have b56 := b5.trans (b6.mono b5.size)
  have HL6 := Lib.hid (HL4.out.on RP.keeps b56)
  have HX6 := Lib.hid (HX4.out.on RP.keeps b56)
  have HY6 := Lib.hid (HY4.out.on RP.keeps b56)
  have B6 := B4.trans (b56.mono B4.size)
  clear b5 b6 b56 B4 HL4 HX4 HY4 HL5
  have hlex := HX6.out.le
  have hley := HY6.out.le
  have mx := Nat.le_trans HX6.out.le HX6.out.max
  unfold maxLen at mx
  have p2 : (nx : Int) ≤ (cx : Int) := by omega
  have p3 : (nx : Int) ≤ (cy : Int) := by omega
  go_wp2
  go_loopw [6, 7] (fun vi vk wr => ∃ i : Nat, i ≤ nx ∧ vi = .int .i64 i ∧ Below w6.heap.size w6 wr) (fun vi _ _ => nx - (intOf vi).toNat)
  case atStart => exact ⟨0, Nat.zero_le _, rfl, Below.refl _ _⟩
  case round =>
    obtain ⟨i, hi, rfl, hbw⟩ := hrel
    by_cases hlt : i < nx
    · have p1 : (i : Int) < (nx : Int) := by omega
      obtain ⟨b, o, p, hA, hb, hp, fp1, fp2, g0, g1⟩ := pairAt HX6.out hlt
      obtain ⟨b', o', p', hA', hb', hp', _, _, g0', g1'⟩ := pairAt HY6.out hlt
      rw [hp] at hp'
      injection hp' with hp'
      subst hp'
      have HPM := Lib.hid (List.mem_of_getElem? hp)
      have e0 := ((cell_of hbw) b (o + i * 2) hb).trans g0
      have e1 := ((cell_of hbw) b (o + i * 2 + 1) hb).trans g1
      have e0' := ((cell_of hbw) b' (o' + i * 2) hb').trans g0'
      have e1' := ((cell_of hbw) b' (o' + i * 2 + 1) hb').trans g1'
      have hsz := hbw.size
      have i1 : b < wr.heap.size := by omega
      have i2 : b' < wr.heap.size := by omega
      obtain ⟨h1, h2, h3⟩ := isAbv_yes HPM.out
      have H1 : Hid (∀ w : World, Sl RP 2 w w.heap.size A n c l → Calls Try.prog 10 #[.slice A n c, .int .i64 p.1, .int .i64 p.2] w fun e w' => e = .returned (.bool true) ∧ Below w.heap.size w w') := fun w h => by rw [← h1]; exact implIsAbove w h fp1 fp2
      have H2 : Hid (∀ w : World, Sl RP 2 w w.heap.size A n c l → Calls Try.prog 10 #[.slice A n c, .int .i64 p.2, .int .i64 p.1] w fun e w' => e = .returned (.bool false) ∧ Below w.heap.size w w') := fun w h => by rw [← h2]; exact implIsAbove w h fp2 fp1
      obtain ⟨x1, hx1⟩ : ∃ x1, Hid (heightOf l p.1 = x1) := ⟨_, rfl⟩
      obtain ⟨x2, hx2⟩ : ∃ x2, Hid (heightOf l p.2 = x2) := ⟨_, rfl⟩
      rw [hx1.out, hx2.out] at h3
      have HLr := Lib.hid (HL6.out.on RP.keeps hbw)
      have HB := Lib.hid hbw
      have C1 : Hid (∀ w : World, Sl RP 2 w w.heap.size A n c l → Calls Try.prog 11 #[.slice A n c, .int .i64 p.1] w fun e w' => e = .returned (.int .i64 x1) ∧ Below w.heap.size w w') := fun w h => by rw [← hx1.out]; exact implHeightOf w h fp1
      have C2 : Hid (∀ w : World, Sl RP 2 w w.heap.size A n c l → Calls Try.prog 11 #[.slice A n c, .int .i64 p.2] w fun e w' => e = .returned (.int .i64 x2) ∧ Below w.heap.size w w') := fun w h => by rw [← hx2.out]; exact implHeightOf w h fp2
      have HPI := Lib.hid hp
      have G0 := Lib.hid g0'
      have G1 := Lib.hid g1'
      subst hA hA'
      clear h1 h2 g0 g1 g0' g1' hp hbw
      have t2 : (p.1 == p.1) = true := by simp
      have t3 : (p.2 == p.2) = true := by simp
      go_wp2_with fail
      refine wp_region_qb (by kernel_rfl) (by kernel_rfl) ?_; (repeat (go_big_quiet_step ((first | (go_at_call 10; first | with_reducible exact quietB (H1.out _ (HLr.out.gr RP.keeps _ _)) | with_reducible exact quietB (H2.out _ (HLr.out.gr RP.keeps _ _))) | (go_at_call 11; first | with_reducible exact quietB (C1.out _ (HLr.out.gr RP.keeps _ _)) | with_reducible exact quietB (C2.out _ (HLr.out.gr RP.keeps _ _))))))); refine wpQuiet_nil ?_; intro w8 hb8
      have hb9 := Lib.hid (HB.out.trans (hb8.mono hsz))
      clear hb8 e0 e1 e0' e1'
      go_wp2
      rename_i wr1
      go_loopw [7] (fun vk wr => ∃ k : Nat, k ≤ nx ∧ vk = .int .i64 k ∧ Below w6.heap.size w6 wr) (fun vk _ => nx - (intOf vk).toNat)
      case atStart => exact ⟨0, Nat.zero_le _, rfl, hb9.out⟩
      case round =>
        obtain ⟨k, hk, rfl, hbw⟩ := hrel
        by_cases hlt2 : k < nx
        · have p4 : (k : Int) < (nx : Int) := by omega
          obtain ⟨_, _, r, hA2, hb2, hr, fr1, fr2, g0, g1⟩ := pairAt HY6.out hlt2
          injection hA2 with hA2
          injection hA2 with hA2 hA3 _
          subst hA2 hA3
          have HRM := Lib.hid (List.mem_of_getElem? hr)
          have e2 := ((cell_of hbw) b' (o' + k * 2) hb').trans g0
          have e3 := ((cell_of hbw) b' (o' + k * 2 + 1) hb').trans g1
          have e0' := ((cell_of hbw) b' (o' + i * 2) hb').trans G0.out
          have e1' := ((cell_of hbw) b' (o' + i * 2 + 1) hb').trans G1.out
          have hsz := hbw.size
          have i2 : b' < wr.heap.size := by omega
          have HLr := Lib.hid (HL6.out.on RP.keeps hbw)
          have HB := Lib.hid hbw
          by_cases hq : r.1 = p.2
          · have t1 : (r.1 == p.2) = true := by simp [hq]
            have H3 : Hid (∀ w : World, Sl RP 2 w w.heap.size A n c l → Calls Try.prog 10 #[.slice A n c, .int .i64 p.1, .int .i64 r.2] w fun e w' => e = .returned (.bool true) ∧ Below w.heap.size w w') := fun w h => by rw [← isAbv_trans HPM.out HRM.out hq]; exact implIsAbove w h fp1 fr2
            clear hr g0 g1 hbw hq
            go_wp2_with fail
            refine wp_region_qb (by kernel_rfl) (by kernel_rfl) ?_; (repeat (go_big_quiet_step ((go_at_call 10; with_reducible exact quietB (H3.out _ (HLr.out.gr RP.keeps _ _)))))); refine wpQuiet_nil ?_; intro wz hbz
            have hb9 := Lib.hid (HB.out.trans (hbz.mono hsz))
            clear hbz e0' e1' e2 e3
            go_wp2
            go_roundw
            case rel => exact ⟨k + 1, by omega, by go_num, hb9.out⟩
            case measure => simp [intOf]; omega
          · have t1 : (r.1 == p.2) = false := by simp [hq]
            clear hr g0 g1 hbw hq
            go_wp2_with fail
            refine wp_region_qb (by kernel_rfl) (by kernel_rfl) ?_; (repeat (go_big_quiet_step ((fail)))); refine wpQuiet_nil ?_; intro wz hbz
            have hb9 := Lib.hid (HB.out.trans (hbz.mono hsz))
            clear hbz e0' e1' e2 e3
            go_wp2
            go_roundw
            case rel => exact ⟨k + 1, by omega, by go_num, hb9.out⟩
            case measure => simp [intOf]; omega
        · have p4 : ¬ (k : Int) < (nx : Int) := by omega
          go_wp2
          refine ⟨⟨i + 1, by omega, by go_num, hbw⟩, by simp [intOf]; omega⟩
    · have p1 : ¬ (i : Int) < (nx : Int) := by omega
      have HL7 := Lib.hid (HL6.out.on RP.keeps hbw)
      have B7 := B6.trans (hbw.mono B6.size)
      clear hbw HX6 HY6 HL6
      go_wp2_with fail
      refine (implLinearize _ HL7.out).mono ?_
      rintro e w8 ⟨vo, rfl, oo, b8⟩
      obtain ⟨Ao, no, co, rfl, ho⟩ := oo.read (fun x hx => by have := P.linR_fit hx; unfold Fit; omega)
      have HL8 := Lib.hid (HL7.out.on RP.keeps b8)
      have HO8 := Lib.hid ho
      have B8 := B7.trans (b8.mono B7.size)
      clear oo ho b8 B7 HL7
      go_wp2_with fail
      refine (specLinearize _ HL8.out).mono ?_
      rintro e w9 ⟨vq, rfl, oq, b9⟩
      obtain ⟨Aq, mq, cq, rfl, hq⟩ := oq.read (fun x hx => by have := P.linR_fit hx; unfold Fit; omega)
      have HL9 := Lib.hid (HL8.out.on RP.keeps b9)
      have HO9 := Lib.hid (HO8.out.on RI.keeps b9)
      have HQ9 := Lib.hid hq
      have B9 := B8.trans (b9.mono B8.size)
      clear oq hq b9 B8 HL8 HO8
      go_wp2_with fail
      refine (sameInts _ HO9.out HQ9.out).mono ?_
      rintro e w10 ⟨rfl, b10⟩
      have HL10 := Lib.hid (HL9.out.on RP.keeps b10)
      have HO10 := Lib.hid (HO9.out.on RI.keeps b10)
      have B10 := B9.trans (b10.mono B9.size)
      clear b10 B9 HL9 HO9 HQ9
      have hno10 : no ≤ 10 := by have := HO10.out.len; have := P.linR_len l; omega
      have hleo := HO10.out.le
      have p5 : (no : Int) ≤ (co : Int) := by omega
      go_wp2
      go_loopw [9, 10] (fun vi vk wr => ∃ i : Nat, i ≤ no ∧ vi = .int .i64 i ∧ Below w10.heap.size w10 wr) (fun vi _ _ => no - (intOf vi).toNat)
      case atStart => exact ⟨0, Nat.zero_le _, rfl, Below.refl _ _⟩
      case round =>
        obtain ⟨i, hi, rfl, hbw⟩ := hrel
        by_cases hlt : i < no
        · have p1 : (i : Int) < (no : Int) := by omega
          obtain ⟨b, o, x, hA, hb, hx, fx, g0⟩ := HO10.out.int hlt
          have HX := Lib.hid hx
          have G0 := Lib.hid g0
          have hb9 := Lib.hid hbw
          subst hA
          clear hx g0 hbw
          go_wp2
          rename_i wr1
          go_loopw [10] (fun vk wr => ∃ k : Nat, k ≤ i ∧ vk = .int .i64 k ∧ Below w10.heap.size w10 wr) (fun vk _ => i - (intOf vk).toNat)
          case atStart => exact ⟨0, Nat.zero_le _, rfl, hb9.out⟩
          case round =>
            obtain ⟨k, hk, rfl, hbw⟩ := hrel
            by_cases hlt2 : k < i
            · have p4 : (k : Int) < (i : Int) := by omega
              have p6 : (k : Int) < (no : Int) := by omega
              obtain ⟨_, _, y, hA2, hb2, hy, fy, g0⟩ := HO10.out.int (k := k) (by omega)
              injection hA2 with hA2
              injection hA2 with hA2 hA3 _
              subst hA2 hA3
              have e0 := ((cell_of hbw) b (o + i) hb).trans G0.out
              have e1 := ((cell_of hbw) b (o + k) hb).trans g0
              have hsz := hbw.size
              have i2 : b < wr.heap.size := by omega
              have HLr := Lib.hid (HL10.out.on RP.keeps hbw)
              have HB := Lib.hid hbw
              obtain ⟨t1, t2⟩ := isAbv_lin HX.out hy hlt2
              have H4 : Hid (∀ w : World, Sl RP 2 w w.heap.size A n c l → Calls Try.prog 15 #[.slice A n c, .int .i64 x, .int .i64 y] w fun e w' => e = .returned (.bool false) ∧ Below w.heap.size w w') := fun w h => by rw [← t2]; exact specIsAbove w h fx fy
              clear hy g0 hbw t2
              go_wp2_with fail
              refine wp_region_qb (by kernel_rfl) (by kernel_rfl) ?_; (repeat (go_big_quiet_step ((go_at_call 15; with_reducible exact quietB (H4.out _ (HLr.out.gr RP.keeps _ _)))))); refine wpQuiet_nil ?_; intro wz hbz
              have hbq := Lib.hid (HB.out.trans (hbz.mono hsz))
              clear hbz e0 e1
              go_wp2
              go_roundw
              case rel => exact ⟨k + 1, by omega, by go_num, hbq.out⟩
              case measure => simp [intOf]; omega
            · have p4 : ¬ (k : Int) < (i : Int) := by omega
              go_wp2
              refine ⟨⟨i + 1, by omega, by go_num, hbw⟩, by simp [intOf]; omega⟩
        · have p1 : ¬ (i : Int) < (no : Int) := by omega
          have HL11 := Lib.hid (HL10.out.on RP.keeps hbw)
          have B11 := B10.trans (hbw.mono B10.size)
          have hfull : ((no : Int) == 10) = tb := by
            rw [← HTB.out, ← P.linR_full, HO10.out.len]
            by_cases h : no = 10
            · subst h; rfl
            · simp [h]; omega
          have z2 : (tb == tb) = true := by simp
          clear hbw HO10 B10 HL10
          go_wp2_with fail
          refine (drawIA _ (HS.out.on RB.keeps B11) hn0).mono ?_
          rintro e w12 ⟨va, la, x, y, rfl, ⟨A2, n2, c2, rfl, hla⟩, fx, fy, b12⟩
          have HA12 := Lib.hid hla
          have HL12 := Lib.hid (HL11.out.on RP.keeps b12)
          have B12 := B11.trans (b12.mono B11.size)
          clear hla b12 B11 HL11
          go_wp2_with fail
          refine (drawHO _ (HS.out.on RB.keeps B12) hn0).mono ?_
          rintro e w13 ⟨vb, lb, z, rfl, ⟨A3, n3, c3, rfl, hlb⟩, fz, b13⟩
          have HH13 := Lib.hid hlb
          have HA13 := Lib.hid (HA12.out.on RP.keeps b13)
          have HL13 := Lib.hid (HL12.out.on RP.keeps b13)
          have B13 := B12.trans (b13.mono B12.size)
          clear hlb b13 B12 HL12 HA12
          go_wp2_with fail
          refine (specArePairs _ HL13.out).mono ?_
          rintro e w14 ⟨rfl, b14⟩
          rw [HTB.out]
          have HH14 := Lib.hid (HH13.out.on RP.keeps b14)
          have HA14 := Lib.hid (HA13.out.on RP.keeps b14)
          have B14 := B13.trans (b14.mono B13.size)
          clear b14 B13 HL13 HH13 HA13
          obtain ⟨rb, hrb⟩ : ∃ rb, isAbv la x y = rb := ⟨_, rfl⟩
          have HRB := Lib.hid hrb
          have z3 : (rb == rb) = true := by simp
          obtain ⟨rh, hrh⟩ : ∃ rh, heightOf lb z = rh := ⟨_, rfl⟩
          have HRH := Lib.hid hrh
          have z4 : (rh == rh) = true := by simp
          clear hrb hrh
          go_wp2_with fail
          refine (implIsAbove _ HA14.out fx fy).mono ?_
          rintro e w15 ⟨rfl, b15⟩
          rw [HRB.out]
          have HH15 := Lib.hid (HH14.out.on RP.keeps b15)
          have HA15 := Lib.hid (HA14.out.on RP.keeps b15)
          have B15 := B14.trans (b15.mono B14.size)
          clear b15 B14 HH14 HA14
          go_wp2_with fail
          refine (specIsAbove _ HA15.out fx fy).mono ?_
          rintro e w16 ⟨rfl, b16⟩
          rw [HRB.out]
          have HH16 := Lib.hid (HH15.out.on RP.keeps b16)
          have B16 := B15.trans (b16.mono B15.size)
          clear b16 B15 HH15 HA15
          go_wp2_with fail
          refine (implHeightOf _ HH16.out fz).mono ?_
          rintro e w17 ⟨rfl, b17⟩
          rw [HRH.out]
          have HH17 := Lib.hid (HH16.out.on RP.keeps b17)
          have B17 := B16.trans (b17.mono B16.size)
          clear b17 B16 HH16
          go_wp2_with fail
          refine (specHeightOf _ HH17.out fz).mono ?_
          rintro e w18 ⟨rfl, b18⟩
          rw [HRH.out]
          have B18 := B17.trans (b18.mono B17.size)
          clear b18 B17 HH17
          go_wp2
          go_ret
          exact ⟨rfl, B18⟩
end Go.Proofs.Ytmglapndpcfafaa.Wk

namespace Go.Proofs.Ytmglapndpcfafaa
open Go Go.RowKit Go.ChangeShapes Go.WideShapes Go.Deep Go.Proofs.Ytmglapndpcfafaa.M

theorem cells_byte : Try.prog.cellsOf 5 = 1 := by kernel_rfl
section
variable {H : Type} {enc : TypeId × Value → H} {W : World} {b0 : Nat} {v : Value} {d : DataW H} {p : List MemPlace}
theorem op_byte {P : Program} {w : World} {base : Nat} {spare : Nat → Bool} {held : Bool} {e : TypeId} (he : P.underlying e = some (.int .u8)) {fuel : Nat} {cs : List Value} {x : DataW H × List MemPlace} (h : DataW.trod enc P w base spare held fuel e cs = some x) : ∃ a, RB w w.heap.size a cs := by
  obtain ⟨n, hcs, _, hw⟩ := DataW.trod_int he h
  simp [Lit.wf, IntKind.min, IntKind.max, IntKind.signed, IntKind.bits] at hw
  refine ⟨UInt8.ofNat n.toNat, ?_⟩
  show cs = [.int .u8 ((UInt8.ofNat n.toNat).toNat : Int)]
  have e : ((UInt8.ofNat n.toNat).toNat : Int) = n := by
    rw [UInt8.toNat_ofNat']
    omega
  rw [e]; exact hcs
set_option maxRecDepth 100000 in
theorem open_bytes (hv : Value.okWide Try.prog W .any b0 22 v) (h : DataW.Trod enc Try.prog W 0 (fun _ => true) true 22 v d p) : ∃ l, V RB 1 W W.heap.size v l :=
  trod_slice_V Try.underlying22 cells_byte (by omega) (fun _ _ _ hh => op_byte Try.underlying5 hh) hv h
end
end Go.Proofs.Ytmglapndpcfafaa

namespace Go.Proofs.Ytmglapndpcfafaa.LFnOrders
open Go.ChangeShapes Go.WideShapes Go.ChangeAt Go.RowKit
open Go.ChangeMaps (open_string shut_string)
set_option linter.unusedVariables false

theorem own : ownKnob Try.prog.godebug = none := by kernel_rfl
theorem laidOut : laidOutB Try.prog = true := by kernel_rfl

set_option maxRecDepth 100000 in
theorem lifted (os : Os) (started : os.Started) (H : Type) (enc : TypeId × Value → H) :
    ReturnsInHanded {} Try.checked os 3 .any (Rows.fnOrdersSpec.pre6 enc Try.prog Try.f3 Rows.fnOrdersRow.domain false) (Rows.fnOrdersSpec.post enc Try.prog Try.f3 false true false false) := by
  refine returnsInHanded_of_change (C := Try.checked) own started (by kernel_rfl) Try.func3
    (ChangeSpec.witness6 (enc := enc) (C := Try.checked) false ⟨#[], #[.slice none 0 0], []⟩ 8 (by kernel_rfl) (by kernel_rfl) (by kernel_rfl) (by kernel_rfl)) ?_
  intro W base args ds gs before hval0 hW hcnd _
  have hval : ∀ (j : Nat) t v, Try.f3.params[j]? = some t → args[j]? = some v → Value.okWide Try.prog W .any base t v := hval0
  have hW' := hW
  obtain ⟨p, q, hA0, hV, rfl, hfz, hnd⟩ := hW
  have hA : DataW.TrodAll enc Try.prog W 0 (fun _ => true) true Try.f3.params.toList args.toList ds p := hA0
  rw [Try.params3] at hA hval
  obtain ⟨v0, vs0, d0, ds0, p0, q0, hargs, rfl, rfl, h0, r0⟩ := trodAll_cons hA
  obtain ⟨rfl, rfl, rfl⟩ := trodAll_nil r0
  obtain rfl : args = #[v0] := by cases args; simp_all
  obtain ⟨rfl, rfl⟩ := trodVars_none hV
  have k0 := h0
  have lt0 : ∀ x ∈ p0, x.block < W.heap.size := by obtain ⟨m, hm⟩ := k0; exact DataW.trod_lt m _ _ _ hm
  obtain ⟨l0, w0⟩ := open_bytes (hval 0 22 v0 rfl rfl) h0
  clear hA0 hval0
  refine (Wk.FnOrders (w := W) v0 l0 w0).mono fun e W' ⟨he, bel⟩ => ?_
  subst he
  exact ⟨_, rfl, _, _, _, [], _, [], hW', trodAll_mk1 (shut_bool Try.underlying4 _), (trodAll_cons_mk (Below.trod laidOut (by kernel_rfl) (of_decide_eq_true (by kernel_rfl)) k0 bel lt0) trodAll_mk0), rfl, bel.frame _, fun h => by cases h⟩

/-- The given statement. -/
theorem proved : Rows.FnOrdersSaid :=
  OpenClaim.holds_of_wide 3 Try.f3 rfl rfl rfl rfl rfl rfl rfl ⟨rfl, rfl, rfl, rfl, rfl⟩ rfl rfl rfl rfl rfl (by as_aux_lemma => kernel_rfl) Try.func3 (by as_aux_lemma => kernel_rfl)
    (of_decide_eq_true (by as_aux_lemma => kernel_rfl)) (by unfold Func.isWrapper; first | (rw [if_pos (by decide +kernel)]; kernel_rfl) | (rw [if_neg (by decide +kernel)]; exact ⟨rfl, rfl⟩))
    (fun os started H enc _ => lifted os started H enc)
#print axioms proved
end Go.Proofs.Ytmglapndpcfafaa.LFnOrders
