/-
  The laws' marks: rows written over with consecutive numbers, and read again.
  Conditions: none beyond the bounds that each states.
-/
import Derived.Test.YtgjghpaenliliaaU0
import Derived.Test.YtgjghpaenliliaaM13
namespace Go.Proofs.Ytgjghpaenliliaa.Wk
open Go.RowKit Go.Proofs.Ytgjghpaenliliaa.M
set_option linter.unusedVariables false

abbrev BlkOf (v : Value) : Nat → Prop := fun b => v.ownBlock = some b
set_option maxHeartbeats 800000 in
theorem markIntS {base : Nat} {E : TypeId} {v : Value} {xs : List Int} {k : Int} (w : World) (h : w.ownsRow base E 1 v xs.length (xs.map (Value.int .i64))) (h0 : 0 ≤ k) (h1 : k + xs.length ≤ 4611686018427387904) :
    Calls Try.prog 46 #[v, .int .i64 k] w fun e w' => e = .returned (.int .i64 (k + xs.length)) ∧ w'.ownsRow base E 1 v xs.length ((allI xs.length k).map (Value.int .i64)) ∧ Chg (BlkOf v) w w' := by
  have HA := Lib.hid (mkI_all xs k)
  obtain ⟨n, hn⟩ : ∃ n, xs.length = n := ⟨_, rfl⟩
  have HN := Lib.hid hn
  rw [hn] at h h1 ⊢
  clear hn
  obtain ⟨A, c, rfl, hle, hmx⟩ := own_form h
  go_enter Try.func46, Try.ntmps46
  go_wp2
  go_loopw [1, 5] (fun vk vi wr => ∃ i : Nat, i ≤ n ∧ vi = .int .i64 i ∧ vk = .int .i64 (k + i) ∧ wr.ownsRow base E 1 (.slice A n c) n ((mkI xs k i).map (Value.int .i64)) ∧ Chg (BlkOf (.slice A n c)) w wr) (fun _ vi _ => n - (intOf vi).toNat)
  case atStart => exact ⟨0, Nat.zero_le _, rfl, vint (by simp), by rw [mkI_zero]; exact h, Chg.refl _ _⟩
  case round =>
    clear h
    obtain ⟨i, hi, rfl, rfl, hown, hch⟩ := hrel
    by_cases hlt : i < n
    · obtain ⟨g, c', cs, e, hb, hn1, hn2, hR, hL⟩ := own_row hown (by omega)
      injection e with e1 e2 e3
      subst e1 e3
      have hl : (mkI xs k i).length = n := by rw [mkI_len _ _ (by have := HN.out; omega)]; exact HN.out
      obtain ⟨u, hu⟩ : ∃ u, (mkI xs k i)[i]? = some u := ⟨_, List.getElem?_eq_getElem (by omega)⟩
      have hc : wr.cell? ⟨g, i, none⟩ = some (.int .i64 u) := by
        rw [hR.cell, List.getElem?_append_left (by rw [List.length_map]; omega), List.getElem?_map, hu]; rfl
      have hf := hR.free i
      have hlw := hR.lt
      have R2 : Row (wr.setCell ⟨g, i, none⟩ (.int .i64 (k + i))) g E ((mkI xs k (i + 1)).map (Value.int .i64) ++ cs) := by
        have := hR.set i (.int .i64 (k + i))
        rwa [map_set_app _ _ _ (by omega), mkI_set _ _ (by have := HN.out; omega)] at this
      have hl2 : (mkI xs k (i + 1)).length = n := by rw [mkI_len _ _ (by have := HN.out; omega)]; exact HN.out
      have O2 := Lib.hid (row_own (base := base) (n := n) (sz := 1) R2 (by rw [List.length_map]; omega) hb hn1 hn2 (by rw [List.length_append, List.length_map] at hL ⊢; omega))
      have C2 := Lib.hid (hch.setCell (p := ⟨g, i, none⟩) rfl (.int .i64 (k + i)))
      unfold maxLen at hn2
      clear hR R2 hown hch hu hl hl2 hL
      go_wp2
      go_roundw
      case rel => exact ⟨i + 1, by omega, by go_num, vint (by omega), O2.out, C2.out⟩
      case measure => simp [intOf]; omega
    · have hin : i = n := by omega
      have HO : Hid (wr.ownsRow base E 1 (.slice A n c) n ((allI n k).map (Value.int .i64))) := by
        have := HA.out
        rw [HN.out] at this
        rw [hin, this] at hown
        exact hown
      unfold maxLen at hmx
      clear hown
      go_wp2
      go_ret
      exact ⟨ret_int (by omega), HO.out, hch⟩
theorem heldIntS {B : Nat} {A : Option Addr} {n c : Nat} {k : Int} (w : World) (h : Sl RI 1 w B A n c (allI n k)) (h0 : 0 ≤ k) (h1 : k + n ≤ 4611686018427387904) :
    Calls Try.prog 48 #[.slice A n c, .int .i64 k] w fun e w' => e = .returned (.int .i64 (k + n)) ∧ w = w' := by
  have mx := Nat.le_trans h.le h.max
  unfold maxLen at mx
  go_enter Try.func48, Try.ntmps48
  go_wp2
  go_loop [1, 5] (fun vk vi => ∃ i : Nat, i ≤ n ∧ vi = .int .i64 i ∧ vk = .int .i64 (k + i)) (fun _ vi => n - (intOf vi).toNat)
  case atStart => exact ⟨0, Nat.zero_le _, rfl, vint (by simp)⟩
  case round =>
    obtain ⟨i, hi, rfl, rfl⟩ := hrel
    by_cases hlt : i < n
    · obtain ⟨b, o, x, rfl, hb, hx, hf, hc⟩ := h.int hlt
      obtain rfl : k + i = x := by rw [allI_at hlt] at hx; injection hx
      have q : ((k + (i : Int)) != (k + (i : Int))) = false := by simp
      clear hx h
      go_wp2
      go_round
      case rel => exact ⟨i + 1, by omega, by go_num, vint (by omega)⟩
      case measure => simp [intOf]; omega
    · clear h
      go_wp2
      go_ret
      exact ⟨ret_int (by omega), rfl⟩
set_option maxHeartbeats 800000 in
theorem markPairS {base : Nat} {E : TypeId} {v : Value} {xs : List (Int × Int)} {k : Int} (w : World) (h : w.ownsRow base E 2 v xs.length (prc xs)) (h0 : 0 ≤ k) (h1 : k + 2 * xs.length ≤ 4611686018427387904) :
    Calls Try.prog 47 #[v, .int .i64 k] w fun e w' => e = .returned (.int .i64 (k + 2 * xs.length)) ∧ w'.ownsRow base E 2 v xs.length (prc (allP xs.length k)) ∧ Chg (BlkOf v) w w' := by
  have HA := Lib.hid (mkP_all xs k)
  obtain ⟨n, hn⟩ : ∃ n, xs.length = n := ⟨_, rfl⟩
  have HN := Lib.hid hn
  rw [hn] at h h1 ⊢
  clear hn
  obtain ⟨A, c, rfl, hle, hmx⟩ := own_form h
  go_enter Try.func47, Try.ntmps47
  go_wp2
  go_loopw [1, 5] (fun vk vi wr => ∃ i : Nat, i ≤ n ∧ vi = .int .i64 i ∧ vk = .int .i64 (k + 2 * i) ∧ wr.ownsRow base E 2 (.slice A n c) n (prc (mkP xs k i)) ∧ Chg (BlkOf (.slice A n c)) w wr) (fun _ vi _ => n - (intOf vi).toNat)
  case atStart => exact ⟨0, Nat.zero_le _, rfl, vint (by simp), by rw [mkP_zero]; exact h, Chg.refl _ _⟩
  case round =>
    clear h
    obtain ⟨i, hi, rfl, rfl, hown, hch⟩ := hrel
    by_cases hlt : i < n
    · obtain ⟨g, c', cs, e, hb, hn1, hn2, hR, hL⟩ := own_row hown (by omega)
      injection e with e1 e2 e3
      subst e1 e3
      have hl : (mkP xs k i).length = n := by rw [mkP_len _ _ (by have := HN.out; omega)]; exact HN.out
      have hpl := prc_len (mkP xs k i)
      obtain ⟨u, hu⟩ : ∃ u, (mkP xs k i)[i]? = some u := ⟨_, List.getElem?_eq_getElem (by omega)⟩
      obtain ⟨u0, u1⟩ := prc_at _ _ _ hu
      have hc0 : wr.cell? ⟨g, i * 2, none⟩ = some (.int .i64 u.1) := by
        rw [hR.cell, List.getElem?_append_left (by omega)]; exact u0
      have hc1 : wr.cell? ⟨g, i * 2 + 1, none⟩ = some (.int .i64 u.2) := by
        rw [hR.cell, List.getElem?_append_left (by omega)]; exact u1
      have hf0 := hR.free (i * 2)
      have hf1 := hR.free (i * 2 + 1)
      have hlw := hR.lt
      have R2 : Row ((wr.setCell ⟨g, i * 2, none⟩ (.int .i64 (k + 2 * i))).setCell ⟨g, i * 2 + 1, none⟩ (.int .i64 (k + 2 * i + 1))) g E (prc (mkP xs k (i + 1)) ++ cs) := by
        have := (hR.set (i * 2) (.int .i64 (k + 2 * i))).set (i * 2 + 1) (.int .i64 (k + 2 * i + 1))
        rwa [prc_set_app _ _ (k + 2 * (i : Int), k + 2 * (i : Int) + 1) (by omega), mkP_set _ _ (by have := HN.out; omega)] at this
      have hl2 : (prc (mkP xs k (i + 1))).length = n * 2 := by rw [prc_len, mkP_len _ _ (by have := HN.out; omega), HN.out]
      have O2 := Lib.hid (row_own (base := base) (n := n) (sz := 2) R2 hl2 hb hn1 hn2 (by rw [List.length_append] at hL ⊢; omega))
      have C2 := Lib.hid ((hch.setCell (p := ⟨g, i * 2, none⟩) rfl (.int .i64 (k + 2 * i))).setCell (p := ⟨g, i * 2 + 1, none⟩) rfl (.int .i64 (k + 2 * i + 1)))
      unfold maxLen at hn2
      clear hR R2 hown hch hu hl hl2 hL hpl u0 u1
      go_wp2
      go_roundw
      case rel => exact ⟨i + 1, by omega, by go_num, vint (by omega), O2.out, C2.out⟩
      case measure => simp [intOf]; omega
    · have hin : i = n := by omega
      have HO : Hid (wr.ownsRow base E 2 (.slice A n c) n (prc (allP n k))) := by
        have := HA.out
        rw [HN.out] at this
        rw [hin, this] at hown
        exact hown
      unfold maxLen at hmx
      clear hown
      go_wp2
      go_ret
      exact ⟨ret_int (by omega), HO.out, hch⟩
theorem heldPairS {B : Nat} {A : Option Addr} {n c : Nat} {k : Int} (w : World) (h : Sl RP 2 w B A n c (allP n k)) (h0 : 0 ≤ k) (h1 : k + 2 * n ≤ 4611686018427387904) :
    Calls Try.prog 49 #[.slice A n c, .int .i64 k] w fun e w' => e = .returned (.int .i64 (k + 2 * n)) ∧ w = w' := by
  have mx := Nat.le_trans h.le h.max
  unfold maxLen at mx
  go_enter Try.func49, Try.ntmps49
  go_wp2
  go_loop [1, 5] (fun vk vi => ∃ i : Nat, i ≤ n ∧ vi = .int .i64 i ∧ vk = .int .i64 (k + 2 * i)) (fun _ vi => n - (intOf vi).toNat)
  case atStart => exact ⟨0, Nat.zero_le _, rfl, vint (by simp)⟩
  case round =>
    obtain ⟨i, hi, rfl, rfl⟩ := hrel
    by_cases hlt : i < n
    · obtain ⟨b, o, x, rfl, hb, hx, hf1, hf2, hc0, hc1⟩ := pairAt h hlt
      obtain rfl : (k + 2 * (i : Int), k + 2 * (i : Int) + 1) = x := by rw [allP_at hlt] at hx; injection hx
      simp only at hc0 hc1
      have q : ((k + 2 * (i : Int)) != (k + 2 * (i : Int))) = false := by simp
      have q' : ((k + 2 * (i : Int) + 1) != (k + 2 * (i : Int) + 1)) = false := by simp
      clear hx h hf1 hf2
      go_wp2
      go_round
      case rel => exact ⟨i + 1, by omega, by go_num, vint (by omega)⟩
      case measure => simp [intOf]; omega
    · clear h
      go_wp2
      go_ret
      exact ⟨ret_int (by omega), rfl⟩
end Go.Proofs.Ytgjghpaenliliaa.Wk
