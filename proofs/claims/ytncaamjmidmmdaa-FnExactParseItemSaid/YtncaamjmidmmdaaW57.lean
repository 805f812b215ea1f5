/-
  Walks of chapter 2: IdsOf.
  Conditions: none beyond the bounds that each states.
-/
import Derived.Test.YtncaamjmidmmdaaU6
import Derived.Test.YtncaamjmidmmdaaM8
namespace Go.Proofs.Ytncaamjmidmmdaa.Wk
open Go.RowKit Go.Proofs.Ytncaamjmidmmdaa.M
set_option linter.unusedVariables false
attribute [local go_sem] cell_grow

/-- The ids of a list of items. -/
def idsR (l : List It) : List Int := l.map (·.id)
theorem idsR_len (l : List It) : (idsR l).length = l.length := by simp [idsR]
theorem idsR_fit {l : List It} (h : ∀ x ∈ l, Fit x.id ∧ ∀ y ∈ x.vals, Fit y) : ∀ x ∈ idsR l, Fit x := by
  intro x hx
  obtain ⟨y, hy, rfl⟩ := List.mem_map.1 hx
  exact (h y hy).1
theorem info_i2 : (Try.prog.info? 3).map (fun i => (i.zero, i.size, i.bytes)) = some (some (.int .i64 0), 1, 8) := by kernel_rfl
set_option maxHeartbeats 1600000 in
set_option maxRecDepth 100000 in
theorem specIdsOf {A : Option Addr} {n c : Nat} {l : List It} (w : World) (h : Sl RIt 2 w w.heap.size A n c l) (hn : n ≤ 1048576) : Calls Try.prog 22 #[.slice A n c] w (RetQs w (idsR l)) := by
  obtain ⟨i0, hi, hz0, hz1, hz2⟩ := info_parts info_i2
  have HL := Lib.hid h.len
  go_enter Try.func22, Try.ntmps22
  go_wp2
  go_loopw [3, 4] (fun vo vk wr => ∃ k : Nat, k ≤ n ∧ vk = .int .i64 k ∧ wr.ownsRow w.heap.size 3 1 vo k (((idsR l).take k).map (Value.int .i64)) ∧ Below w.heap.size w wr) (fun _ vk _ => n - (intOf vk).toNat)
  case atStart => exact ⟨0, Nat.zero_le _, rfl, own_emptyS w 3 1, (Below.refl _ _).alloc (Nat.le_refl _) _⟩
  case round =>
    obtain ⟨k, hk, rfl, hown, hbw⟩ := hrel
    by_cases hlt : k < n
    · obtain ⟨b, o, x, A1, n1, c1, rfl, hb, hx, hf, hs, g0, g1⟩ := itemAt h hlt
      have e0 := ((cell_of hbw) b (o + k * 2) hb).trans g0
      have e1 := ((cell_of hbw) b (o + k * 2 + 1) hb).trans g1
      have hsz := hbw.size
      have hx2 : (idsR l)[k]? = some x.id := by unfold idsR; rw [List.getElem?_map, hx]; rfl
      have HX := Lib.hid hx2
      obtain ⟨A', c', rfl, _, _⟩ := own_form hown
      have hown1 := hown
      have hbw1 := hbw
      have hsz1 := hsz
      clear hx hx2 g0 g1 hs
      go_wp2_with (at_builtin; refine wpList_append_own _ rfl _ _ 22 rfl w.heap.size 3 i0 (.int .i64 0) 1 8 Try.underlying22 hi hz0 hz1 hz2 rfl (by decide) _ _ _ rfl (hown1.alloc _) ⟨wr.heap.size, 0, none⟩ 1 1 [_] rfl rfl (one_new _ _ _) (by simp [Value.oneCell']) (by unfold maxLen; omega) (by omega) (by simp; omega) ?_)
      intro v' w4 hown4 hgrow _
      have hbw4 := Lib.hid (app_below hbw1 hown1 hgrow)
      have hown5 : Hid (w4.ownsRow w.heap.size 3 1 v' (k + 1) (((idsR l).take (k + 1)).map (Value.int .i64))) := by
        refine Lib.hid ?_
        rw [← take_map_snoc HX.out]
        simpa using hown4
      clear hown4 hgrow hown hbw hown1 hbw1 e0 e1
      go_wp2
      go_roundw
      case rel => exact ⟨k + 1, by omega, by go_num, hown5.out, hbw4.out⟩
      case measure => simp [intOf]; omega
    · have hkn : k = n := by omega
      obtain ⟨A', c', hv, _, _⟩ := own_form hown
      subst hv
      have HO : Hid (OwnQ wr w.heap.size wr.heap.size (.slice A' k c') (idsR l)) := by
        have hl : (idsR l).length = k := by rw [idsR_len, HL.out, hkn]
        rw [List.take_of_length_le (by omega)] at hown
        exact ⟨by rw [hl]; exact hown, own_und hown⟩
      clear h hown
      go_wp2
      go_ret
      exact ⟨_, rfl, HO.out, hbw⟩
theorem specIdsOfV {v : Value} {l : List It} (w : World) (h : V RIt 2 w w.heap.size v l) (hn : l.length ≤ 1048576) : Calls Try.prog 22 #[v] w (RetQs w (idsR l)) := by
  obtain ⟨A, n, c, rfl, hs⟩ := h
  exact specIdsOf w hs (by have := hs.len; omega)
set_option maxHeartbeats 1600000 in
set_option maxRecDepth 100000 in
theorem implIdsOf {A : Option Addr} {n c : Nat} {l : List It} (w : World) (h : Sl RIt 2 w w.heap.size A n c l) (hn : n ≤ 1048576) : Calls Try.prog 23 #[.slice A n c] w (RetQs w (idsR l)) := by
  obtain ⟨i0, hi, hz0, hz1, hz2⟩ := info_parts info_i2
  have HL := Lib.hid h.len
  go_enter Try.func23, Try.ntmps23
  go_wp2
  go_loopw [3, 5, 9] (fun vo v5 vk wr => ∃ k : Nat, k ≤ n ∧ vk = .int .i64 k ∧ wr.ownsRow w.heap.size 3 1 vo k (((idsR l).take k).map (Value.int .i64)) ∧ Below w.heap.size w wr) (fun _ _ vk _ => n - (intOf vk).toNat)
  case atStart => exact ⟨0, Nat.zero_le _, rfl, own_emptyS w 3 1, (Below.refl _ _).alloc (Nat.le_refl _) _⟩
  case round =>
    obtain ⟨k, hk, rfl, hown, hbw⟩ := hrel
    by_cases hlt : k < n
    · obtain ⟨b, o, x, A1, n1, c1, rfl, hb, hx, hf, hs, g0, g1⟩ := itemAt h hlt
      have e0 := ((cell_of hbw) b (o + k * 2) hb).trans g0
      have e1 := ((cell_of hbw) b (o + k * 2 + 1) hb).trans g1
      have hsz := hbw.size
      have hx2 : (idsR l)[k]? = some x.id := by unfold idsR; rw [List.getElem?_map, hx]; rfl
      have HX := Lib.hid hx2
      obtain ⟨A', c', rfl, _, _⟩ := own_form hown
      have hown1 := hown.alloc (.cells #[.int .i64 x.id, .slice A1 n1 c1] 27)
      have hbw1 := hbw.alloc hsz (.cells #[.int .i64 x.id, .slice A1 n1 c1] 27)
      have hsz1 := hbw1.size
      clear hx hx2 g0 g1 hs
      have hnew := one_new (wr.alloc (.cells #[.int .i64 x.id, .slice A1 n1 c1] 27)) (.int .i64 x.id) 3
      rw [World.size_alloc] at hnew
      go_wp2_with (at_builtin; refine wpList_append_own _ rfl _ _ 22 rfl w.heap.size 3 i0 (.int .i64 0) 1 8 Try.underlying22 hi hz0 hz1 hz2 rfl (by decide) _ _ _ rfl (hown1.alloc _) ⟨wr.heap.size + 1, 0, none⟩ 1 1 [_] rfl rfl hnew (by simp [Value.oneCell']) (by unfold maxLen; omega) (by omega) (by simp; omega) ?_)
      intro v' w4 hown4 hgrow _
      have hbw4 := Lib.hid (app_below hbw1 hown1 hgrow)
      have hown5 : Hid (w4.ownsRow w.heap.size 3 1 v' (k + 1) (((idsR l).take (k + 1)).map (Value.int .i64))) := by
        refine Lib.hid ?_
        rw [← take_map_snoc HX.out]
        simpa using hown4
      clear hown4 hgrow hown hbw hown1 hbw1 e0 e1
      go_wp2
      go_roundw
      case rel => exact ⟨k + 1, by omega, by go_num, hown5.out, hbw4.out⟩
      case measure => simp [intOf]; omega
    · have hkn : k = n := by omega
      obtain ⟨A', c', hv, _, _⟩ := own_form hown
      subst hv
      have HO : Hid (OwnQ wr w.heap.size wr.heap.size (.slice A' k c') (idsR l)) := by
        have hl : (idsR l).length = k := by rw [idsR_len, HL.out, hkn]
        rw [List.take_of_length_le (by omega)] at hown
        exact ⟨by rw [hl]; exact hown, own_und hown⟩
      clear h hown
      go_wp2
      go_ret
      exact ⟨_, rfl, HO.out, hbw⟩
theorem implIdsOfV {v : Value} {l : List It} (w : World) (h : V RIt 2 w w.heap.size v l) (hn : l.length ≤ 1048576) : Calls Try.prog 23 #[v] w (RetQs w (idsR l)) := by
  obtain ⟨A, n, c, rfl, hs⟩ := h
  exact implIdsOf w hs (by have := hs.len; omega)
end Go.Proofs.Ytncaamjmidmmdaa.Wk
