/-
  Texts: words that the chapters share; texts joined.
  Conditions: none beyond the bounds that each states.
-/
import Derived.Test.YtgjghpaenliliaaW8
import Derived.Test.YtgjghpaenliliaaU0
import Derived.Test.YtgjghpaenliliaaM8
import Derived.Test.YtgjghpaenliliaaM11
import Derived.Test.YtgjghpaenliliaaP8
namespace Go.Proofs.Ytgjghpaenliliaa.Wk
open Go.RowKit Go.Proofs.Ytgjghpaenliliaa.M
set_option linter.unusedVariables false
attribute [local go_sem] cell_grow

theorem ret_str {a b : ByteArray} (h : a = b) : Ending.returned (.string a) = .returned (.string b) := by rw [h]
theorem vstr {a b : ByteArray} (h : a = b) : Value.string a = .string b := by rw [h]
theorem fmtS_size {n : Int} (h : Fit n) : (fmtS n).size ≤ 20 := by
  unfold fmtS; rw [strOfNums_size]; exact P.fmtL_len h.1 h.2
theorem fmtS_all {xs : List Int} (h : ∀ x ∈ xs, Fit x) : ∀ t ∈ xs.map fmtS, t.size ≤ 4096 := by
  intro t ht
  obtain ⟨x, hx, rfl⟩ := List.mem_map.1 ht
  have := fmtS_size (h x hx); omega
theorem info_str : (Try.prog.info? 9).map (fun i => (i.zero, i.size, i.bytes)) = some (some (.string ⟨#[]⟩), 1, 16) := by kernel_rfl
set_option maxHeartbeats 800000 in
theorem glued {A : Option Addr} {n c : Nat} {l : List ByteArray} {t : ByteArray} (w : World) (h : Sl RS 1 w w.heap.size A n c l) (hn : n ≤ 1048576) (ht : t.size ≤ 16) (hl : ∀ x ∈ l, x.size ≤ 4096) :
    Calls Try.prog 30 #[.slice A n c, .string t] w fun e w' => e = .returned (.string (P.glue t l)) ∧ Below w.heap.size w w' := by
  have HF := Lib.hid hl
  have HL := Lib.hid h.len
  clear hl
  go_enter Try.func30, Try.ntmps30
  go_wp2
  go_loop [5, 6, 7, 10] (fun vs vi vt vk => ∃ k : Nat, k ≤ n ∧ vk = .int .i64 k ∧ vs = .string (P.glueTo t l k)) (fun _ _ _ vk => n - (intOf vk).toNat)
  case atStart => exact ⟨0, Nat.zero_le _, rfl, rfl⟩
  case round =>
    obtain ⟨k, hk, rfl, rfl⟩ := hrel
    by_cases hlt : k < n
    · obtain ⟨b, o, x, rfl, hb, hx, hf, hc⟩ := h.str hlt
      have s1 := P.glueTo_size ht HF.out k
      have s2 := HF.out x (List.mem_of_getElem? hx)
      clear hf
      by_cases h0 : k = 0
      · have q : decide (0 < k) = false := by simp; omega
        have HG := Lib.hid (P.glueTo_one (b := t) h0 hx)
        clear hx h h0
        go_wp2
        go_round
        case rel => exact ⟨k + 1, by omega, by go_num, vstr HG.out.symm⟩
        case measure => simp [intOf]; omega
      · have q : decide (0 < k) = true := by simp; omega
        have HG := Lib.hid (P.glueTo_more (b := t) h0 hx)
        clear hx h h0
        go_wp2
        go_round
        case rel => exact ⟨k + 1, by omega, by go_num, vstr HG.out.symm⟩
        case measure => simp [intOf]; omega
    · have HG := Lib.hid (P.glue_at (b := t) (l := l) (k := k) (n := n) HL.out (by omega))
      clear h
      go_wp2
      go_ret
      exact ⟨ret_str HG.out.symm, Below.refl _ _⟩
end Go.Proofs.Ytgjghpaenliliaa.Wk
