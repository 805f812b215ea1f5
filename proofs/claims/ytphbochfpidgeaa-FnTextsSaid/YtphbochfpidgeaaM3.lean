/-
  Rows of the call's own: made to a string, grown, read. No program stands here.
  Conditions: none.
-/
import Derived.Test.YtphbochfpidgeaaM1
import Derived.Laws.BytesArg
import Derived.Laws.AppendOwn
import Derived.Deep.QuietTactic
namespace Go.Proofs.Ytphbochfpidgeaa.M
open Go Go.RowKit

theorem strOfNums_nil : strOfNums [] = ByteArray.empty := rfl
/-- 'string(out)', out a row of bytes of the call's own. -/
theorem conv_own {P : Program} {w : World} {base e : Nat} {v : Value} {n : Nat} {xs : List Int} (src dst : TypeId) (hs : P.underlying src = some (.slice e)) (he : P.underlying e = some (.int .u8)) (hd : P.underlying dst = some .string)
    (h : w.ownsRow base e 1 v n (xs.map (Value.int .u8))) : (convert src dst v).run P w = .ok (.string (strOfNums xs)) w := by
  have hl : xs.length = n := by have := h.1; simpa using this
  rcases h.2 with ⟨rfl, h0⟩ | ⟨g, cap, cur, rfl, hb, hh, hn, hm, hsz, ht⟩
  · have : xs = [] := List.eq_nil_of_length_eq_zero (by omega)
    subst this
    exact run_convert_bytes_nil w src e hs he 0 0 dst hd
  · refine run_convert_bytes_arg w src e hs he g 0 n cap xs hl (fun i hi => ?_) dst hd
    have hc := h.cells (g := g) rfl i (.int .u8 (xs.getD i 0)) (by
      have : i < xs.length := by omega
      simp [List.getD, this])
    have e0 : (⟨g, 0, none⟩ : Addr).add i = ⟨g, 0 + i, none⟩ := by by_cases h0 : i = 0 <;> simp [Addr.add, h0]
    rwa [e0] at hc
/-- An empty slice that was just made. -/
theorem own_empty (w : World) (e : TypeId) : (w.alloc (.cells #[] e)).ownsRow w.heap.size e 1 (.slice (some ⟨w.heap.size, 0, none⟩) 0 0) 0 [] := by
  have := World.ownsRow_lit (base := w.heap.size) (e := e) (size := 1) w #[] 0 (Nat.le_refl _) (Nat.zero_le _) rfl
  simpa using this
theorem one_new (w : World) (x : Value) (t : TypeId) : ∀ j u, [x][j]? = some u → (w.alloc (.cells #[x] t)).cell? ((⟨w.heap.size, 0, none⟩ : Addr).add j) = some u := by
  intro j u hj
  match j, hj with
  | 0, hj => simp at hj; subst hj; simp [Addr.add]
  | j + 1, hj => simp at hj
theorem own_drewN {w : World} {base e sz : Nat} {v : Value} {k n : Nat} {xs : List Value} (h : w.ownsRow base e sz v k xs) : (w.drewN n).ownsRow base e sz v k xs := h
/-- A quiet call behind another one, in a region that draws its order. -/
theorem quietA {P : Program} {f : FuncId} {args : Array Value} {w : World} {a n : Nat} {v : Value} (h : Calls P f args (w.drewN (a + n)) fun e w' => e = .returned v ∧ w' = w.drewN (a + n)) :
    Calls P f args (w.drewN (a + n)) fun e w'' => e = .returned v ∧ ∃ m, w'' = w.drewN (a + m) := h.mono fun _ _ h => ⟨h.1, n, h.2⟩
end Go.Proofs.Ytphbochfpidgeaa.M
