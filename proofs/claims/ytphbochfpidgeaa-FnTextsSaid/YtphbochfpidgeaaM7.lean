/-
  What stays as it was while memory is only added: the word that a region holds on to. No program stands here.
  Conditions: none.
-/
import Derived.Test.YtphbochfpidgeaaM6
import Derived.Lib.QuietBelow
import Derived.StillTailTactics
namespace Go.Proofs.Ytphbochfpidgeaa.M
open Go Go.RowKit

theorem cell_of {B : Nat} {w w' : World} (h : Below B w w') : ∀ b o, b < B → w'.cell? ⟨b, o, none⟩ = w.cell? ⟨b, o, none⟩ := fun b o hb => h.cell (p := ⟨b, o, none⟩) hb
theorem ext_of {B : Nat} {w w' : World} (h : Below B w w') : Below B w w' ∧ ∀ b o, b < B → w'.cell? ⟨b, o, none⟩ = w.cell? ⟨b, o, none⟩ := ⟨h, cell_of h⟩
theorem ext_drew (W : World) : Below W.heap.size W W.drew ∧ ∀ b o, b < W.heap.size → W.drew.cell? ⟨b, o, none⟩ = W.cell? ⟨b, o, none⟩ := ext_of (Below.refl _ _).drew
theorem ext_step {w w' W : World} (hb : Below W.heap.size W w') (h : Below w.heap.size w W ∧ ∀ b o, b < w.heap.size → W.cell? ⟨b, o, none⟩ = w.cell? ⟨b, o, none⟩) :
    Below w.heap.size w w' ∧ ∀ b o, b < w.heap.size → w'.cell? ⟨b, o, none⟩ = w.cell? ⟨b, o, none⟩ := ext_of (h.1.trans (hb.mono h.1.size))
theorem ext_alloc {w W : World} (o : Obj) (h : Below w.heap.size w W ∧ ∀ b o, b < w.heap.size → W.cell? ⟨b, o, none⟩ = w.cell? ⟨b, o, none⟩) :
    Below w.heap.size w (W.alloc o) ∧ ∀ b o', b < w.heap.size → (W.alloc o).cell? ⟨b, o', none⟩ = w.cell? ⟨b, o', none⟩ := ext_of (h.1.alloc h.1.size _)
theorem held_below {w w' : World} (h : Below w.heap.size w w' ∧ ∀ b o, b < w.heap.size → w'.cell? ⟨b, o, none⟩ = w.cell? ⟨b, o, none⟩) : Below w.heap.size w w' := h.1
section
variable {α : Type} {R : Rep α} {sz B n c : Nat} {A : Option Addr} {l : List α} {w W w' : World}
theorem Sl.held (h : Sl R sz w w.heap.size A n c l) (K : Keeps R) (he : Below w.heap.size w w' ∧ ∀ b o, b < w.heap.size → w'.cell? ⟨b, o, none⟩ = w.cell? ⟨b, o, none⟩) : Sl R sz w' w'.heap.size A n c l :=
  h.at_world K he.1 he.1.size
theorem Sl.on (h : Sl R sz w w.heap.size A n c l) (K : Keeps R) (he : Below w.heap.size w w') : Sl R sz w' w'.heap.size A n c l := h.at_world K he he.size
end
/-! ### a region that draws its order, of loads and of calls that only make memory: walked once, in the order of the text -/
theorem wp_region_qb {P : Program} {id : Nat} {Q : Exit → Act → World → Prop} {a : Act} {w : World} {l : List Oper} (hm : P.follows .mixedOrders = true) (hB : Region.lexB .any l.toArray = true)
    (h : wpQuiet P l.toArray (fun w' => ∃ p : Regrown, w' = Go.Sort.grow (redrawn w p.d) p.os) (fun a' => ∀ w', Below w.heap.size w w' → Q .normal a' w') l a) : (Code.region id l.toArray true).wp P Q a w := by
  refine wp_region_quiet_below hm hB ?_
  have e : (fun a' => ∀ w', (∃ p : Regrown, w' = Go.Sort.grow (redrawn w p.d) p.os) → Q .normal a' w') = fun a' => ∀ w', Below w.heap.size w w' → Q .normal a' w' := by
    funext a'
    apply propext
    constructor
    · exact fun g w' hb => g w' (regrown_of_below hb)
    · rintro g w' ⟨p, rfl⟩
      exact g _ (below_regrown w p.d p.os)
  rw [e]
  exact h
theorem still_of_quiet {P : Program} {ops : Array Oper} {W : World} {Q : Act → Prop} : ∀ (l : List Oper) (a : Act), wpQuiet P ops (fun w' => w' = W) Q l a → wpStill P ops W Q l a
  | [], _, h => h
  | o :: rest, a, h => by
    unfold wpQuiet at h
    unfold wpStill
    split
    · rename_i hw
      rw [if_pos hw] at h
      obtain ⟨v, h1, h2⟩ := h
      have h3 := h1 W rfl
      have h4 := still_of_quiet rest _ h2
      have key : ∀ r : Result Next, Oper.quietUpon P (fun w' => w' = W) W v r → Oper.stillUpon P o a W (wpStill P ops W Q rest) r := by
        intro r hr
        match r, hr with
        | .ok (.value u) w', hr => obtain ⟨rfl, rfl⟩ := hr; exact ⟨rfl, h4⟩
        | .ok .skip w', hr => obtain ⟨rfl, rfl⟩ := hr; exact ⟨rfl, h4⟩
        | .ok (.enter f args) w', hr => obtain ⟨rfl, hc⟩ := hr; exact ⟨rfl, v, hc, h4⟩
      exact key _ h3
    · rename_i hw
      rw [if_neg hw] at h
      exact still_of_quiet rest _ h
/-- A region of reads and, last, a store: walked in the order of the text. -/
theorem wp_qt {P : Program} {id : Nat} {Q : Exit → Act → World → Prop} {a : Act} {w : World} {l : List Oper} (n : Nat) (hm : P.follows .mixedOrders = true) (hB : Region.lexTailB .any l.toArray n = true)
    (h : wpQuiet P l.toArray (fun w' => w' = w.drew) (fun a' => wpList P l.toArray Q (l.drop n) a' w.drew) (l.take n) a) : (Code.region id l.toArray true).wp P Q a w := wp_region_still_tail n hm hB (still_of_quiet _ _ h)
theorem cell_grow {w : World} {b : Nat} (h : b < w.heap.size) (o d : Nat) (os : Array Obj) : (Go.Sort.grow (redrawn w d) os).cell? ⟨b, o, none⟩ = w.cell? ⟨b, o, none⟩ :=
  (below_regrown w d os).cell (p := ⟨b, o, none⟩) h
theorem quietB {P : Program} {f : FuncId} {args : Array Value} {w : World} {d : Nat} {os : Array Obj} {v : Value}
    (h : Calls P f args (Go.Sort.grow (redrawn w d) os) fun e w' => e = .returned v ∧ Below (Go.Sort.grow (redrawn w d) os).heap.size (Go.Sort.grow (redrawn w d) os) w') :
    Calls P f args (Go.Sort.grow (redrawn w d) os) fun e w'' => e = .returned v ∧ ∃ p : Regrown, w'' = Go.Sort.grow (redrawn w p.d) p.os := Calls.regrown_of h
theorem quietBb {P : Program} {f : FuncId} {args : Array Value} {w : World} {d : Nat} {os : Array Obj} {v r : Bool} (hv : v = r)
    (h : Calls P f args (Go.Sort.grow (redrawn w d) os) fun e w' => e = .returned (.bool v) ∧ Below (Go.Sort.grow (redrawn w d) os).heap.size (Go.Sort.grow (redrawn w d) os) w') :
    Calls P f args (Go.Sort.grow (redrawn w d) os) fun e w'' => e = .returned (.bool r) ∧ ∃ p : Regrown, w'' = Go.Sort.grow (redrawn w p.d) p.os := by subst hv; exact Calls.regrown_of h
theorem quietSb {P : Program} {f : FuncId} {args : Array Value} {w : World} {d : Nat} {os : Array Obj} {v r : Bool} (hv : v = r)
    (h : Calls P f args (Go.Sort.grow (redrawn w d) os) fun e w' => e = .returned (.bool v) ∧ Go.Sort.grow (redrawn w d) os = w') :
    Calls P f args (Go.Sort.grow (redrawn w d) os) fun e w'' => e = .returned (.bool r) ∧ ∃ p : Regrown, w'' = Go.Sort.grow (redrawn w p.d) p.os := by
  subst hv
  exact h.mono fun _ _ ⟨he, hw⟩ => ⟨he, ⟨d, os⟩, hw.symm⟩
theorem quietS {P : Program} {f : FuncId} {args : Array Value} {w W : World} {d : Nat} {os : Array Obj} {v : Value} (hW : W = Go.Sort.grow (redrawn w d) os)
    (h : Calls P f args W fun e w' => e = .returned v ∧ W = w') :
    Calls P f args W fun e w'' => e = .returned v ∧ ∃ p : Regrown, w'' = Go.Sort.grow (redrawn w p.d) p.os :=
  h.mono fun _ _ ⟨he, hw⟩ => ⟨he, ⟨d, os⟩, by rw [← hw, hW]⟩
section
variable {α : Type} {R : Rep α} {sz n c : Nat} {A : Option Addr} {l : List α} {w : World}
theorem Sl.gr (h : Sl R sz w w.heap.size A n c l) (K : Keeps R) (d : Nat) (os : Array Obj) : Sl R sz (Go.Sort.grow (redrawn w d) os) (Go.Sort.grow (redrawn w d) os).heap.size A n c l := h.on K (below_regrown w d os)
end
end Go.Proofs.Ytphbochfpidgeaa.M
