/-
  Plain functions: items, wishes and how they compare. No program stands here.
  Conditions: none.
-/
import Derived.Test.YtphbochfpidgeaaP3
import Derived.Test.YtphbochfpidgeaaM1
namespace Go.Proofs.Ytphbochfpidgeaa.P
open Go.Proofs.Ytphbochfpidgeaa.M

/-! ### items -/
def okV (l : List Int) : Bool := l.all fun v => inR v 0 9
def okI (x : It) : Bool := inR x.id 0 99 && decide (x.vals.length = 3) && okV x.vals
/-- Each id is greater than the one before. -/
def risI : List It → Bool
  | [] => true
  | [_] => true
  | x :: y :: t => decide (x.id < y.id) && risI (y :: t)
def okIs (l : List It) : Bool := l.all okI && risI l && decide (l.length ≤ 16)
/-- The place of the first item with an id. -/
def findI (l : List It) (id : Int) : Int := match l.findIdx? (fun x => decide (x.id = id)) with
  | some k => k
  | none => -1
def eqI (x y : It) : Bool := decide (x.id = y.id) && decide (x.vals = y.vals)

/-! ### wishes -/
def risL : List Int → Bool
  | [] => true
  | [_] => true
  | x :: y :: t => decide (x < y) && risL (y :: t)
/-- A valid wish. -/
noncomputable def okW (w : Wi) : Bool :=
  inR w.field 0 2 && (
    if w.kind = 0 ∨ w.kind = 1 then decide (w.value = 0 ∧ w.list = [] ∧ w.pairs = [])
    else if w.kind = 2 then inR w.value 0 9 && decide (w.list = [] ∧ w.pairs = [])
    else if w.kind = 3 then decide (w.value = 0 ∧ w.pairs = [] ∧ w.list ≠ []) && okV w.list && risL w.list
    else if w.kind = 4 then decide (w.value = 0 ∧ w.list = []) && okP w.pairs
    else false)
/-- How far a value is from the best ones. -/
def rank (w : Wi) (v : Int) : Int :=
  if w.kind = 0 then v else if w.kind = 1 then 9 - v else if w.kind = 2 then max (v - w.value) (w.value - v) else if v ∈ w.list then 0 else 1
/-- The comparison of two values by a valid wish. -/
noncomputable def cmpV (w : Wi) (a b : Int) : Int :=
  if w.kind = 4 then (if a = b then 0 else if abv w.pairs a b then 1 else if abv w.pairs b a then -1 else 2)
  else if rank w a < rank w b then 1 else if rank w b < rank w a then -1 else 0
noncomputable def cmpVals (w : Wi) (a b : Int) : Int := if okW w && inR a 0 9 && inR b 0 9 then cmpV w a b else 2
noncomputable def cmpIs (w : Wi) (x y : It) : Int := if okW w && okI x && okI y then cmpV w (x.vals.getD w.field.toNat 0) (y.vals.getD w.field.toNat 0) else 2

/-! ### expressions -/
def opnds (op : Int) : Nat := if op = 0 then 0 else if op = 3 then 1 else 2
def noW (w : Wi) : Bool := decide (w.kind = 0 ∧ w.field = 0 ∧ w.value = 0 ∧ w.list = [] ∧ w.pairs = [])
noncomputable def okN (n : Nd) : Bool := inR n.op 0 4 && if n.op = 0 then okW n.wish else noW n.wish
/-- The depth of the stack behind the nodes, or none. -/
noncomputable def depth : List Nd → Nat → Option Nat
  | [], d => some d
  | n :: t, d => if okN n && decide (opnds n.op ≤ d) then depth t (d + 1 - opnds n.op) else none
noncomputable def okE (e : List Nd) : Bool := decide (depth e 0 = some 1) && decide (e.length ≤ 9)
def comb (op a b : Int) : Int :=
  if op = 1 then (if a = 2 ∨ b = 2 ∨ a * b < 0 then 2 else if a ≠ 0 then a else b)
  else if op = 2 then (if a ≠ 0 then a else b)
  else if a = b then a else 2
end Go.Proofs.Ytphbochfpidgeaa.P
