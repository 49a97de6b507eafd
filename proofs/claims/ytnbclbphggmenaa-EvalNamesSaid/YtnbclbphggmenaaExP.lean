/- Plain definitions: expressions, which may be, what they are worth. No program. Conditions: none. -/
import Derived.Test.YtnbclbphggmenaaWordL
import Derived.Test.YtnbclbphggmenaaNameW
namespace Go.Proofs.Ytnbclbphggmenaa.Tr
open Go.Proofs.Ytnbclbphggmenaa.Lx Go.Proofs.Ytnbclbphggmenaa.Wd
/-- An expression: its kind, its number, its name, its kids. -/
inductive Ex where
  | mk (op n : Int) (nm : ByteArray) (ks : List Ex)
def Ex.op : Ex → Int | .mk o _ _ _ => o
def Ex.n : Ex → Int | .mk _ n _ _ => n
def Ex.nm : Ex → ByteArray | .mk _ _ s _ => s
def Ex.ks : Ex → List Ex | .mk _ _ _ k => k
theorem Ex.eta (x : Ex) : .mk x.op x.n x.nm x.ks = x := by cases x; rfl
/-- How many kids a kind has; -1: it is none. -/
def kidsOf (op : Int) : Int := if op = 1 ∨ op = 2 then 0 else if op = 3 ∨ op = 4 then 1 else if 5 ≤ op ∧ op ≤ 17 then 2 else -1
def noName (s : ByteArray) : Bool := s.toList.isEmpty
/-- May it be one by itself, its kids unasked? -/
def headE (x : Ex) : Bool :=
  if x.op = 1 then decide (0 ≤ x.n) && noName x.nm else if x.op = 2 then x.n == 0 && isName (bl x.nm) else x.n == 0 && noName x.nm
/-- May it be an expression, with so many at most in one another? -/
def mayE : Nat → Ex → Bool
  | 0, _ => false
  | l + 1, x => (x.ks.length : Int) == kidsOf x.op && headE x && x.ks.all (mayE l)
/-- Where a name stands first. -/
def at_ (s : ByteArray) (ns : List ByteArray) : Option Nat := ns.findIdx? (fun m => s.toList == m.toList)
/-- What a name stands for. -/
def look (s : ByteArray) (ns : List ByteArray) (vs : List Int) : Int :=
  match at_ s ns with
  | some i => vs.getD i 0
  | none => 0
/-- What an expression is worth (of one that may be), looking so deep. -/
def evalE : Nat → Ex → List ByteArray → List Int → Int × Bool
  | 0, _, _, _ => (0, false)
  | l + 1, x, ns, vs =>
    if x.op = 1 then (x.n, true) else if x.op = 2 then (look x.nm ns vs, true) else
    match x.ks with
    | [a] => let r := evalE l a ns vs; if r.2 = false then (0, false) else (oneV x.op r.1, oneB x.op)
    | [a, b] =>
      let r := evalE l a ns vs
      if r.2 = false then (0, false)
      else if x.op = 16 ∧ r.1 = 0 then (0, true)
      else if x.op = 17 ∧ r.1 ≠ 0 then (1, true)
      else let q := evalE l b ns vs; if q.2 = false then (0, false) else (twoV x.op r.1 q.1, twoB x.op q.1)
    | _ => (0, false)
end Go.Proofs.Ytnbclbphggmenaa.Tr
