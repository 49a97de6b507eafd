/- Plain definitions: what the reckoning of one and of two numbers of 64 bits comes to. No program. Conditions: none. -/
import Derived.WalkKit
namespace Go.Proofs.Ytnbclbphggmenaa.Wd
open Go.RowKit
def bitI (b : Bool) : Int := if b then 1 else 0
def oneV (op a : Int) : Int := if op = 3 then wrap64 (-a) else if op = 4 then bitI (a == 0) else 0
def oneB (op : Int) : Bool := op == 3 || op == 4
def cmpV (op a b : Int) : Int :=
  if op = 10 then bitI (decide (a < b)) else if op = 11 then bitI (decide (a ≤ b)) else if op = 12 then bitI (decide (b < a)) else if op = 13 then bitI (decide (b ≤ a))
  else if op = 14 then bitI (a == b) else if op = 15 then bitI (a != b) else 0
def cmpB (op : Int) : Bool := decide (10 ≤ op) && decide (op ≤ 15)
def divV (op a b : Int) : Int := if b = 0 then 0 else if op = 7 then a.tmod b else wrap64 (a.tdiv b)
def divB (b : Int) : Bool := b != 0
def twoV (op a b : Int) : Int :=
  if op = 8 then wrap64 (a + b) else if op = 9 then wrap64 (a - b) else if op = 5 then wrap64 (a * b)
  else if op = 6 ∨ op = 7 then divV op a b else if op = 16 then bitI (a != 0 && b != 0) else if op = 17 then bitI (a != 0 || b != 0) else cmpV op a b
def twoB (op b : Int) : Bool :=
  if op = 8 then true else if op = 9 then true else if op = 5 then true
  else if op = 6 ∨ op = 7 then divB b else if op = 16 then true else if op = 17 then true else cmpB op
end Go.Proofs.Ytnbclbphggmenaa.Wd
