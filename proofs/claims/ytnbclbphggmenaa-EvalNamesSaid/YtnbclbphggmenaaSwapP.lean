/- Plain laws: names changed in an expression. No program. Conditions: none. -/
import Derived.Test.YtnbclbphggmenaaEvalP
import Derived.Test.YtnbclbphggmenaaTrM
namespace Go.Proofs.Ytnbclbphggmenaa.Tr
open Go.RowKit Go.Proofs.Ytnbclbphggmenaa.Lx Go.Proofs.Ytnbclbphggmenaa.Wd
/-- Of two names the other one. -/
def other (a b s : ByteArray) : ByteArray := if (s.toList == a.toList) = true then b else if (s.toList == b.toList) = true then a else s
mutual
/-- Each name changed. -/
def mapE (f : ByteArray → ByteArray) : Ex → Ex
  | .mk op n nm ks => .mk op n (f nm) (mapL f ks)
def mapL (f : ByteArray → ByteArray) : List Ex → List Ex
  | [] => []
  | x :: xs => mapE f x :: mapL f xs
end
theorem mapL_eq (f : ByteArray → ByteArray) : ∀ l : List Ex, mapL f l = l.map (mapE f) := by
  intro l
  induction l with
  | nil => rfl
  | cons x xs ih => simp only [mapL, List.map_cons, ih]
theorem mapE_eq (f : ByteArray → ByteArray) (x : Ex) : mapE f x = .mk x.op x.n (f x.nm) (x.ks.map (mapE f)) := by
  cases x with
  | mk op n nm ks => simp only [mapE, mapL_eq, Ex.op, Ex.n, Ex.nm, Ex.ks]
theorem mapE_op (f : ByteArray → ByteArray) (x : Ex) : (mapE f x).op = x.op := by rw [mapE_eq]; rfl
theorem mapE_n (f : ByteArray → ByteArray) (x : Ex) : (mapE f x).n = x.n := by rw [mapE_eq]; rfl
theorem mapE_nm (f : ByteArray → ByteArray) (x : Ex) : (mapE f x).nm = f x.nm := by rw [mapE_eq]; rfl
theorem mapE_ks (f : ByteArray → ByteArray) (x : Ex) : (mapE f x).ks = x.ks.map (mapE f) := by rw [mapE_eq]; rfl
/-- No row of kids is long. -/
def lim : Nat → List Ex → Prop
  | 0, _ => True
  | d + 1, ks => ks.length ≤ 20000 ∧ ∀ k ∈ ks, lim d k.ks
theorem may_lim : ∀ (l : Nat) (x : Ex), mayE l x = true → ∀ d, lim d x.ks := by
  intro l
  induction l with
  | zero => intro x h; cases h
  | succ l ih =>
    intro x h d
    obtain ⟨h1, h2, h3⟩ := may_parts h
    cases d with
    | zero => trivial
    | succ d =>
      refine ⟨?_, fun k hk => ih k (h3 k hk) d⟩
      have : kidsOf x.op ≤ 2 := by unfold kidsOf; split; omega; split; omega; split <;> omega
      omega
end Go.Proofs.Ytnbclbphggmenaa.Tr
