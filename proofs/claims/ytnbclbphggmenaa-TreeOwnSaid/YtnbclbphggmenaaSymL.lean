/- Equality of trees is so from both sides, and each tree is the same as itself. No program. Conditions: none. -/
import Derived.Test.YtnbclbphggmenaaFindL
import Derived.Test.YtnbclbphggmenaaBEqB
namespace Go.Proofs.Ytnbclbphggmenaa.Tr
open Go.RowKit Go.Proofs.Ytnbclbphggmenaa.Lx Go.Proofs.Ytnbclbphggmenaa.Wd
theorem eqT_comm : ∀ l m : List ByteArray, eqT l m = eqT m l := by
  intro l
  induction l with
  | nil => intro m; cases m <;> simp only [eqT]
  | cons a r ih =>
    intro m
    cases m with
    | nil => simp only [eqT]
    | cons b s => simp only [eqT]; rw [ih s, BEq.comm (a := a.toList)]
mutual
theorem eqE_comm : ∀ x y : Ex, eqE x y = eqE y x
  | .mk o n s ks, y => by
    rw [eqE_eq, eqE_eq y]
    simp only [Ex.op, Ex.n, Ex.nm, Ex.ks]
    rw [eqEs_comm ks, BEq.comm (a := o), BEq.comm (a := n), BEq.comm (a := s.toList)]

theorem eqEs_comm : ∀ l m : List Ex, eqEs l m = eqEs m l
  | [], m => by cases m <;> simp only [eqEs]
  | x :: r, m => by
    cases m with
    | nil => simp only [eqEs]
    | cons y s => simp only [eqEs]; rw [eqE_comm x y, eqEs_comm r s]
end
theorem eqL_comm {α : Type} {f : α → α → Bool} : ∀ l m : List α, (∀ x ∈ l, ∀ y, f x y = f y x) → eqL f l m = eqL f m l := by
  intro l
  induction l with
  | nil => intro m _; cases m <;> simp only [eqL]
  | cons a r ih =>
    intro m h
    cases m with
    | nil => simp only [eqL]
    | cons b s => simp only [eqL]; rw [ih s fun x hx => h x (by simp [hx]), h a (by simp) b]
theorem eqA_comm (a b : Ar) : eqA a b = eqA b a := by unfold eqA; rw [BEq.comm (a := a.ref), BEq.comm (a := a.nm.toList), eqE_comm]
theorem eqPa_comm (a b : Pa) : eqPa a b = eqPa b a := by unfold eqPa; rw [BEq.comm (a := a.ref), BEq.comm (a := a.nm.toList)]
mutual
theorem eqS_comm : ∀ s t : St, eqS s t = eqS t s
  | .mk i k ls nm pr x h ar th el, t => by
    rw [eqS_eq, eqS_eq t]
    simp only [St.id, St.kind, St.nm, St.proc, St.has, St.labels, St.x, St.args, St.thn, St.els]
    rw [← eqSs_eq, ← eqSs_eq, ← eqSs_eq, ← eqSs_eq, eqSs_comm th, eqSs_comm el, eqL_comm ar _ fun a _ b => eqA_comm a b, eqE_comm x, eqT_comm ls, BEq.comm (a := i), BEq.comm (a := k), BEq.comm (a := nm.toList), BEq.comm (a := pr.toList), BEq.comm (a := h)]

theorem eqSs_comm : ∀ l m : List St, eqSs l m = eqSs m l
  | [], m => by cases m <;> simp only [eqSs]
  | x :: r, m => by
    cases m with
    | nil => simp only [eqSs]
    | cons y s => simp only [eqSs]; rw [eqS_comm x y, eqSs_comm r s]
end
theorem eqPc_comm (f g : Pc) : eqPc f g = eqPc g f := by
  unfold eqPc
  rw [BEq.comm (a := f.nm.toList), eqL_comm f.params _ fun a _ b => eqPa_comm a b, eqT_comm f.vars, eqT_comm f.fin, eqL_comm f.body _ fun a _ b => eqS_comm a b]
theorem eqPr_comm (p q : Pr) : eqPr p q = eqPr q p := by
  unfold eqPr
  rw [eqT_comm p.globals, eqL_comm p.procs _ fun a _ b => eqPc_comm a b]
theorem eqPc_refl (f : Pc) : eqPc f f = true := by
  unfold eqPc
  rw [eqT_same, eqT_same, eqL_refl fun a _ => eqS_refl a, eqL_refl (f := eqPa) fun a _ => by unfold eqPa; simp]
  simp
theorem eqPr_refl (p : Pr) : eqPr p p = true := by unfold eqPr; rw [eqT_same, eqL_refl fun a _ => eqPc_refl a]; rfl
end Go.Proofs.Ytnbclbphggmenaa.Tr
