/- Plain laws of what expressions are worth: it hangs not on how deep one may look. No program. Conditions: none. -/
import Derived.Test.YtnbclbphggmenaaEvalW
namespace Go.Proofs.Ytnbclbphggmenaa.Tr
open Go.RowKit Go.Proofs.Ytnbclbphggmenaa.Lx Go.Proofs.Ytnbclbphggmenaa.Wd
theorem may_up : ∀ (l : Nat) (x : Ex), mayE l x = true → mayE (l + 1) x = true := by
  intro l
  induction l with
  | zero => intro x h; cases h
  | succ l ih =>
    intro x h
    rw [mayE_succ, Bool.and_eq_true] at h ⊢
    refine ⟨h.1, ?_⟩
    rw [List.all_eq_true] at *
    exact fun k hk => ih k (h.2 k hk)
theorem may_le {l m : Nat} {x : Ex} (h : mayE l x = true) (hlm : l ≤ m) : mayE m x = true := by
  induction hlm with
  | refl => exact h
  | step _ ih => exact may_up _ _ ih
theorem may_parts {l : Nat} {x : Ex} (h : mayE (l + 1) x = true) : (x.ks.length : Int) = kidsOf x.op ∧ headE x = true ∧ ∀ k ∈ x.ks, mayE l k = true := by
  rw [mayE_succ, Bool.and_eq_true, Bool.and_eq_true, List.all_eq_true] at h
  exact ⟨by simpa using h.1.1, h.1.2, h.2⟩
theorem eval_up (ns : List ByteArray) (vs : List Int) : ∀ (l : Nat) (x : Ex), mayE l x = true → evalE (l + 1) x ns vs = evalE l x ns vs := by
  intro l
  induction l with
  | zero => intro x h; cases h
  | succ l ih =>
    intro x h
    obtain ⟨h1, h2, h3⟩ := may_parts h
    by_cases o1 : x.op = 1
    · rw [ev_num o1, ev_num o1]
    by_cases o2 : x.op = 2
    · rw [ev_name o2, ev_name o2]
    match hk : x.ks with
    | [a] => rw [ev_one o1 o2 hk, ev_one o1 o2 hk, ih a (h3 a (by rw [hk]; simp))]
    | [a, b] => rw [ev_two o1 o2 hk, ev_two o1 o2 hk, ih a (h3 a (by rw [hk]; simp)), ih b (h3 b (by rw [hk]; simp))]
    | [] => rw [evalE, evalE, if_neg o1, if_neg o2, if_neg o1, if_neg o2, hk]
    | a :: b :: c :: r => rw [evalE, evalE, if_neg o1, if_neg o2, if_neg o1, if_neg o2, hk]
theorem eval_le (ns : List ByteArray) (vs : List Int) {l m : Nat} {x : Ex} (h : mayE l x = true) (hlm : l ≤ m) : evalE m x ns vs = evalE l x ns vs := by
  induction hlm with
  | refl => rfl
  | step hm ih => rw [eval_up ns vs _ x (may_le h hm), ih]
/-- Of two. -/
theorem eval_two {op : Int} {x y : Ex} {s : ByteArray} {m : Int} (ns : List ByteArray) (vs : List Int) (h : mayE 20 (.mk op m s [x, y]) = true) :
    mayE 20 x = true ∧ mayE 20 y = true ∧ evalE 20 (.mk op m s [x, y]) ns vs =
    if (evalE 20 x ns vs).2 = false then (0, false) else if op = 16 ∧ (evalE 20 x ns vs).1 = 0 then (0, true) else if op = 17 ∧ (evalE 20 x ns vs).1 ≠ 0 then (1, true)
    else if (evalE 20 y ns vs).2 = false then (0, false) else (twoV op (evalE 20 x ns vs).1 (evalE 20 y ns vs).1, twoB op (evalE 20 y ns vs).1) := by
  obtain ⟨h1, h2, h3⟩ := may_parts h
  have hx := h3 x (by simp [Ex.ks])
  have hy := h3 y (by simp [Ex.ks])
  have hk : kidsOf op = 2 := by simpa [Ex.ks, Ex.op] using h1.symm
  have o1 : op ≠ 1 := by intro e; rw [e] at hk; cases hk
  have o2 : op ≠ 2 := by intro e; rw [e] at hk; cases hk
  refine ⟨may_le hx (by omega), may_le hy (by omega), ?_⟩
  rw [eval_le ns vs hx (show 19 ≤ 20 by omega), eval_le ns vs hy (show 19 ≤ 20 by omega)]
  exact ev_two (l := 19) (x := .mk op m s [x, y]) o1 o2 rfl
end Go.Proofs.Ytnbclbphggmenaa.Tr
