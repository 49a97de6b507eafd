/- Parts of RMayP: walks and plain laws that later texts use. Conditions: as each statement says. -/
import Derived.Test.YtghlmengcidmdaaSa0
import Derived.Test.YtghlmengcidmdaaSa1
import Derived.Test.YtghlmengcidmdaaSa2
import Derived.Test.YtghlmengcidmdaaSa3
import Derived.Test.YtghlmengcidmdaaSa4
import Derived.Test.YtghlmengcidmdaaSa5
import Derived.Test.YtghlmengcidmdaaSa6
import Derived.Test.YtghlmengcidmdaaSa7
import Derived.Test.YtghlmengcidmdaaSa8
import Derived.Test.YtghlmengcidmdaaSa9
import Derived.Test.YtghlmengcidmdaaSa10
import Derived.Test.YtghlmengcidmdaaSa11
import Derived.Test.YtghlmengcidmdaaSa12
import Derived.Test.YtghlmengcidmdaaSa13
import Derived.Test.YtghlmengcidmdaaSa14
import Derived.Test.YtghlmengcidmdaaSa15
import Derived.Test.YtghlmengcidmdaaSa16
import Derived.RegionTactic
import Derived.IntWalk
import Derived.Deep.QuietTactic
import Derived.BigQuiet
import Derived.StillTailTactics
import Derived.Deep.RegionHeld3
import Derived.Deep.DeepCutAuto
import Derived.Deep.Slices
import Derived.Deep.Fields
import Derived.Lib.SmallJoins
import Derived.SliceStrings
import Derived.ChangeSlices
import Derived.Deep.RegionLaw
import Derived.Deep.RegionWith
import Derived.Laws.Cover3
import Derived.WalkKit
import Derived.Test.YtghlmengcidmdaaRows
import Derived.WalkSpells
import Derived.Lib.Hide
import Derived.Below
import Derived.Laws.BitsAllLaws
import Derived.Maps.Range
import Derived.Outline
import Derived.Deep.Upon
import Derived.Maps.AppendAt
import Derived.Laws.OwnMore
import Derived.OwnWalk
import Derived.OneCell
import Derived.Deep.AppendLies
import Derived.Deep.CutBlock
import Derived.Laws.StructEq
import Derived.WalkSmall
/- The reference's May and tree's May are the same. No program. Conditions: none. -/
namespace Go.Proofs.Ytghlmengcidmdaa.Tr
open Go.RowKit Go.Proofs.Ytghlmengcidmdaa.Lx Go.Proofs.Ytghlmengcidmdaa.Wd
def allPs : List Pc → List It → List It
  | [], out => out
  | f :: r, out => if 200 < (out ++ flatOf f).length then out ++ flatOf f else allPs r (out ++ flatOf f)
def allOf (p : Pr) : List It := allPs p.procs []
theorem allPs_cons (f : Pc) (r : List Pc) (out : List It) : allPs (f :: r) out = if 200 < (out ++ flatOf f).length then out ++ flatOf f else allPs r (out ++ flatOf f) := by simp only [allPs]
/-- An item by itself, the n-th. -/
def okAt (n : Int) (i : It) : Bool := (i.s.id == n + 1) && decide (i.deep ≤ 12) && (namesB i.s.labels && fieldsB i.s)
def oksA : Int → List It → Bool
  | _, [] => true
  | n, i :: r => okAt n i && oksA (n + 1) r
theorem oksA_append : ∀ (l m : List It) (n : Int), oksA n (l ++ m) = (oksA n l && oksA (n + l.length) m) := by
  intro l
  induction l with
  | nil => intro m n; simp [oksA]
  | cons a r ih =>
    intro m n
    rw [List.cons_append, oksA, oksA, ih, Bool.and_assoc, List.length_cons]
    have e : n + 1 + (r.length : Int) = n + ((r.length + 1 : Nat) : Int) := by push_cast; omega
    rw [e]
theorem oksA_no {l : List It} {k : Nat} (hk : k < l.length) {n : Int} (h : okAt (n + k) l[k] = false) : oksA n l = false := by
  have e : l = l.take k ++ l[k] :: l.drop (k + 1) := by rw [← List.drop_eq_getElem_cons hk, List.take_append_drop]
  rw [e, oksA_append, oksA]
  have : ((l.take k).length : Int) = k := by rw [List.length_take]; omega
  rw [this, h]
  simp
theorem oksA_yes {l : List It} {k : Nat} (hk : k < l.length) {n : Int} (h0 : oksA n (l.take k) = true) (h : okAt (n + k) l[k] = true) : oksA n (l.take (k + 1)) = true := by
  rw [List.take_succ_eq_append_getElem hk, oksA_append, h0, oksA, oksA]
  have : ((l.take k).length : Int) = k := by rw [List.length_take]; omega
  rw [this, h]
  rfl
/-- A row of items, from the n-th on: not too many, each one well. -/
def tk (n : Int) (l : List It) : Bool := decide (n + l.length ≤ 200) && oksA n l
theorem tk_append (n : Int) (l m : List It) : tk n (l ++ m) = (tk n l && tk (n + l.length) m) := by
  unfold tk
  rw [oksA_append, List.length_append]
  have e : n + ((l.length + m.length : Nat) : Int) = n + l.length + m.length := by push_cast; omega
  rw [e]
  by_cases h : n + (l.length : Int) + m.length ≤ 200
  · rw [decide_eq_true h, decide_eq_true (show n + (l.length : Int) ≤ 200 by omega)]
    simp
  · rw [decide_eq_false h]
    simp
theorem tk_many {n : Int} {l : List It} (h : 200 < n + l.length) : tk n l = false := by
  unfold tk
  rw [decide_eq_false (by omega), Bool.false_and]
theorem tk_one (n : Int) (s : St) (deep inn : Int) (els : Bool) : tk n [⟨s, deep, inn, els⟩] = (decide (n + 1 ≤ 200) && ((s.id == n + 1) && decide (deep ≤ 12) && (namesB s.labels && fieldsB s))) := by
  unfold tk
  rw [oksA, oksA, okAt, Bool.and_true]
  rfl
mutual
theorem tkS (n : Int) (hn : 0 ≤ n) : ∀ (s : St) (deep inn : Int) (els : Bool) (out : List It), out.length ≤ 200 →
    (tk n (flatS s deep (out ++ [⟨s, deep, inn, els⟩])) = (tk n out && decide (deep ≤ 12) && rowS 200 12 deep (n + out.length) s)) ∧ (tk n (flatS s deep (out ++ [⟨s, deep, inn, els⟩])) = true → (flatS s deep (out ++ [⟨s, deep, inn, els⟩])).length = out.length + cntS s)
  | .mk id k ls nm pr x h ar th el, deep, inn, els, out => fun ho => by
    have hone := tk_one (n + out.length) (.mk id k ls nm pr x h ar th el) deep inn els
    have happ := tk_append n out [⟨.mk id k ls nm pr x h ar th el, deep, inn, els⟩]
    rw [hone] at happ
    by_cases hd : deep ≤ 12
    · have e1 : (flatS (.mk id k ls nm pr x h ar th el) deep (out ++ [⟨.mk id k ls nm pr x h ar th el, deep, inn, els⟩])) = flatL el (deep + 1) id true (flatL th (deep + 1) id false (out ++ [⟨.mk id k ls nm pr x h ar th el, deep, inn, els⟩])) := by rw [flatS, if_pos hd]
      obtain ⟨t1, t2⟩ := tkL n hn th (deep + 1) id false (out ++ [⟨.mk id k ls nm pr x h ar th el, deep, inn, els⟩])
      obtain ⟨t3, t4⟩ := tkL n hn el (deep + 1) id true (flatL th (deep + 1) id false (out ++ [⟨.mk id k ls nm pr x h ar th el, deep, inn, els⟩]))
      have hlen : (out ++ [(⟨.mk id k ls nm pr x h ar th el, deep, inn, els⟩ : It)]).length = out.length + 1 := by simp
      rw [hlen] at t1 t2
      have e2 : n + ((out.length + 1 : Nat) : Int) = n + out.length + 1 := by push_cast; omega
      rw [e2, happ] at t1
      rw [e1]
      refine ⟨?_, fun ht => ?_⟩
      · rw [t3, rowS_eq, decide_eq_true hd]
        simp only [St.id, St.labels, St.thn, St.els, Bool.and_true]
        by_cases hT : tk n (flatL th (deep + 1) id false (out ++ [⟨.mk id k ls nm pr x h ar th el, deep, inn, els⟩])) = true
        · have e3 : n + ((flatL th (deep + 1) id false (out ++ [⟨.mk id k ls nm pr x h ar th el, deep, inn, els⟩])).length : Int) = n + out.length + 1 + cntL th := by rw [t2 hT]; push_cast; omega
          rw [e3, t1, decide_eq_true hd]
          simp only [St.id, St.labels, Bool.and_true, Bool.and_assoc]
        · have hT' : tk n (flatL th (deep + 1) id false (out ++ [⟨.mk id k ls nm pr x h ar th el, deep, inn, els⟩])) = false := by simpa using hT
          rw [hT', Bool.false_and]
          rw [hT', decide_eq_true hd] at t1
          simp only [St.id, St.labels, Bool.and_true] at t1
          cases a1 : tk n out with
          | false => rfl
          | true =>
            rw [a1] at t1
            simp only [Bool.true_and, ← Bool.and_assoc] at t1 ⊢
            rw [← t1, Bool.false_and]
      · have hT : tk n (flatL th (deep + 1) id false (out ++ [⟨.mk id k ls nm pr x h ar th el, deep, inn, els⟩])) = true := by
          rw [t3, Bool.and_eq_true] at ht
          exact ht.1
        rw [t4 ht, t2 hT, cntS]
        omega
    · have e1 : (flatS (.mk id k ls nm pr x h ar th el) deep (out ++ [⟨.mk id k ls nm pr x h ar th el, deep, inn, els⟩])) = out ++ [⟨.mk id k ls nm pr x h ar th el, deep, inn, els⟩] := by rw [flatS, if_neg hd]
      have hz : tk n (out ++ [⟨.mk id k ls nm pr x h ar th el, deep, inn, els⟩]) = false := by rw [happ, decide_eq_false hd]; simp
      rw [e1, hz, decide_eq_false hd]
      exact ⟨by simp, fun h => by cases h⟩
theorem tkL (n : Int) (hn : 0 ≤ n) : ∀ (l : List St) (deep inn : Int) (els : Bool) (out : List It),
    (tk n (flatL l deep inn els out) = (tk n out && rowsL 200 12 deep (n + out.length) l)) ∧ (tk n (flatL l deep inn els out) = true → (flatL l deep inn els out).length = out.length + cntL l)
  | [], deep, inn, els, out => by simp [flatL, rowsL, cntL]
  | s :: r, deep, inn, els, out => by
    rw [flatL_cons]
    by_cases ho : out.length ≤ 200
    · rw [if_pos ho]
      obtain ⟨t1, t2⟩ := tkS n hn s deep inn els out ho
      obtain ⟨t3, t4⟩ := tkL n hn r deep inn els (flatS s deep (out ++ [⟨s, deep, inn, els⟩]))
      refine ⟨?_, fun ht => ?_⟩
      · rw [t3, rowsL_cons]
        by_cases hT : tk n (flatS s deep (out ++ [⟨s, deep, inn, els⟩])) = true
        · have e3 : n + ((flatS s deep (out ++ [⟨s, deep, inn, els⟩])).length : Int) = n + out.length + cntS s := by rw [t2 hT]; push_cast; omega
          rw [e3, t1]
          simp only [Bool.and_assoc]
        · have hT' : tk n (flatS s deep (out ++ [⟨s, deep, inn, els⟩])) = false := by simpa using hT
          rw [hT', Bool.false_and]
          rw [hT'] at t1
          have t1' := t1.symm
          rw [← Bool.and_assoc, ← Bool.and_assoc, t1', Bool.false_and]
      · have hT : tk n (flatS s deep (out ++ [⟨s, deep, inn, els⟩])) = true := by
          rw [t3, Bool.and_eq_true] at ht
          exact ht.1
        rw [t4 ht, t2 hT, cntL_cons]
        omega
    · rw [if_neg ho, tk_many (by omega)]
      exact ⟨by simp, fun h => by cases h⟩
end
theorem tk_flat (n : Int) (hn : 0 ≤ n) (f : Pc) : (tk n (flatOf f) = (decide (n ≤ 200) && rowsL 200 12 1 n f.body)) ∧ (tk n (flatOf f) = true → (flatOf f).length = cntL f.body) := by
  obtain ⟨t1, t2⟩ := tkL n hn f.body 1 0 false []
  unfold flatOf
  have e : tk n [] = decide (n ≤ 200) := by unfold tk; rw [oksA]; simp
  have e2 : n + (([] : List It).length : Int) = n := by simp
  rw [t1, e, e2]
  exact ⟨rfl, fun h => by rw [t2 (by rw [t1, e, e2]; exact h)]; simp⟩
/-- The rows of procedures, behind so many statements. -/
def rowsPs (n : Int) : List Pc → Bool
  | [] => true
  | f :: r => rowsL 200 12 1 n f.body && rowsPs (n + cntL f.body) r
theorem tk_all : ∀ (l : List Pc) (out : List It), tk 0 (allPs l out) = (tk 0 out && rowsPs out.length l) := by
  intro l
  induction l with
  | nil => intro out; simp [allPs, rowsPs]
  | cons f r ih =>
    intro out
    rw [allPs_cons, rowsPs]
    have h1 := tk_append 0 out (flatOf f)
    rw [Int.zero_add] at h1
    obtain ⟨t1, t2⟩ := tk_flat out.length (by omega) f
    by_cases hb : 200 < (out ++ flatOf f).length
    · rw [if_pos hb]
      have hz : tk 0 (out ++ flatOf f) = false := tk_many (by omega)
      rw [hz]
      rw [hz, t1] at h1
      cases a1 : tk 0 out with
      | false => rfl
      | true =>
        have : out.length ≤ 200 := by unfold tk at a1; simp at a1; omega
        rw [a1, decide_eq_true (show (out.length : Int) ≤ 200 by omega)] at h1
        cases a2 : rowsL 200 12 1 out.length f.body with
        | false => rfl
        | true => rw [a2] at h1; cases h1
    · rw [if_neg hb, ih, h1, t1]
      cases a1 : tk 0 out with
      | false => rfl
      | true =>
        have : out.length ≤ 200 := by unfold tk at a1; simp at a1; omega
        rw [decide_eq_true (show (out.length : Int) ≤ 200 by omega)]
        cases a2 : rowsL 200 12 1 out.length f.body with
        | false => rfl
        | true =>
          have h3 := t2 (by rw [t1, a2, decide_eq_true (show (out.length : Int) ≤ 200 by omega)]; rfl)
          have e : ((out ++ flatOf f).length : Int) = out.length + cntL f.body := by rw [List.length_append, h3]; push_cast; rfl
          rw [e]
          simp only [Bool.true_and]
def headQ (f : Pc) : Bool := headPc f && f.params.all fun a => isName (bl a.nm)
def rmayP (p : Pr) : Bool := decide (p.globals.length ≤ 16) && decide (p.procs.length ≤ 16) && namesB p.globals && p.procs.all headQ && tk 0 (allOf p)
theorem mayPs_split : ∀ (l : List Pc) (n : Int), mayPs n l = (l.all headQ && rowsPs n l) := by
  intro l
  induction l with
  | nil => intro n; rfl
  | cons f r ih =>
    intro n
    rw [mayPs, mayPc, ih, List.all_cons, rowsPs, headQ]
    cases headPc f <;> cases f.params.all (fun a => isName (bl a.nm)) <;> cases rowsL 200 12 1 n f.body <;> cases r.all headQ <;> cases rowsPs (n + cntL f.body) r <;> rfl
theorem rmay_same (p : Pr) : rmayP p = mayP p := by
  unfold rmayP mayP allOf
  rw [mayPs_split, tk_all]
  have e : tk 0 [] = true := by unfold tk; rw [oksA]; rfl
  rw [e]
  simp only [Bool.true_and, Bool.and_assoc, List.length_nil]
  rfl
end Go.Proofs.Ytghlmengcidmdaa.Tr
