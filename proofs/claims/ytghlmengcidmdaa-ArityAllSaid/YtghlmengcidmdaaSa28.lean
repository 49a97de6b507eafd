/- Parts of SymL, TurnP, NumSame: walks and plain laws that later texts use. Conditions: as each statement says. -/
import Derived.Test.YtghlmengcidmdaaSa0
import Derived.Test.YtghlmengcidmdaaSa1
import Derived.Test.YtghlmengcidmdaaSa2
import Derived.Test.YtghlmengcidmdaaSa3
import Derived.Test.YtghlmengcidmdaaSa4
import Derived.Test.YtghlmengcidmdaaSa5
import Derived.Test.YtghlmengcidmdaaSa6
import Derived.Test.YtghlmengcidmdaaSa7
import Derived.Test.YtghlmengcidmdaaSa8
import Derived.Test.YtghlmengcidmdaaSa9
import Derived.Test.YtghlmengcidmdaaSa10
import Derived.Test.YtghlmengcidmdaaSa11
import Derived.Test.YtghlmengcidmdaaSa12
import Derived.Test.YtghlmengcidmdaaSa13
import Derived.Test.YtghlmengcidmdaaSa14
import Derived.Test.YtghlmengcidmdaaSa15
import Derived.Test.YtghlmengcidmdaaSa16
import Derived.Test.YtghlmengcidmdaaSa20
import Derived.Test.YtghlmengcidmdaaSa21
import Derived.RegionTactic
import Derived.IntWalk
import Derived.Deep.QuietTactic
import Derived.BigQuiet
import Derived.StillTailTactics
import Derived.Deep.RegionHeld3
import Derived.Deep.DeepCutAuto
import Derived.Deep.Slices
import Derived.Deep.Fields
import Derived.Lib.SmallJoins
import Derived.SliceStrings
import Derived.ChangeSlices
import Derived.Deep.RegionLaw
import Derived.Deep.RegionWith
import Derived.Laws.Cover3
import Derived.WalkKit
import Derived.Test.YtghlmengcidmdaaRows
import Derived.WalkSpells
import Derived.Lib.Hide
import Derived.Below
import Derived.Laws.BitsAllLaws
import Derived.Maps.Range
import Derived.Outline
import Derived.Deep.Upon
import Derived.Maps.AppendAt
import Derived.Laws.OwnMore
import Derived.OwnWalk
import Derived.OneCell
import Derived.Deep.AppendLies
import Derived.Deep.CutBlock
import Derived.Laws.StructEq
import Derived.WalkSmall
import Derived.OrdersHeld
section
/- Equality of trees is so from both sides, and each tree is the same as itself. No program. Conditions: none. -/
namespace Go.Proofs.Ytghlmengcidmdaa.Tr
open Go.RowKit Go.Proofs.Ytghlmengcidmdaa.Lx Go.Proofs.Ytghlmengcidmdaa.Wd
theorem eqPc_refl (f : Pc) : eqPc f f = true := by
  unfold eqPc
  rw [eqT_same, eqT_same, eqL_refl fun a _ => eqS_refl a, eqL_refl (f := eqPa) fun a _ => by unfold eqPa; simp]
  simp
theorem eqPr_refl (p : Pr) : eqPr p p = true := by unfold eqPr; rw [eqT_same, eqL_refl fun a _ => eqPc_refl a]; rfl
end Go.Proofs.Ytghlmengcidmdaa.Tr
end
section
/- What turns when one statement of a program is put for another one. No program. Conditions: the program may be. -/
namespace Go.Proofs.Ytghlmengcidmdaa.Tr
open Go.RowKit Go.Proofs.Ytghlmengcidmdaa.Lx Go.Proofs.Ytghlmengcidmdaa.Wd
theorem mayPc_rows {n : Int} {f : Pc} (h : mayPc n f = true) : rowsL 200 12 1 n f.body = true := by unfold mayPc at h; rw [Bool.and_eq_true] at h; exact h.2
theorem mayP_procs {p : Pr} (h : mayP p = true) : mayPs 0 p.procs = true := by unfold mayP at h; simp only [Bool.and_eq_true] at h; exact h.2
end Go.Proofs.Ytghlmengcidmdaa.Tr
end
section
/- A program that may be has its ids already. No program. Conditions: it may be. -/
namespace Go.Proofs.Ytghlmengcidmdaa.Tr
open Go.RowKit Go.Proofs.Ytghlmengcidmdaa.Lx Go.Proofs.Ytghlmengcidmdaa.Wd
mutual
theorem num_sameS : ∀ (s : St) (nest n : Int), rowS 200 12 nest n s = true → 0 ≤ n → cpS true n s = s
  | .mk i k ls nm pr x h ar th el, nest, n => fun hr h0 => by
    rw [rowS_eq] at hr
    simp only [Bool.and_eq_true, decide_eq_true_eq, beq_iff_eq, St.id, St.labels, St.thn, St.els] at hr
    have hn := hr.1.1.1.1.2
    have hm := hr.1.1.1.1.1
    have e : wrap64 (n + 1) = i := by unfold wrap64; omega
    rw [cpS, num_sameL th _ _ hr.1.2 (by omega), num_sameL el _ _ hr.2 (by omega), if_pos rfl, e]
theorem num_sameL : ∀ (l : List St) (nest n : Int), rowsL 200 12 nest n l = true → 0 ≤ n → cpL true n l = l
  | [], nest, n => fun _ _ => by rw [cpL]
  | s :: r, nest, n => fun hr h0 => by
    rw [rowsL_cons] at hr
    simp only [Bool.and_eq_true, decide_eq_true_eq] at hr
    rw [cpL, num_sameS s _ _ hr.1.2 h0, num_sameL r _ _ hr.2 (by omega)]
end
theorem num_samePs : ∀ (l : List Pc) (n : Int), mayPs n l = true → 0 ≤ n → numPs n l = l := by
  intro l
  induction l with
  | nil => intro n _ _; rfl
  | cons f r ih =>
    intro n h h0
    rw [mayPs, Bool.and_eq_true] at h
    rw [numPs]
    have e2 : numPc n f = f := by
      unfold numPc
      rw [num_sameL f.body _ _ (mayPc_rows h.1) h0]
    rw [e2, ih _ h.2 (by omega)]
theorem num_same {p : Pr} (h : mayP p = true) : numPr p = p := by
  unfold numPr
  rw [num_samePs p.procs 0 (mayP_procs h) (by omega)]
end Go.Proofs.Ytghlmengcidmdaa.Tr
end
