/- Parts of BEval: walks and plain laws that later texts use. Conditions: as each statement says. -/
import Derived.Test.YtghlmengcidmdaaSa0
import Derived.Test.YtghlmengcidmdaaSa1
import Derived.Test.YtghlmengcidmdaaSa2
import Derived.Test.YtghlmengcidmdaaSa3
import Derived.Test.YtghlmengcidmdaaSa4
import Derived.RegionTactic
import Derived.Deep.QuietTactic
import Derived.BigQuiet
import Derived.IntWalk
import Derived.StillTailTactics
import Derived.Deep.Slices
import Derived.Deep.Fields
import Derived.Lib.SmallJoins
import Derived.SliceStrings
import Derived.ChangeSlices
import Derived.WalkKit
import Derived.Test.YtghlmengcidmdaaRows
import Derived.WalkSpells
import Derived.Lib.Hide
import Derived.Below
import Derived.WalkSmall
import Derived.Laws.BitsAllLaws
/- What eval.of, eval.Of and the reference's worth, Eval compute: what an expression is worth. Conditions: the expression, the names, the values lie in memory; of, worth: the expression may be.
   Plain laws of what expressions are worth: it hangs not on how deep one may look. No program. Conditions: none.
   What reckoned answers: expressions are worth something. Conditions: none.
   The law EvalAll, walked: it returns true. Conditions: the arguments lie in memory. -/
section
namespace Go.Proofs.Ytghlmengcidmdaa.Tr
open Go.RowKit Go.Proofs.Ytghlmengcidmdaa.Lx Go.Proofs.Ytghlmengcidmdaa.Wd
end Go.Proofs.Ytghlmengcidmdaa.Tr
end
section
namespace Go.Proofs.Ytghlmengcidmdaa.Tr
open Go.RowKit Go.Proofs.Ytghlmengcidmdaa.Lx Go.Proofs.Ytghlmengcidmdaa.Wd
theorem may_parts {l : Nat} {x : Ex} (h : mayE (l + 1) x = true) : (x.ks.length : Int) = kidsOf x.op ∧ headE x = true ∧ ∀ k ∈ x.ks, mayE l k = true := by
  rw [mayE_succ, Bool.and_eq_true, Bool.and_eq_true, List.all_eq_true] at h
  exact ⟨by simpa using h.1.1, h.1.2, h.2⟩
end Go.Proofs.Ytghlmengcidmdaa.Tr
end
section
namespace Go.Proofs.Ytghlmengcidmdaa.Tr
open Go.RowKit Go.Proofs.Ytghlmengcidmdaa.Lx Go.Proofs.Ytghlmengcidmdaa.Wd
end Go.Proofs.Ytghlmengcidmdaa.Tr
end
section
namespace Go.Proofs.Ytghlmengcidmdaa.Tr
open Go.RowKit Go.Proofs.Ytghlmengcidmdaa.Lx Go.Proofs.Ytghlmengcidmdaa.Wd
theorem StrsAt.take {w : World} {a : Option Addr} {n cap : Nat} {l : List ByteArray} (h : StrsAt w (.slice a n cap) l) (k : Nat) (hk : k ≤ l.length) : StrsAt w (.slice a k cap) (l.take k) := by
  obtain ⟨a', c, hv, h2, h3, h4⟩ := h
  simp only [Value.slice.injEq] at hv
  obtain ⟨rfl, rfl, rfl⟩ := hv
  refine ⟨_, cap, by rw [List.length_take, Nat.min_eq_left hk], by rw [List.length_take]; omega, h3, fun hne => ?_⟩
  have hne2 : l ≠ [] := by intro h; rw [h] at hne; simp at hne
  obtain ⟨g', off', h5, h6⟩ := h4 hne2
  refine ⟨g', off', h5, fun i hi => ?_⟩
  rw [List.length_take] at hi
  rw [List.getElem_take]
  exact h6 i (by omega)
/-- A slice cut to its first elements. -/
theorem run_cut (T e : TypeId) (hT : Try.prog.underlying T = some (.slice e)) (sz : Nat) (hs : ∀ w, (sizeOf e).run Try.prog w = .ok sz w) (a : Option Addr) (n cap k : Nat) (z : Int) (hz : z = k) (hk : k ≤ cap) (_hc : cap ≤ 9223372036854775807) (w : World) :
    (Instr.slice T (.slice a n cap) none (some (.int .i64 z)) none).run Try.prog w = .ok (.slice a k cap) w := by
  subst hz
  cases a with
  | none => simp [go_sem, hT, hs, hk]
  | some a => simp [go_sem, hT, hs, hk]
end Go.Proofs.Ytghlmengcidmdaa.Tr
end
