/- The law WordTurn, walked: it returns true. Conditions: the numbers fit 64 bits. -/
import Derived.Test.YthmcfdlnhnpnhaaWordMod
import Derived.OpenShut
namespace Go.Proofs.Ythmcfdlnhnpnhaa.Wd
open Go.RowKit
theorem turn1 (a b : Int) (ha : InI a) : twoV 9 (twoV 8 a b) b = a := by rw [t8, t9, sub_l, Int.add_sub_cancel, wrap_in ha]
theorem turn2 (a : Int) : twoV 8 a (oneV 3 a) = 0 := by rw [o3, t8, add_r, Int.add_right_neg, wrap_in InI_zero]
theorem turn3 (a b : Int) : twoV 9 a b = twoV 8 a (oneV 3 b) := by rw [t8, t9, o3, add_r, Int.sub_eq_add_neg]
theorem turn4 (a : Int) (ha : InI a) : oneV 3 (oneV 3 a) = a := by rw [o3, o3, neg_w, Int.neg_neg, wrap_in ha]

set_option maxHeartbeats 1000000 in
theorem turn_walk (a : Int) (wa : (Lit.int .i64 a).wf = true) (b : Int) (wb : (Lit.int .i64 b).wf = true) (w : World) :
    Calls Try.prog 7 #[.int .i64 a, .int .i64 b] w fun e w' => e = .returned (.bool true) ∧ Below w.heap.size w w' := by
  have ha : InI a := bounds_i64 wa
  have hb : InI b := bounds_i64 wb
  have e0 : (twoV 9 (twoV 8 a b) b == a) = true := by rw [beq_iff_eq]; exact turn1 a b ha
  have e1 : (twoV 8 a (oneV 3 a) == 0) = true := by rw [beq_iff_eq]; exact turn2 a
  have e2 : (twoV 9 a b == twoV 8 a (oneV 3 b)) = true := by rw [beq_iff_eq]; exact turn3 a b
  have e3 : (oneV 3 (oneV 3 a) == a) = true := by rw [beq_iff_eq]; exact turn4 a ha
  go_enter Try.func7, Try.ntmps7
  go_wp2_with (first | (go_at_call 10; refine (worthy_any _).mono ?_; rintro e w' ⟨rfl, rfl⟩) | (go_at_call 12; refine (two_law _ _ _ _ (by first | assumption | decide | exact InI_two _ _ _ (by assumption) | exact InI_one _ _) (by first | assumption | decide | exact InI_two _ _ _ (by assumption) | exact InI_one _ _)).mono ?_; rintro e w' ⟨rfl, rfl⟩) | (go_at_call 18; refine (one_law _ _ _).mono ?_; rintro e w' ⟨rfl, rfl⟩) | (go_at_call 17; refine (truth_any _ _).mono ?_; rintro e w' ⟨rfl, rfl⟩) | (go_at_call 11; refine (two_any _ _ _ _ (by assumption) (by assumption)).mono ?_; rintro e w' ⟨rfl, rfl⟩) | (go_at_call 13; refine (size_any _ _ (by first | assumption | exact InI_two _ _ _ (by assumption))).mono ?_; rintro e w' ⟨rfl, rfl⟩))
  go_ret
  exact ⟨rfl, Below.refl _ _⟩
end Go.Proofs.Ythmcfdlnhnpnhaa.Wd
