/- The law WordRing, walked: it returns true. Conditions: the numbers fit 64 bits. -/
import Derived.Test.YthmcfdlnhnpnhaaWordMod
import Derived.OpenShut
namespace Go.Proofs.Ythmcfdlnhnpnhaa.Wd
open Go.RowKit
theorem ring1 (a b c : Int) : twoV 8 (twoV 8 a b) c = twoV 8 a (twoV 8 b c) := by simp only [t8]; rw [add_l, add_r, Int.add_assoc]
theorem ring2 (a b : Int) : twoV 8 a b = twoV 8 b a := by simp only [t8]; rw [Int.add_comm]
theorem ring3 (a b c : Int) : twoV 5 (twoV 5 a b) c = twoV 5 a (twoV 5 b c) := by simp only [t5]; rw [mul_l, mul_r, Int.mul_assoc]
theorem ring4 (a b : Int) : twoV 5 a b = twoV 5 b a := by simp only [t5]; rw [Int.mul_comm]
theorem ring5 (a b c : Int) : twoV 5 a (twoV 8 b c) = twoV 8 (twoV 5 a b) (twoV 5 a c) := by simp only [t5, t8]; rw [mul_r, add_l, add_r, Int.mul_add]
theorem ring6 (a : Int) (ha : InI a) : twoV 5 a 1 = a := by rw [t5, Int.mul_one, wrap_in ha]
theorem ring7 (a : Int) : twoV 5 a (-1) = oneV 3 a := by rw [t5, o3]; congr 1; omega

set_option maxHeartbeats 1000000 in
theorem ring_walk (a : Int) (wa : (Lit.int .i64 a).wf = true) (b : Int) (wb : (Lit.int .i64 b).wf = true) (c : Int) (wc : (Lit.int .i64 c).wf = true) (w : World) :
    Calls Try.prog 8 #[.int .i64 a, .int .i64 b, .int .i64 c] w fun e w' => e = .returned (.bool true) ∧ Below w.heap.size w w' := by
  have ha : InI a := bounds_i64 wa
  have hb : InI b := bounds_i64 wb
  have hc : InI c := bounds_i64 wc
  have e0 : (twoV 8 (twoV 8 a b) c == twoV 8 a (twoV 8 b c)) = true := by rw [beq_iff_eq]; exact ring1 a b c
  have e1 : (twoV 8 a b == twoV 8 b a) = true := by rw [beq_iff_eq]; exact ring2 a b
  have e2 : (twoV 5 (twoV 5 a b) c == twoV 5 a (twoV 5 b c)) = true := by rw [beq_iff_eq]; exact ring3 a b c
  have e3 : (twoV 5 a b == twoV 5 b a) = true := by rw [beq_iff_eq]; exact ring4 a b
  have e4 : (twoV 5 a (twoV 8 b c) == twoV 8 (twoV 5 a b) (twoV 5 a c)) = true := by rw [beq_iff_eq]; exact ring5 a b c
  have e5 : (twoV 5 a 1 == a) = true := by rw [beq_iff_eq]; exact ring6 a ha
  have e6 : (twoV 5 a (-1) == oneV 3 a) = true := by rw [beq_iff_eq]; exact ring7 a
  go_enter Try.func8, Try.ntmps8
  go_wp2_with (first | (go_at_call 10; refine (worthy_any _).mono ?_; rintro e w' ⟨rfl, rfl⟩) | (go_at_call 12; refine (two_law _ _ _ _ (by first | assumption | decide | exact InI_two _ _ _ (by assumption) | exact InI_one _ _) (by first | assumption | decide | exact InI_two _ _ _ (by assumption) | exact InI_one _ _)).mono ?_; rintro e w' ⟨rfl, rfl⟩) | (go_at_call 18; refine (one_law _ _ _).mono ?_; rintro e w' ⟨rfl, rfl⟩) | (go_at_call 17; refine (truth_any _ _).mono ?_; rintro e w' ⟨rfl, rfl⟩) | (go_at_call 11; refine (two_any _ _ _ _ (by assumption) (by assumption)).mono ?_; rintro e w' ⟨rfl, rfl⟩) | (go_at_call 13; refine (size_any _ _ (by first | assumption | exact InI_two _ _ _ (by assumption))).mono ?_; rintro e w' ⟨rfl, rfl⟩))
  go_ret
  exact ⟨rfl, Below.refl _ _⟩
end Go.Proofs.Ythmcfdlnhnpnhaa.Wd
