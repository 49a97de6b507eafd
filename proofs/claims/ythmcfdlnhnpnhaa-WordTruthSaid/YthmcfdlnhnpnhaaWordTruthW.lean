/- The law WordTruth, walked: it returns true. Conditions: the numbers fit 64 bits. -/
import Derived.Test.YthmcfdlnhnpnhaaWordMod
import Derived.OpenShut
namespace Go.Proofs.Ythmcfdlnhnpnhaa.Wd
open Go.RowKit
theorem t16 (a b : Int) : twoV 16 a b = bitI (a != 0 && b != 0) := rfl
theorem t17 (a b : Int) : twoV 17 a b = bitI (a != 0 || b != 0) := rfl
theorem o4 (a : Int) : oneV 4 a = bitI (a == 0) := rfl
theorem c1 : oneV 4 0 = 1 := rfl
theorem c2 : oneV 4 1 = 0 := rfl
theorem c3 : twoV 16 0 0 = 0 := rfl
theorem c4 : twoV 16 0 1 = 0 := rfl
theorem c5 : twoV 16 1 0 = 0 := rfl
theorem c6 : twoV 16 1 1 = 1 := rfl
theorem c7 : twoV 17 0 0 = 0 := rfl
theorem c8 : twoV 17 0 1 = 1 := rfl
theorem c9 : twoV 17 1 0 = 1 := rfl
theorem c10 : twoV 17 1 1 = 1 := rfl
theorem d0 : InI 0 := by unfold InI; omega
theorem d1 : InI 1 := by unfold InI; omega

set_option maxHeartbeats 1000000 in
theorem truth_walk (a : Int) (wa : (Lit.int .i64 a).wf = true) (b : Int) (wb : (Lit.int .i64 b).wf = true) (w : World) :
    Calls Try.prog 9 #[.int .i64 a, .int .i64 b] w fun e w' => e = .returned (.bool true) ∧ Below w.heap.size w w' := by
  have ha : InI a := bounds_i64 wa
  have hb : InI b := bounds_i64 wb
  have i0 := d0
  have i1 := d1
  have q1 := c1
  have q2 := c2
  have q3 := c3
  have q4 := c4
  have q5 := c5
  have q6 := c6
  have q7 := c7
  have q8 := c8
  have q9 := c9
  have q10 := c10
  by_cases xa : a = 0
  · subst xa
    by_cases xb : b = 0
    · subst xb
      go_enter Try.func9, Try.ntmps9
      go_wp2_with (first | (go_at_call 10; refine (worthy_any _).mono ?_; rintro e w' ⟨rfl, rfl⟩) | (go_at_call 12; refine (two_law _ _ _ _ (by first | assumption | decide | exact InI_two _ _ _ (by assumption) | exact InI_one _ _) (by first | assumption | decide | exact InI_two _ _ _ (by assumption) | exact InI_one _ _)).mono ?_; rintro e w' ⟨rfl, rfl⟩) | (go_at_call 18; refine (one_law _ _ _).mono ?_; rintro e w' ⟨rfl, rfl⟩) | (go_at_call 17; refine (truth_any _ _).mono ?_; rintro e w' ⟨rfl, rfl⟩) | (go_at_call 11; refine (two_any _ _ _ _ (by assumption) (by assumption)).mono ?_; rintro e w' ⟨rfl, rfl⟩) | (go_at_call 13; refine (size_any _ _ (by first | assumption | exact InI_two _ _ _ (by assumption))).mono ?_; rintro e w' ⟨rfl, rfl⟩))
      go_ret
      exact ⟨rfl, Below.refl _ _⟩
    · have yb : (b != 0) = true := by simp [xb]
      have nb : oneV 4 b = 0 := by rw [o4]; simp [bitI, xb]
      have tb : twoV 16 0 b = 0 := rfl
      have ub : twoV 17 0 b = 1 := by rw [t17, yb]; rfl
      clear xb
      go_enter Try.func9, Try.ntmps9
      go_wp2_with (first | (go_at_call 10; refine (worthy_any _).mono ?_; rintro e w' ⟨rfl, rfl⟩) | (go_at_call 12; refine (two_law _ _ _ _ (by first | assumption | decide | exact InI_two _ _ _ (by assumption) | exact InI_one _ _) (by first | assumption | decide | exact InI_two _ _ _ (by assumption) | exact InI_one _ _)).mono ?_; rintro e w' ⟨rfl, rfl⟩) | (go_at_call 18; refine (one_law _ _ _).mono ?_; rintro e w' ⟨rfl, rfl⟩) | (go_at_call 17; refine (truth_any _ _).mono ?_; rintro e w' ⟨rfl, rfl⟩) | (go_at_call 11; refine (two_any _ _ _ _ (by assumption) (by assumption)).mono ?_; rintro e w' ⟨rfl, rfl⟩) | (go_at_call 13; refine (size_any _ _ (by first | assumption | exact InI_two _ _ _ (by assumption))).mono ?_; rintro e w' ⟨rfl, rfl⟩))
      go_ret
      exact ⟨rfl, Below.refl _ _⟩
  · have ya : (a != 0) = true := by simp [xa]
    have na : oneV 4 a = 0 := by rw [o4]; simp [bitI, xa]
    have ta : twoV 16 a b = bitI (b != 0) := by rw [t16, ya]; rfl
    have ua : twoV 17 a b = 1 := by rw [t17, ya]; rfl
    clear xa
    by_cases xb : b = 0
    · subst xb
      have ta' : twoV 16 a 0 = 0 := by rw [ta]; rfl
      clear ta
      go_enter Try.func9, Try.ntmps9
      go_wp2_with (first | (go_at_call 10; refine (worthy_any _).mono ?_; rintro e w' ⟨rfl, rfl⟩) | (go_at_call 12; refine (two_law _ _ _ _ (by first | assumption | decide | exact InI_two _ _ _ (by assumption) | exact InI_one _ _) (by first | assumption | decide | exact InI_two _ _ _ (by assumption) | exact InI_one _ _)).mono ?_; rintro e w' ⟨rfl, rfl⟩) | (go_at_call 18; refine (one_law _ _ _).mono ?_; rintro e w' ⟨rfl, rfl⟩) | (go_at_call 17; refine (truth_any _ _).mono ?_; rintro e w' ⟨rfl, rfl⟩) | (go_at_call 11; refine (two_any _ _ _ _ (by assumption) (by assumption)).mono ?_; rintro e w' ⟨rfl, rfl⟩) | (go_at_call 13; refine (size_any _ _ (by first | assumption | exact InI_two _ _ _ (by assumption))).mono ?_; rintro e w' ⟨rfl, rfl⟩))
      go_ret
      exact ⟨rfl, Below.refl _ _⟩
    · have yb : (b != 0) = true := by simp [xb]
      have nb : oneV 4 b = 0 := by rw [o4]; simp [bitI, xb]
      have ta' : twoV 16 a b = 1 := by rw [ta, yb]; rfl
      clear ta xb
      go_enter Try.func9, Try.ntmps9
      go_wp2_with (first | (go_at_call 10; refine (worthy_any _).mono ?_; rintro e w' ⟨rfl, rfl⟩) | (go_at_call 12; refine (two_law _ _ _ _ (by first | assumption | decide | exact InI_two _ _ _ (by assumption) | exact InI_one _ _) (by first | assumption | decide | exact InI_two _ _ _ (by assumption) | exact InI_one _ _)).mono ?_; rintro e w' ⟨rfl, rfl⟩) | (go_at_call 18; refine (one_law _ _ _).mono ?_; rintro e w' ⟨rfl, rfl⟩) | (go_at_call 17; refine (truth_any _ _).mono ?_; rintro e w' ⟨rfl, rfl⟩) | (go_at_call 11; refine (two_any _ _ _ _ (by assumption) (by assumption)).mono ?_; rintro e w' ⟨rfl, rfl⟩) | (go_at_call 13; refine (size_any _ _ (by first | assumption | exact InI_two _ _ _ (by assumption))).mono ?_; rintro e w' ⟨rfl, rfl⟩))
      go_ret
      exact ⟨rfl, Below.refl _ _⟩
end Go.Proofs.Ythmcfdlnhnpnhaa.Wd
