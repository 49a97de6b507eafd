/- The law WordOrder, walked: it returns true. Conditions: the numbers fit 64 bits. -/
import Derived.Test.YthmcfdlnhnpnhaaWordMod
import Derived.OpenShut
namespace Go.Proofs.Ythmcfdlnhnpnhaa.Wd
open Go.RowKit
theorem bit_of {p : Prop} [Decidable p] (h : p) : bitI (decide p) = 1 := by simp [bitI, h]
theorem bit_not {p : Prop} [Decidable p] (h : ¬ p) : bitI (decide p) = 0 := by simp [bitI, h]
theorem t10 (a b : Int) : twoV 10 a b = bitI (decide (a < b)) := rfl
theorem t11 (a b : Int) : twoV 11 a b = bitI (decide (a ≤ b)) := rfl
theorem t12 (a b : Int) : twoV 12 a b = bitI (decide (b < a)) := rfl
theorem t13 (a b : Int) : twoV 13 a b = bitI (decide (b ≤ a)) := rfl
theorem t14 (a b : Int) : twoV 14 a b = bitI (a == b) := rfl
theorem t15 (a b : Int) : twoV 15 a b = bitI (a != b) := rfl

set_option maxHeartbeats 1000000 in
theorem order_walk (a : Int) (wa : (Lit.int .i64 a).wf = true) (b : Int) (wb : (Lit.int .i64 b).wf = true) (c : Int) (wc : (Lit.int .i64 c).wf = true) (w : World) :
    Calls Try.prog 5 #[.int .i64 a, .int .i64 b, .int .i64 c] w fun e w' => e = .returned (.bool true) ∧ Below w.heap.size w w' := by
  have ha : InI a := bounds_i64 wa
  have hb : InI b := bounds_i64 wb
  have hc : InI c := bounds_i64 wc
  rcases Int.lt_trichotomy a b with hlt | heq | hgt
  · have hab : (a == b) = false := by simp; omega
    have g10 : twoV 10 a b = 1 := by rw [t10]; exact bit_of (by omega)
    have g14 : twoV 14 a b = 0 := by rw [t14]; simp [bitI]; omega
    have g12 : twoV 12 a b = 0 := by rw [t12]; exact bit_not (by omega)
    have g11 : twoV 11 a b = 1 := by rw [t11]; exact bit_of (by omega)
    have g13 : twoV 13 a b = 0 := by rw [t13]; exact bit_not (by omega)
    have g15 : twoV 15 a b = 1 := by rw [t15]; simp [bitI]; omega
    have gba : twoV 12 b a = 1 := by rw [t12]; exact bit_of (by omega)
    by_cases hbc : b < c
    · have k1 : twoV 10 b c = 1 := by rw [t10]; exact bit_of hbc
      have k2 : twoV 10 a c = 1 := by rw [t10]; exact bit_of (by omega)
      go_enter Try.func5, Try.ntmps5
      go_wp2_with (first | (go_at_call 10; refine (worthy_any _).mono ?_; rintro e w' ⟨rfl, rfl⟩) | (go_at_call 12; refine (two_law _ _ _ _ (by first | assumption | decide | exact InI_two _ _ _ (by assumption) | exact InI_one _ _) (by first | assumption | decide | exact InI_two _ _ _ (by assumption) | exact InI_one _ _)).mono ?_; rintro e w' ⟨rfl, rfl⟩) | (go_at_call 18; refine (one_law _ _ _).mono ?_; rintro e w' ⟨rfl, rfl⟩) | (go_at_call 17; refine (truth_any _ _).mono ?_; rintro e w' ⟨rfl, rfl⟩) | (go_at_call 11; refine (two_any _ _ _ _ (by assumption) (by assumption)).mono ?_; rintro e w' ⟨rfl, rfl⟩) | (go_at_call 13; refine (size_any _ _ (by first | assumption | exact InI_two _ _ _ (by assumption))).mono ?_; rintro e w' ⟨rfl, rfl⟩))
      go_ret
      exact ⟨rfl, Below.refl _ _⟩
    · have k1 : twoV 10 b c = 0 := by rw [t10]; exact bit_not hbc
      go_enter Try.func5, Try.ntmps5
      go_wp2_with (first | (go_at_call 10; refine (worthy_any _).mono ?_; rintro e w' ⟨rfl, rfl⟩) | (go_at_call 12; refine (two_law _ _ _ _ (by first | assumption | decide | exact InI_two _ _ _ (by assumption) | exact InI_one _ _) (by first | assumption | decide | exact InI_two _ _ _ (by assumption) | exact InI_one _ _)).mono ?_; rintro e w' ⟨rfl, rfl⟩) | (go_at_call 18; refine (one_law _ _ _).mono ?_; rintro e w' ⟨rfl, rfl⟩) | (go_at_call 17; refine (truth_any _ _).mono ?_; rintro e w' ⟨rfl, rfl⟩) | (go_at_call 11; refine (two_any _ _ _ _ (by assumption) (by assumption)).mono ?_; rintro e w' ⟨rfl, rfl⟩) | (go_at_call 13; refine (size_any _ _ (by first | assumption | exact InI_two _ _ _ (by assumption))).mono ?_; rintro e w' ⟨rfl, rfl⟩))
      go_ret
      exact ⟨rfl, Below.refl _ _⟩
  · have hab : (a == b) = true := by simp; omega
    have g10 : twoV 10 a b = 0 := by rw [t10]; exact bit_not (by omega)
    have g14 : twoV 14 a b = 1 := by rw [t14]; simp [bitI]; omega
    have g12 : twoV 12 a b = 0 := by rw [t12]; exact bit_not (by omega)
    have g11 : twoV 11 a b = 1 := by rw [t11]; exact bit_of (by omega)
    have g13 : twoV 13 a b = 1 := by rw [t13]; exact bit_of (by omega)
    have g15 : twoV 15 a b = 0 := by rw [t15]; simp [bitI]; omega
    have gba : twoV 12 b a = 0 := by rw [t12]; exact bit_not (by omega)
    have Heq := Lib.hid heq; clear heq
    go_enter Try.func5, Try.ntmps5
    go_wp2_with (first | (go_at_call 10; refine (worthy_any _).mono ?_; rintro e w' ⟨rfl, rfl⟩) | (go_at_call 12; refine (two_law _ _ _ _ (by first | assumption | decide | exact InI_two _ _ _ (by assumption) | exact InI_one _ _) (by first | assumption | decide | exact InI_two _ _ _ (by assumption) | exact InI_one _ _)).mono ?_; rintro e w' ⟨rfl, rfl⟩) | (go_at_call 18; refine (one_law _ _ _).mono ?_; rintro e w' ⟨rfl, rfl⟩) | (go_at_call 17; refine (truth_any _ _).mono ?_; rintro e w' ⟨rfl, rfl⟩) | (go_at_call 11; refine (two_any _ _ _ _ (by assumption) (by assumption)).mono ?_; rintro e w' ⟨rfl, rfl⟩) | (go_at_call 13; refine (size_any _ _ (by first | assumption | exact InI_two _ _ _ (by assumption))).mono ?_; rintro e w' ⟨rfl, rfl⟩))
    go_ret
    exact ⟨rfl, Below.refl _ _⟩
  · have hab : (a == b) = false := by simp; omega
    have g10 : twoV 10 a b = 0 := by rw [t10]; exact bit_not (by omega)
    have g14 : twoV 14 a b = 0 := by rw [t14]; simp [bitI]; omega
    have g12 : twoV 12 a b = 1 := by rw [t12]; exact bit_of (by omega)
    have g11 : twoV 11 a b = 0 := by rw [t11]; exact bit_not (by omega)
    have g13 : twoV 13 a b = 1 := by rw [t13]; exact bit_of (by omega)
    have g15 : twoV 15 a b = 1 := by rw [t15]; simp [bitI]; omega
    have gba : twoV 12 b a = 0 := by rw [t12]; exact bit_not (by omega)
    go_enter Try.func5, Try.ntmps5
    go_wp2_with (first | (go_at_call 10; refine (worthy_any _).mono ?_; rintro e w' ⟨rfl, rfl⟩) | (go_at_call 12; refine (two_law _ _ _ _ (by first | assumption | decide | exact InI_two _ _ _ (by assumption) | exact InI_one _ _) (by first | assumption | decide | exact InI_two _ _ _ (by assumption) | exact InI_one _ _)).mono ?_; rintro e w' ⟨rfl, rfl⟩) | (go_at_call 18; refine (one_law _ _ _).mono ?_; rintro e w' ⟨rfl, rfl⟩) | (go_at_call 17; refine (truth_any _ _).mono ?_; rintro e w' ⟨rfl, rfl⟩) | (go_at_call 11; refine (two_any _ _ _ _ (by assumption) (by assumption)).mono ?_; rintro e w' ⟨rfl, rfl⟩) | (go_at_call 13; refine (size_any _ _ (by first | assumption | exact InI_two _ _ _ (by assumption))).mono ?_; rintro e w' ⟨rfl, rfl⟩))
    go_ret
    exact ⟨rfl, Below.refl _ _⟩

end Go.Proofs.Ythmcfdlnhnpnhaa.Wd
