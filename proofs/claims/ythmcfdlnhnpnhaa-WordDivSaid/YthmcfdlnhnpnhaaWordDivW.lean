/- The law WordDiv, walked: it returns true. Conditions: the numbers fit 64 bits. -/
import Derived.Test.YthmcfdlnhnpnhaaWordMod
import Derived.OpenShut
namespace Go.Proofs.Ythmcfdlnhnpnhaa.Wd
open Go.RowKit
theorem t6 (a b : Int) (h : b ≠ 0) : twoV 6 a b = wrap64 (a.tdiv b) := by
  show divV 6 a b = _
  unfold divV
  rw [if_neg h, if_neg (by decide)]
theorem t7 (a b : Int) (h : b ≠ 0) : twoV 7 a b = a.tmod b := by
  show divV 7 a b = _
  unfold divV
  rw [if_neg h, if_pos rfl]
theorem div1 (a b : Int) (h : b ≠ 0) (ha : InI a) : twoV 8 (twoV 5 (twoV 6 a b) b) (twoV 7 a b) = a := by
  rw [t6 a b h, t7 a b h, t5, t8, add_l]
  have e : wrap64 (wrap64 (a.tdiv b) * b + a.tmod b) = wrap64 (a.tdiv b * b + a.tmod b) := by
    rw [← add_l, mul_l, add_l]
  rw [e, Int.tdiv_mul_add_tmod, wrap_in ha]
theorem div2 (a b : Int) (h : b ≠ 0) : (twoV 7 a b).natAbs < b.natAbs := by
  rw [t7 a b h, Int.natAbs_tmod]
  exact Nat.mod_lt _ (by omega)
theorem wrap_abs (x : Int) : (wrap64 x).natAbs ≤ x.natAbs := by rw [w64]; omega
theorem div3 (a b : Int) (h : b ≠ 0) : (twoV 6 a b).natAbs ≤ a.natAbs := by
  rw [t6 a b h]
  exact Nat.le_trans (wrap_abs _) (Int.natAbs_tdiv_le_natAbs a b)
theorem div4 (a b : Int) (h : b ≠ 0) (ha : a < 0) (hr : twoV 7 a b ≠ 0) : twoV 7 a b < 0 := by
  rw [t7 a b h] at *
  have h3 : (-a).tmod b = -(a.tmod b) := Int.neg_tmod a b
  have := Int.tmod_nonneg b (a := -a) (by omega)
  omega
theorem div5 (a b : Int) (h : b ≠ 0) (ha : ¬ a < 0) : 0 ≤ twoV 7 a b := by
  rw [t7 a b h]
  exact Int.tmod_nonneg b (by omega)

set_option maxHeartbeats 1000000 in
theorem div_walk (a : Int) (wa : (Lit.int .i64 a).wf = true) (b : Int) (wb : (Lit.int .i64 b).wf = true) (w : World) :
    Calls Try.prog 4 #[.int .i64 a, .int .i64 b] w fun e w' => e = .returned (.bool true) ∧ Below w.heap.size w w' := by
  have ha : InI a := bounds_i64 wa
  have hb : InI b := bounds_i64 wb
  by_cases hb0 : b = 0
  · subst hb0
    have f1 : twoB 6 0 = false := rfl
    have f2 : twoB 7 0 = false := rfl
    go_enter Try.func4, Try.ntmps4
    go_wp2_with (first | (go_at_call 10; refine (worthy_any _).mono ?_; rintro e w' ⟨rfl, rfl⟩) | (go_at_call 12; refine (two_law _ _ _ _ (by first | assumption | decide | exact InI_two _ _ _ (by assumption) | exact InI_one _ _) (by first | assumption | decide | exact InI_two _ _ _ (by assumption) | exact InI_one _ _)).mono ?_; rintro e w' ⟨rfl, rfl⟩) | (go_at_call 18; refine (one_law _ _ _).mono ?_; rintro e w' ⟨rfl, rfl⟩) | (go_at_call 17; refine (truth_any _ _).mono ?_; rintro e w' ⟨rfl, rfl⟩) | (go_at_call 11; refine (two_any _ _ _ _ (by assumption) (by assumption)).mono ?_; rintro e w' ⟨rfl, rfl⟩) | (go_at_call 13; refine (size_any _ _ (by first | assumption | exact InI_two _ _ _ (by assumption))).mono ?_; rintro e w' ⟨rfl, rfl⟩))
    go_ret
    exact ⟨rfl, Below.refl _ _⟩
  have f1 : twoB 6 b = true := by show divB b = true; simp [divB, hb0]
  have f2 : twoB 7 b = true := by show divB b = true; simp [divB, hb0]
  have f3 : (b == 0) = false := by simp [hb0]
  have e1 : (twoV 8 (twoV 5 (twoV 6 a b) b) (twoV 7 a b) == a) = true := by rw [beq_iff_eq]; exact div1 a b hb0 ha
  have i6 : InI (twoV 6 a b) := InI_two _ _ _ ha
  have i7 : InI (twoV 7 a b) := InI_two _ _ _ ha
  have e2 := div2 a b hb0
  have e3 := div3 a b hb0
  by_cases hr : twoV 7 a b = 0
  · have hr' : (twoV 7 a b == 0) = true := by rw [hr]; rfl
    have Hr := Lib.hid hr; clear hr hb0
    go_enter Try.func4, Try.ntmps4
    go_wp2_with (first | (go_at_call 10; refine (worthy_any _).mono ?_; rintro e w' ⟨rfl, rfl⟩) | (go_at_call 12; refine (two_law _ _ _ _ (by first | assumption | decide | exact InI_two _ _ _ (by assumption) | exact InI_one _ _) (by first | assumption | decide | exact InI_two _ _ _ (by assumption) | exact InI_one _ _)).mono ?_; rintro e w' ⟨rfl, rfl⟩) | (go_at_call 18; refine (one_law _ _ _).mono ?_; rintro e w' ⟨rfl, rfl⟩) | (go_at_call 17; refine (truth_any _ _).mono ?_; rintro e w' ⟨rfl, rfl⟩) | (go_at_call 11; refine (two_any _ _ _ _ (by assumption) (by assumption)).mono ?_; rintro e w' ⟨rfl, rfl⟩) | (go_at_call 13; refine (size_any _ _ (by first | assumption | exact InI_two _ _ _ (by assumption))).mono ?_; rintro e w' ⟨rfl, rfl⟩))
    go_ret
    exact ⟨rfl, Below.refl _ _⟩
  have hr' : (twoV 7 a b == 0) = false := by simp [hr]
  by_cases hs : a < 0
  · have h7 := div4 a b hb0 hs hr
    clear hr hb0
    go_enter Try.func4, Try.ntmps4
    go_wp2_with (first | (go_at_call 10; refine (worthy_any _).mono ?_; rintro e w' ⟨rfl, rfl⟩) | (go_at_call 12; refine (two_law _ _ _ _ (by first | assumption | decide | exact InI_two _ _ _ (by assumption) | exact InI_one _ _) (by first | assumption | decide | exact InI_two _ _ _ (by assumption) | exact InI_one _ _)).mono ?_; rintro e w' ⟨rfl, rfl⟩) | (go_at_call 18; refine (one_law _ _ _).mono ?_; rintro e w' ⟨rfl, rfl⟩) | (go_at_call 17; refine (truth_any _ _).mono ?_; rintro e w' ⟨rfl, rfl⟩) | (go_at_call 11; refine (two_any _ _ _ _ (by assumption) (by assumption)).mono ?_; rintro e w' ⟨rfl, rfl⟩) | (go_at_call 13; refine (size_any _ _ (by first | assumption | exact InI_two _ _ _ (by assumption))).mono ?_; rintro e w' ⟨rfl, rfl⟩))
    go_ret
    exact ⟨rfl, Below.refl _ _⟩
  · have h7 : ¬ twoV 7 a b < 0 := by have := div5 a b hb0 hs; omega
    clear hr hb0
    go_enter Try.func4, Try.ntmps4
    go_wp2_with (first | (go_at_call 10; refine (worthy_any _).mono ?_; rintro e w' ⟨rfl, rfl⟩) | (go_at_call 12; refine (two_law _ _ _ _ (by first | assumption | decide | exact InI_two _ _ _ (by assumption) | exact InI_one _ _) (by first | assumption | decide | exact InI_two _ _ _ (by assumption) | exact InI_one _ _)).mono ?_; rintro e w' ⟨rfl, rfl⟩) | (go_at_call 18; refine (one_law _ _ _).mono ?_; rintro e w' ⟨rfl, rfl⟩) | (go_at_call 17; refine (truth_any _ _).mono ?_; rintro e w' ⟨rfl, rfl⟩) | (go_at_call 11; refine (two_any _ _ _ _ (by assumption) (by assumption)).mono ?_; rintro e w' ⟨rfl, rfl⟩) | (go_at_call 13; refine (size_any _ _ (by first | assumption | exact InI_two _ _ _ (by assumption))).mono ?_; rintro e w' ⟨rfl, rfl⟩))
    go_ret
    exact ⟨rfl, Below.refl _ _⟩
end Go.Proofs.Ythmcfdlnhnpnhaa.Wd
