/- What the Go functions One and Two of the reference compute: the same as those of the program. Conditions: the numbers fit 64 bits. -/
import Derived.Test.YtnbclbphggmenaaWordRefB
namespace Go.Proofs.Ytnbclbphggmenaa.Wd
open Go.RowKit
theorem u_bd (x : Int) : 0 ≤ IntKind.u64.wrap x ∧ IntKind.u64.wrap x < 18446744073709551616 := wrapu_bd x
theorem u_mod (x : Int) : IntKind.u64.wrap x = x % 18446744073709551616 := IntKind.wrap_u64 x
theorem back_neg (a : Int) : wrap64 ((-(IntKind.u64.wrap a)) % 18446744073709551616) = wrap64 (-a) := wrap_eq (by rw [u_mod]; omega)
theorem back_add (a b : Int) : wrap64 ((IntKind.u64.wrap a + IntKind.u64.wrap b) % 18446744073709551616) = wrap64 (a + b) := wrap_eq (by rw [u_mod, u_mod]; omega)
theorem back_sub (a b : Int) : wrap64 ((IntKind.u64.wrap a + -(IntKind.u64.wrap b)) % 18446744073709551616) = wrap64 (a - b) := wrap_eq (by rw [u_mod, u_mod]; omega)
theorem back_mul (a b : Int) : wrap64 ((IntKind.u64.wrap a * IntKind.u64.wrap b) % 18446744073709551616) = wrap64 (a * b) := wrap_eq (by rw [u_mod, u_mod, Int.emod_emod_of_dvd _ (Int.dvd_refl _), ← Int.mul_emod])
theorem rone_any (op a : Int) (w : World) : Calls Try.prog 97 #[.int .i64 op, .int .i64 a] w fun e w' => e = .returned (.tuple #[.int .i64 (oneV op a), .bool (oneB op)]) ∧ w = w' := by
  have hu := u_bd a
  have HN := Lib.hid (back_neg a)
  obtain ⟨x, hx⟩ : ∃ x, Hid (IntKind.u64.wrap a = x) := ⟨_, Lib.hid rfl⟩
  have hx2 := hx.out
  have HN : Hid (wrap64 ((-x) % 18446744073709551616) = wrap64 (-a)) := hx2 ▸ HN
  rw [hx2] at hu
  by_cases h3 : op = 3
  · subst h3
    go_enter Try.func97, Try.ntmps97
    go_wp2_with (first | (go_at_call 118; refine (truth_ref _ _).mono ?_; rintro e w' ⟨rfl, rfl⟩) | (go_at_call 117; refine (turned_any _ _ hu.1 hu.2).mono ?_; rintro e w' ⟨rfl, rfl⟩))
    go_ret2
    exact ⟨by rw [HN.out]; rfl, rfl⟩
  by_cases h4 : op = 4
  · subst h4
    go_enter Try.func97, Try.ntmps97
    go_wp2_with (first | (go_at_call 118; refine (truth_ref _ _).mono ?_; rintro e w' ⟨rfl, rfl⟩) | (go_at_call 117; refine (turned_any _ _ hu.1 hu.2).mono ?_; rintro e w' ⟨rfl, rfl⟩))
    go_ret2
    exact ⟨rfl, rfl⟩
  have hV : oneV op a = 0 := by simp [oneV, h3, h4]
  have hB : oneB op = false := by simp [oneB, h3, h4]
  rw [hV, hB]; clear hV hB
  go_enter Try.func97, Try.ntmps97
  go_wp2_with fail
  go_ret2
  exact ⟨rfl, rfl⟩
theorem rand_any (a b : Int) (w : World) : Calls Try.prog 122 #[.int .i64 16, .int .i64 a, .int .i64 b] w fun e w' => e = .returned (.tuple #[.int .i64 (twoV 16 a b), .bool true]) ∧ w = w' := by
  have hV : twoV 16 a b = bitI (a != 0 && b != 0) := rfl
  rw [hV]; clear hV
  by_cases ha0 : (a != 0) = false
  · have hv : (a != 0 && b != 0) = false := by rw [ha0]; rfl
    rw [hv]; clear hv
    go_enter Try.func122, Try.ntmps122
    go_wp2_with (go_at_call 118; refine (truth_ref _ _).mono ?_; rintro e w' ⟨rfl, rfl⟩)
    go_ret2
    exact ⟨rfl, rfl⟩
  · have ha1 : (a != 0) = true := by simpa using ha0
    have hv : (a != 0 && b != 0) = (b != 0) := by rw [ha1]; rfl
    rw [hv]; clear hv ha0
    go_enter Try.func122, Try.ntmps122
    go_wp2_with (go_at_call 118; refine (truth_ref _ _).mono ?_; rintro e w' ⟨rfl, rfl⟩)
    go_ret2
    exact ⟨rfl, rfl⟩
theorem ror_any (a b : Int) (w : World) : Calls Try.prog 122 #[.int .i64 17, .int .i64 a, .int .i64 b] w fun e w' => e = .returned (.tuple #[.int .i64 (twoV 17 a b), .bool true]) ∧ w = w' := by
  have hV : twoV 17 a b = bitI (a != 0 || b != 0) := rfl
  rw [hV]; clear hV
  by_cases ha0 : (a != 0) = true
  · have hv : (a != 0 || b != 0) = true := by rw [ha0]; rfl
    rw [hv]; clear hv
    go_enter Try.func122, Try.ntmps122
    go_wp2_with (go_at_call 118; refine (truth_ref _ _).mono ?_; rintro e w' ⟨rfl, rfl⟩)
    go_ret2
    exact ⟨rfl, rfl⟩
  · have ha1 : (a != 0) = false := by simpa using ha0
    have hv : (a != 0 || b != 0) = (b != 0) := by rw [ha1]; rfl
    rw [hv]; clear hv ha0
    go_enter Try.func122, Try.ntmps122
    go_wp2_with (go_at_call 118; refine (truth_ref _ _).mono ?_; rintro e w' ⟨rfl, rfl⟩)
    go_ret2
    exact ⟨rfl, rfl⟩
theorem rtwo_any (op a b : Int) (w : World) (ha : InI a) (hb : InI b) :
    Calls Try.prog 98 #[.int .i64 op, .int .i64 a, .int .i64 b] w fun e w' => e = .returned (.tuple #[.int .i64 (twoV op a b), .bool (twoB op b)]) ∧ w = w' := by
  by_cases h8 : op = 8
  · subst h8
    have HA := Lib.hid fun w => add_any (IntKind.u64.wrap a) (IntKind.u64.wrap b) w (u_bd a).1 (u_bd a).2 (u_bd b).1 (u_bd b).2
    have HN := Lib.hid (back_add a b)
    clear ha hb
    go_enter Try.func98, Try.ntmps98
    go_wp2_with (go_at_call 119; refine (HA.out _).mono ?_; rintro e w' ⟨rfl, rfl⟩)
    go_ret2
    exact ⟨by rw [HN.out]; rfl, rfl⟩
  by_cases h9 : op = 9
  · subst h9
    have ht : 0 ≤ (-(IntKind.u64.wrap b)) % 18446744073709551616 ∧ (-(IntKind.u64.wrap b)) % 18446744073709551616 < 18446744073709551616 := by omega
    have HA := Lib.hid fun w => add_any (IntKind.u64.wrap a) ((-(IntKind.u64.wrap b)) % 18446744073709551616) w (u_bd a).1 (u_bd a).2 ht.1 ht.2
    have HT := Lib.hid fun w => turned_any (IntKind.u64.wrap b) w (u_bd b).1 (u_bd b).2
    have HN := Lib.hid (back_sub a b)
    clear ha hb ht
    go_enter Try.func98, Try.ntmps98
    go_wp2_with (first | (go_at_call 119; refine (HA.out _).mono ?_; rintro e w' ⟨rfl, rfl⟩) | (go_at_call 117; refine (HT.out _).mono ?_; rintro e w' ⟨rfl, rfl⟩))
    go_ret2
    exact ⟨by rw [HN.out]; rfl, rfl⟩
  by_cases h5 : op = 5
  · subst h5
    have HM := Lib.hid fun w => mul_any (IntKind.u64.wrap a) (IntKind.u64.wrap b) w (u_bd b).1 (u_bd b).2
    have HN := Lib.hid (back_mul a b)
    clear ha hb
    go_enter Try.func98, Try.ntmps98
    go_wp2_with (go_at_call 120; refine (HM.out _).mono ?_; rintro e w' ⟨rfl, rfl⟩)
    go_ret2
    exact ⟨by rw [HN.out]; rfl, rfl⟩
  by_cases h67 : op = 6 ∨ op = 7
  · have hV : twoV op a b = divV op a b := by unfold twoV; rw [if_neg h8, if_neg h9, if_neg h5, if_pos h67]
    have hB : twoB op b = divB b := by unfold twoB; rw [if_neg h8, if_neg h9, if_neg h5, if_pos h67]
    rw [hV, hB]; clear hV hB h8 h9 h5
    by_cases h0 : b = 0
    · subst h0
      clear ha hb
      rcases h67 with rfl | rfl
      all_goals
        go_enter Try.func98, Try.ntmps98
        go_wp2_with fail
        go_ret2
        exact ⟨rfl, rfl⟩
    · have hq := Lib.hid fun w => quotient_any a b w ha hb h0
      have hb0 : (b == 0) = false := by simp [h0]
      have hB : divB b = true := by simp [divB, h0]
      rw [hB]; clear hB
      have H6 : Hid (divV 6 a b = wrap64 (a.tdiv b)) := by unfold divV; rw [if_neg h0, if_neg (by decide)]; exact Lib.hid rfl
      have H7 : Hid (divV 7 a b = a.tmod b) := by unfold divV; rw [if_neg h0, if_pos rfl]; exact Lib.hid rfl
      clear ha hb h0
      rcases h67 with rfl | rfl
      · go_enter Try.func98, Try.ntmps98
        go_wp2_with (go_at_call 121; refine (hq.out _).mono ?_; rintro e w' ⟨rfl, rfl⟩)
        go_ret2
        exact ⟨by rw [H6.out]; rfl, rfl⟩
      · go_enter Try.func98, Try.ntmps98
        go_wp2_with (go_at_call 121; refine (hq.out _).mono ?_; rintro e w' ⟨rfl, rfl⟩)
        go_ret2
        exact ⟨by rw [H7.out]; rfl, rfl⟩
  by_cases h16 : op = 16
  · subst h16
    clear ha hb h8 h9 h5 h67
    go_enter Try.func98, Try.ntmps98
    go_wp2_with (go_at_call 122; refine (rand_any _ _ _).mono ?_; rintro e w' ⟨rfl, rfl⟩)
    go_ret2
    exact ⟨rfl, rfl⟩
  by_cases h17 : op = 17
  · subst h17
    clear ha hb h8 h9 h5 h67 h16
    go_enter Try.func98, Try.ntmps98
    go_wp2_with (go_at_call 122; refine (ror_any _ _ _).mono ?_; rintro e w' ⟨rfl, rfl⟩)
    go_ret2
    exact ⟨rfl, rfl⟩
  have hV : twoV op a b = cmpV op a b := by unfold twoV; rw [if_neg h8, if_neg h9, if_neg h5, if_neg h67, if_neg h16, if_neg h17]
  have hB : twoB op b = cmpB op := by unfold twoB; rw [if_neg h8, if_neg h9, if_neg h5, if_neg h67, if_neg h16, if_neg h17]
  rw [hV, hB]; clear hV hB
  have h6 : op ≠ 6 := fun h => h67 (.inl h)
  have h7 : op ≠ 7 := fun h => h67 (.inr h)
  have HC := Lib.hid fun w => rcmp_any op a b w ha hb h16 h17
  clear h67 ha hb
  go_enter Try.func98, Try.ntmps98
  go_wp2_with (go_at_call 122; refine (HC.out _).mono ?_; rintro e w' ⟨rfl, rfl⟩)
  go_ret2
  exact ⟨rfl, rfl⟩
end Go.Proofs.Ytnbclbphggmenaa.Wd
