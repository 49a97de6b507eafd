/- What the Go functions of the reference quotient, truth, less, compare, One, Two compute. Conditions: the numbers fit 64 bits. -/
import Derived.Test.YtnbclbphggmenaaWordRef
import Derived.Test.YtnbclbphggmenaaWordMod
namespace Go.Proofs.Ytnbclbphggmenaa.Wd
open Go.RowKit
theorem i64_wrap (x : Int) : IntKind.i64.wrap x = wrap64 x := by rw [IntKind.wrap_i64, w64]
theorem truth_ref (b : Bool) (w : World) : Calls Try.prog 118 #[.bool b] w fun e w' => e = .returned (.int .i64 (bitI b)) ∧ w = w' := by
  cases b
  all_goals
    go_enter Try.func118, Try.ntmps118
    go_wp2
    go_ret
    exact ⟨rfl, rfl⟩
theorem quot_pos (a b : Int) (h : (a < 0) ↔ (b < 0)) : ((a.natAbs : Int) / (b.natAbs : Int)) = a.tdiv b := by
  have e : ((a.natAbs : Int) / (b.natAbs : Int)) = (a.natAbs : Int).tdiv (b.natAbs : Int) := (Int.tdiv_eq_ediv_of_nonneg (by omega)).symm
  rw [e]
  by_cases ha : a < 0
  · have hb2 := h.1 ha
    rw [show (a.natAbs : Int) = -a from by omega, show (b.natAbs : Int) = -b from by omega, Int.neg_tdiv, Int.tdiv_neg, Int.neg_neg]
  · have hb2 : ¬ b < 0 := fun x => ha (h.2 x)
    rw [show (a.natAbs : Int) = a from by omega, show (b.natAbs : Int) = b from by omega]
theorem quot_neg (a b : Int) (h : ¬ ((a < 0) ↔ (b < 0))) : -((a.natAbs : Int) / (b.natAbs : Int)) = a.tdiv b := by
  have e : ((a.natAbs : Int) / (b.natAbs : Int)) = (a.natAbs : Int).tdiv (b.natAbs : Int) := (Int.tdiv_eq_ediv_of_nonneg (by omega)).symm
  rw [e]
  by_cases ha : a < 0
  · have hb2 : ¬ b < 0 := fun x => h ⟨fun _ => x, fun _ => ha⟩
    rw [show (a.natAbs : Int) = -a from by omega, show (b.natAbs : Int) = b from by omega, Int.neg_tdiv, Int.neg_neg]
  · have hb2 : b < 0 := by
      apply Decidable.byContradiction
      intro x
      exact h ⟨fun y => absurd y ha, fun y => absurd y x⟩
    rw [show (a.natAbs : Int) = a from by omega, show (b.natAbs : Int) = -b from by omega, Int.tdiv_neg, Int.neg_neg]
theorem rest_pos (a b : Int) (ha : ¬ a < 0) : ((a.natAbs : Int) % (b.natAbs : Int)) = a.tmod b := by
  have e : ((a.natAbs : Int) % (b.natAbs : Int)) = (a.natAbs : Int).tmod (b.natAbs : Int) := (Int.tmod_eq_emod_of_nonneg (by omega)).symm
  rw [e, show (a.natAbs : Int) = a from by omega]
  by_cases hb : b < 0
  · rw [show (b.natAbs : Int) = -b from by omega, Int.tmod_neg]
  · rw [show (b.natAbs : Int) = b from by omega]
theorem rest_neg (a b : Int) (ha : a < 0) : -((a.natAbs : Int) % (b.natAbs : Int)) = a.tmod b := by
  have e : ((a.natAbs : Int) % (b.natAbs : Int)) = (a.natAbs : Int).tmod (b.natAbs : Int) := (Int.tmod_eq_emod_of_nonneg (by omega)).symm
  rw [e, show (a.natAbs : Int) = -a from by omega, Int.neg_tmod, Int.neg_neg]
  by_cases hb : b < 0
  · rw [show (b.natAbs : Int) = -b from by omega, Int.tmod_neg]
  · rw [show (b.natAbs : Int) = b from by omega]
theorem wrap_turned (x : Int) : wrap64 ((-x) % 18446744073709551616) = wrap64 (-x) := wrap_eq (by omega)
theorem quotient_any (a b : Int) (w : World) (ha : InI a) (hb : InI b) (h0 : b ≠ 0) :
    Calls Try.prog 121 #[.int .i64 a, .int .i64 b] w fun e w' => e = .returned (.tuple #[.int .i64 (wrap64 (a.tdiv b)), .int .i64 (a.tmod b)]) ∧ w = w' := by
  have nb : 0 < (b.natAbs : Int) ∧ (b.natAbs : Int) < 18446744073709551616 := by unfold InI at hb; omega
  have na : 0 ≤ (a.natAbs : Int) ∧ (a.natAbs : Int) < 18446744073709551616 := by unfold InI at ha; omega
  have q0 : 0 ≤ (a.natAbs : Int) / (b.natAbs : Int) := Int.ediv_nonneg na.1 (by omega)
  have q1 : (a.natAbs : Int) / (b.natAbs : Int) < 18446744073709551616 := by have := Int.ediv_le_self (b.natAbs : Int) na.1; omega
  have r0 : 0 ≤ (a.natAbs : Int) % (b.natAbs : Int) := Int.emod_nonneg _ (by omega)
  have r1 : (a.natAbs : Int) % (b.natAbs : Int) < 18446744073709551616 := by have := Int.emod_lt_of_pos (a.natAbs : Int) nb.1; omega
  have HD := Lib.hid fun w => udiv_any (a.natAbs : Int) (b.natAbs : Int) w na.1 na.2 nb.1 nb.2
  have HW := Lib.hid (wrap_in (InI_tmod a b ha))
  have hA := Lib.hid ha
  have hB := Lib.hid hb
  clear ha hb h0 na nb
  obtain ⟨q, eq⟩ : ∃ q, Hid ((a.natAbs : Int) / (b.natAbs : Int) = q) := ⟨_, Lib.hid rfl⟩
  obtain ⟨r, er⟩ : ∃ r, Hid ((a.natAbs : Int) % (b.natAbs : Int) = r) := ⟨_, Lib.hid rfl⟩
  rw [eq.out] at q0 q1
  rw [er.out] at r0 r1
  have HD := Lib.hid (eq.out ▸ er.out ▸ HD.out)
  by_cases sa : a < 0
  · by_cases sb : b < 0
    · have da : decide (a < 0) = true := by simp; omega
      have db : decide (b < 0) = true := by simp; omega
      have HQ : Hid (wrap64 q = wrap64 (a.tdiv b)) := by
        have h1 := quot_pos a b (by simp [sa, sb])
        rw [← h1, eq.out]
        exact Lib.hid rfl
      have HR : Hid (wrap64 ((-r) % 18446744073709551616) = a.tmod b) := by
        have h1 := rest_neg a b sa
        rw [← HW.out, ← h1, er.out, ← wrap_turned]
        exact Lib.hid rfl
      go_enter Try.func121, Try.ntmps121
      go_wp2_with (first | (go_at_call 133; refine (rsize_any _ _ (by first | exact hA.out | exact hB.out)).mono ?_; rintro e w' ⟨rfl, rfl⟩) | (go_at_call 132; refine (HD.out _).mono ?_; rintro e w' ⟨rfl, rfl⟩) | (go_at_call 117; ((with_reducible refine (turned_any _ _ q0 q1).mono ?_); rintro e w' ⟨rfl, rfl⟩)) | (go_at_call 117; ((with_reducible refine (turned_any _ _ r0 r1).mono ?_); rintro e w' ⟨rfl, rfl⟩)))
      go_ret2
      exact ⟨by rw [HQ.out, HR.out]; rfl, rfl⟩
    · have da : decide (a < 0) = true := by simp; omega
      have db : decide (b < 0) = false := by simp; omega
      have HQ : Hid (wrap64 ((-q) % 18446744073709551616) = wrap64 (a.tdiv b)) := by
        have h1 := quot_neg a b (by simp [sa, sb])
        rw [← h1, eq.out, ← wrap_turned]
        exact Lib.hid rfl
      have HR : Hid (wrap64 ((-r) % 18446744073709551616) = a.tmod b) := by
        have h1 := rest_neg a b sa
        rw [← HW.out, ← h1, er.out, ← wrap_turned]
        exact Lib.hid rfl
      go_enter Try.func121, Try.ntmps121
      go_wp2_with (first | (go_at_call 133; refine (rsize_any _ _ (by first | exact hA.out | exact hB.out)).mono ?_; rintro e w' ⟨rfl, rfl⟩) | (go_at_call 132; refine (HD.out _).mono ?_; rintro e w' ⟨rfl, rfl⟩) | (go_at_call 117; ((with_reducible refine (turned_any _ _ q0 q1).mono ?_); rintro e w' ⟨rfl, rfl⟩)) | (go_at_call 117; ((with_reducible refine (turned_any _ _ r0 r1).mono ?_); rintro e w' ⟨rfl, rfl⟩)))
      go_ret2
      exact ⟨by rw [HQ.out, HR.out]; rfl, rfl⟩
  · by_cases sb : b < 0
    · have da : decide (a < 0) = false := by simp; omega
      have db : decide (b < 0) = true := by simp; omega
      have HQ : Hid (wrap64 ((-q) % 18446744073709551616) = wrap64 (a.tdiv b)) := by
        have h1 := quot_neg a b (by simp [sa, sb])
        rw [← h1, eq.out, ← wrap_turned]
        exact Lib.hid rfl
      have HR : Hid (wrap64 r = a.tmod b) := by
        have h1 := rest_pos a b sa
        rw [← HW.out, ← h1, er.out]
        exact Lib.hid rfl
      go_enter Try.func121, Try.ntmps121
      go_wp2_with (first | (go_at_call 133; refine (rsize_any _ _ (by first | exact hA.out | exact hB.out)).mono ?_; rintro e w' ⟨rfl, rfl⟩) | (go_at_call 132; refine (HD.out _).mono ?_; rintro e w' ⟨rfl, rfl⟩) | (go_at_call 117; ((with_reducible refine (turned_any _ _ q0 q1).mono ?_); rintro e w' ⟨rfl, rfl⟩)) | (go_at_call 117; ((with_reducible refine (turned_any _ _ r0 r1).mono ?_); rintro e w' ⟨rfl, rfl⟩)))
      go_ret2
      exact ⟨by rw [HQ.out, HR.out]; rfl, rfl⟩
    · have da : decide (a < 0) = false := by simp; omega
      have db : decide (b < 0) = false := by simp; omega
      have HQ : Hid (wrap64 q = wrap64 (a.tdiv b)) := by
        have h1 := quot_pos a b (by simp [sa, sb])
        rw [← h1, eq.out]
        exact Lib.hid rfl
      have HR : Hid (wrap64 r = a.tmod b) := by
        have h1 := rest_pos a b sa
        rw [← HW.out, ← h1, er.out]
        exact Lib.hid rfl
      go_enter Try.func121, Try.ntmps121
      go_wp2_with (first | (go_at_call 133; refine (rsize_any _ _ (by first | exact hA.out | exact hB.out)).mono ?_; rintro e w' ⟨rfl, rfl⟩) | (go_at_call 132; refine (HD.out _).mono ?_; rintro e w' ⟨rfl, rfl⟩) | (go_at_call 117; ((with_reducible refine (turned_any _ _ q0 q1).mono ?_); rintro e w' ⟨rfl, rfl⟩)) | (go_at_call 117; ((with_reducible refine (turned_any _ _ r0 r1).mono ?_); rintro e w' ⟨rfl, rfl⟩)))
      go_ret2
      exact ⟨by rw [HQ.out, HR.out]; rfl, rfl⟩
theorem xor_small (m : Nat) (h : m < 9223372036854775808) : m ^^^ 9223372036854775808 = m + 9223372036854775808 := by
  have e : m ^^^ 2 ^ 63 = 2 ^ 63 ||| m := by
    apply Nat.eq_of_testBit_eq
    intro i
    rw [Nat.testBit_xor, Nat.testBit_or, Nat.testBit_two_pow]
    by_cases hi : 63 = i
    · subst hi
      rw [Nat.testBit_lt_two_pow (show m < 2 ^ 63 from h)]
      rfl
    · simp [hi]
  have := nat_join 63 (2 ^ 63) m (by decide) h
  exact e.trans (this.trans (Nat.add_comm _ _))
theorem xor_nat (n : Nat) (hn : n < 18446744073709551616) : n ^^^ 9223372036854775808 = (n + 9223372036854775808) % 18446744073709551616 := by
  by_cases h : n < 9223372036854775808
  · rw [xor_small n h]; omega
  · obtain ⟨m, rfl⟩ : ∃ m, n = m + 9223372036854775808 := ⟨n - 9223372036854775808, by omega⟩
    rw [← xor_small m (by omega), Nat.xor_assoc, Nat.xor_self, Nat.xor_zero, xor_small m (by omega)]
    omega
theorem xor_top (a : Int) (ha : InI a) : bits .xor .u64 (IntKind.u64.wrap a) 9223372036854775808 = a + 9223372036854775808 := by
  unfold InI at ha
  have e : IntKind.u64.wrap a = a % 18446744073709551616 := IntKind.wrap_u64 a
  obtain ⟨n, hn⟩ := Int.eq_ofNat_of_zero_le (show 0 ≤ a % 18446744073709551616 by omega)
  have hn2 : n < 18446744073709551616 := by omega
  rw [e, hn]
  have := u64_xor_nat n 9223372036854775808 hn2 (by omega)
  refine this.trans ?_
  rw [xor_nat n hn2]
  omega
theorem less_any (a b : Int) (w : World) (ha : InI a) (hb : InI b) : Calls Try.prog 134 #[.int .i64 a, .int .i64 b] w fun e w' => e = .returned (.bool (decide (a < b))) ∧ w = w' := by
  have ea := xor_top a ha
  have eb := xor_top b hb
  by_cases h : a < b
  · have h' : a + 9223372036854775808 < b + 9223372036854775808 := by omega
    rw [show decide (a < b) = true from by simp [h]]
    go_enter Try.func134, Try.ntmps134
    go_wp2_with fail
    go_ret
    exact ⟨rfl, rfl⟩
  · have h' : ¬ (a + 9223372036854775808 < b + 9223372036854775808) := by omega
    rw [show decide (a < b) = false from by simp [h]]
    go_enter Try.func134, Try.ntmps134
    go_wp2_with fail
    go_ret
    exact ⟨rfl, rfl⟩
theorem not_lt (a b : Int) : (!decide (b < a)) = decide (a ≤ b) := by
  by_cases h : b < a
  · simp [h]
  · simp [h]; omega
theorem rcmp_any (op a b : Int) (w : World) (ha : InI a) (hb : InI b) (h16 : op ≠ 16) (h17 : op ≠ 17) : Calls Try.prog 122 #[.int .i64 op, .int .i64 a, .int .i64 b] w fun e w' => e = .returned (.tuple #[.int .i64 (cmpV op a b), .bool (cmpB op)]) ∧ w = w' := by
  have n1 := not_lt a b
  have n2 := not_lt b a
  by_cases h10 : op = 10
  · subst h10
    go_enter Try.func122, Try.ntmps122
    go_wp2_with (first | (go_at_call 118; refine (truth_ref _ _).mono ?_; rintro e w' ⟨rfl, rfl⟩) | (go_at_call 134; ((with_reducible refine (less_any a b _ ha hb).mono ?_); rintro e w' ⟨rfl, rfl⟩)) | (go_at_call 134; ((with_reducible refine (less_any b a _ hb ha).mono ?_); rintro e w' ⟨rfl, rfl⟩)) | (go_at_call 117; ((with_reducible refine (turned_any _ _ hu.1 hu.2).mono ?_); rintro e w' ⟨rfl, rfl⟩)))
    go_ret2
    exact ⟨rfl, rfl⟩
  by_cases h11 : op = 11
  · subst h11
    go_enter Try.func122, Try.ntmps122
    go_wp2_with (first | (go_at_call 118; refine (truth_ref _ _).mono ?_; rintro e w' ⟨rfl, rfl⟩) | (go_at_call 134; ((with_reducible refine (less_any a b _ ha hb).mono ?_); rintro e w' ⟨rfl, rfl⟩)) | (go_at_call 134; ((with_reducible refine (less_any b a _ hb ha).mono ?_); rintro e w' ⟨rfl, rfl⟩)) | (go_at_call 117; ((with_reducible refine (turned_any _ _ hu.1 hu.2).mono ?_); rintro e w' ⟨rfl, rfl⟩)))
    go_ret2
    exact ⟨rfl, rfl⟩
  by_cases h12 : op = 12
  · subst h12
    go_enter Try.func122, Try.ntmps122
    go_wp2_with (first | (go_at_call 118; refine (truth_ref _ _).mono ?_; rintro e w' ⟨rfl, rfl⟩) | (go_at_call 134; ((with_reducible refine (less_any a b _ ha hb).mono ?_); rintro e w' ⟨rfl, rfl⟩)) | (go_at_call 134; ((with_reducible refine (less_any b a _ hb ha).mono ?_); rintro e w' ⟨rfl, rfl⟩)) | (go_at_call 117; ((with_reducible refine (turned_any _ _ hu.1 hu.2).mono ?_); rintro e w' ⟨rfl, rfl⟩)))
    go_ret2
    exact ⟨rfl, rfl⟩
  by_cases h13 : op = 13
  · subst h13
    go_enter Try.func122, Try.ntmps122
    go_wp2_with (first | (go_at_call 118; refine (truth_ref _ _).mono ?_; rintro e w' ⟨rfl, rfl⟩) | (go_at_call 134; ((with_reducible refine (less_any a b _ ha hb).mono ?_); rintro e w' ⟨rfl, rfl⟩)) | (go_at_call 134; ((with_reducible refine (less_any b a _ hb ha).mono ?_); rintro e w' ⟨rfl, rfl⟩)) | (go_at_call 117; ((with_reducible refine (turned_any _ _ hu.1 hu.2).mono ?_); rintro e w' ⟨rfl, rfl⟩)))
    go_ret2
    exact ⟨rfl, rfl⟩
  by_cases h14 : op = 14
  · subst h14
    go_enter Try.func122, Try.ntmps122
    go_wp2_with (first | (go_at_call 118; refine (truth_ref _ _).mono ?_; rintro e w' ⟨rfl, rfl⟩) | (go_at_call 134; ((with_reducible refine (less_any a b _ ha hb).mono ?_); rintro e w' ⟨rfl, rfl⟩)) | (go_at_call 134; ((with_reducible refine (less_any b a _ hb ha).mono ?_); rintro e w' ⟨rfl, rfl⟩)) | (go_at_call 117; ((with_reducible refine (turned_any _ _ hu.1 hu.2).mono ?_); rintro e w' ⟨rfl, rfl⟩)))
    go_ret2
    exact ⟨rfl, rfl⟩
  by_cases h15 : op = 15
  · subst h15
    go_enter Try.func122, Try.ntmps122
    go_wp2_with (first | (go_at_call 118; refine (truth_ref _ _).mono ?_; rintro e w' ⟨rfl, rfl⟩) | (go_at_call 134; ((with_reducible refine (less_any a b _ ha hb).mono ?_); rintro e w' ⟨rfl, rfl⟩)) | (go_at_call 134; ((with_reducible refine (less_any b a _ hb ha).mono ?_); rintro e w' ⟨rfl, rfl⟩)) | (go_at_call 117; ((with_reducible refine (turned_any _ _ hu.1 hu.2).mono ?_); rintro e w' ⟨rfl, rfl⟩)))
    go_ret2
    exact ⟨rfl, rfl⟩
  have hV : cmpV op a b = 0 := by simp [cmpV, h10, h11, h12, h13, h14, h15]
  have hB : cmpB op = false := by simp [cmpB]; omega
  rw [hV, hB]
  clear hV hB
  go_enter Try.func122, Try.ntmps122
  go_wp2_with fail
  go_ret2
  exact ⟨rfl, rfl⟩
end Go.Proofs.Ytnbclbphggmenaa.Wd
