/- What the Go functions word.bit, word.divide, word.compare, word.One, word.Two, word.Truth compute, walked once each. Conditions: the numbers fit 64 bits. -/
import Derived.Test.YtnbclbphggmenaaRows
import Derived.WalkKit
import Derived.WalkSpells
import Derived.Lib.Hide
import Derived.Test.YtnbclbphggmenaaWordP
namespace Go.Proofs.Ytnbclbphggmenaa.Wd
open Go.RowKit
theorem ret2 {a c : Int} {b d : Bool} (h : a = c) (k : b = d) : Ending.returned (.tuple #[.int .i64 a, .bool b]) = .returned (.tuple #[.int .i64 c, .bool d]) := by rw [h, k]
theorem truth_any (a : Int) (w : World) : Calls Try.prog 23 #[.int .i64 a] w fun e w' => e = .returned (.bool (a != 0)) ∧ w = w' := by
  go_enter Try.func23, Try.ntmps23
  go_wp2
  go_ret
  exact ⟨rfl, rfl⟩
theorem bit_any (b : Bool) (w : World) : Calls Try.prog 57 #[.bool b] w fun e w' => e = .returned (.int .i64 (bitI b)) ∧ w = w' := by
  cases b
  all_goals
    go_enter Try.func57, Try.ntmps57
    go_wp2
    go_ret
    exact ⟨rfl, rfl⟩
theorem cmp_any (op a b : Int) (w : World) : Calls Try.prog 58 #[.int .i64 op, .int .i64 a, .int .i64 b] w fun e w' => e = .returned (.tuple #[.int .i64 (cmpV op a b), .bool (cmpB op)]) ∧ w = w' := by
  by_cases h10 : op = 10
  · subst h10
    go_enter Try.func58, Try.ntmps58
    go_wp2_with (go_at_call 57; refine (bit_any _ _).mono ?_; rintro e w' ⟨rfl, rfl⟩)
    go_ret2
    exact ⟨rfl, rfl⟩
  by_cases h11 : op = 11
  · subst h11
    go_enter Try.func58, Try.ntmps58
    go_wp2_with (go_at_call 57; refine (bit_any _ _).mono ?_; rintro e w' ⟨rfl, rfl⟩)
    go_ret2
    exact ⟨rfl, rfl⟩
  by_cases h12 : op = 12
  · subst h12
    go_enter Try.func58, Try.ntmps58
    go_wp2_with (go_at_call 57; refine (bit_any _ _).mono ?_; rintro e w' ⟨rfl, rfl⟩)
    go_ret2
    exact ⟨rfl, rfl⟩
  by_cases h13 : op = 13
  · subst h13
    go_enter Try.func58, Try.ntmps58
    go_wp2_with (go_at_call 57; refine (bit_any _ _).mono ?_; rintro e w' ⟨rfl, rfl⟩)
    go_ret2
    exact ⟨rfl, rfl⟩
  by_cases h14 : op = 14
  · subst h14
    go_enter Try.func58, Try.ntmps58
    go_wp2_with (go_at_call 57; refine (bit_any _ _).mono ?_; rintro e w' ⟨rfl, rfl⟩)
    go_ret2
    exact ⟨rfl, rfl⟩
  by_cases h15 : op = 15
  · subst h15
    go_enter Try.func58, Try.ntmps58
    go_wp2_with (go_at_call 57; refine (bit_any _ _).mono ?_; rintro e w' ⟨rfl, rfl⟩)
    go_ret2
    exact ⟨rfl, rfl⟩
  have hV : cmpV op a b = 0 := by simp [cmpV, h10, h11, h12, h13, h14, h15]
  have hB : cmpB op = false := by simp [cmpB]; omega
  rw [hV, hB]
  clear hV hB
  go_enter Try.func58, Try.ntmps58
  go_wp2
  go_ret2
  exact ⟨rfl, rfl⟩
theorem div_any (op a b : Int) (w : World) (ha : -9223372036854775808 ≤ a ∧ a ≤ 9223372036854775807) (hb : -9223372036854775808 ≤ b ∧ b ≤ 9223372036854775807) (ho : op = 6 ∨ op = 7) :
    Calls Try.prog 56 #[.int .i64 op, .int .i64 a, .int .i64 b] w fun e w' => e = .returned (.tuple #[.int .i64 (divV op a b), .bool (divB b)]) ∧ w = w' := by
  by_cases h0 : b = 0
  · subst h0
    go_enter Try.func56, Try.ntmps56
    go_wp2
    go_ret2
    exact ⟨rfl, rfl⟩
  have hB : divB b = true := by simp [divB, h0]
  by_cases h1 : b = -1
  · subst h1
    rcases ho with rfl | rfl
    · by_cases hm : a = -9223372036854775808
      · subst hm
        go_enter Try.func56, Try.ntmps56
        go_wp2
        go_ret2
        exact ⟨ret2 (show (-9223372036854775808 : Int) = divV 6 (-9223372036854775808) (-1) by decide +kernel) rfl, rfl⟩
      · have hV : divV 6 a (-1) = 0 - a := by
          simp only [divV, Int.tdiv_neg, Int.tdiv_one, wrap64]
          rw [if_neg (by decide), if_neg (by decide)]
          omega
        rw [hV]; clear hV hB
        go_enter Try.func56, Try.ntmps56
        go_wp2
        go_ret2
        exact ⟨by simp [divB], rfl⟩
    · have hV : divV 7 a (-1) = 0 := by
        simp [divV, Int.tmod_neg, Int.tmod_one]
      rw [hV]; clear hV hB
      go_enter Try.func56, Try.ntmps56
      go_wp2
      go_ret2
      exact ⟨by simp [divB], rfl⟩
  have b0 : (b == 0) = false := by simp [h0]
  have b1 : (b == -1) = false := by simp [h1]
  rcases ho with rfl | rfl
  · have hV : divV 6 a b = wrap64 (a.tdiv b) := by simp [divV, h0]
    rw [hV, hB]; clear hV hB
    go_enter Try.func56, Try.ntmps56
    go_wp2
    go_ret2
    exact ⟨rfl, rfl⟩
  · have hV : divV 7 a b = a.tmod b := by simp [divV, h0]
    rw [hV, hB]; clear hV hB
    go_enter Try.func56, Try.ntmps56
    go_wp2
    go_ret2
    exact ⟨rfl, rfl⟩
theorem one_any (op a : Int) (w : World) : Calls Try.prog 94 #[.int .i64 op, .int .i64 a] w fun e w' => e = .returned (.tuple #[.int .i64 (oneV op a), .bool (oneB op)]) ∧ w = w' := by
  by_cases h3 : op = 3
  · subst h3
    go_enter Try.func94, Try.ntmps94
    go_wp2_with (go_at_call 57; refine (bit_any _ _).mono ?_; rintro e w' ⟨rfl, rfl⟩)
    go_ret2
    exact ⟨rfl, rfl⟩
  by_cases h4 : op = 4
  · subst h4
    go_enter Try.func94, Try.ntmps94
    go_wp2_with (go_at_call 57; refine (bit_any _ _).mono ?_; rintro e w' ⟨rfl, rfl⟩)
    go_ret2
    exact ⟨rfl, rfl⟩
  have hV : oneV op a = 0 := by simp [oneV, h3, h4]
  have hB : oneB op = false := by simp [oneB, h3, h4]
  rw [hV, hB]; clear hV hB
  go_enter Try.func94, Try.ntmps94
  go_wp2
  go_ret2
  exact ⟨rfl, rfl⟩
theorem two_any (op a b : Int) (w : World) (ha : -9223372036854775808 ≤ a ∧ a ≤ 9223372036854775807) (hb : -9223372036854775808 ≤ b ∧ b ≤ 9223372036854775807) :
    Calls Try.prog 24 #[.int .i64 op, .int .i64 a, .int .i64 b] w fun e w' => e = .returned (.tuple #[.int .i64 (twoV op a b), .bool (twoB op b)]) ∧ w = w' := by
  by_cases h8 : op = 8
  · subst h8
    go_enter Try.func24, Try.ntmps24
    go_wp2_with fail
    go_ret2
    exact ⟨rfl, rfl⟩
  by_cases h9 : op = 9
  · subst h9
    go_enter Try.func24, Try.ntmps24
    go_wp2_with fail
    go_ret2
    exact ⟨rfl, rfl⟩
  by_cases h5 : op = 5
  · subst h5
    go_enter Try.func24, Try.ntmps24
    go_wp2_with fail
    go_ret2
    exact ⟨rfl, rfl⟩
  by_cases h67 : op = 6 ∨ op = 7
  · have hV : twoV op a b = divV op a b := by unfold twoV; rw [if_neg h8, if_neg h9, if_neg h5, if_pos h67]
    have hB : twoB op b = divB b := by unfold twoB; rw [if_neg h8, if_neg h9, if_neg h5, if_pos h67]
    rw [hV, hB]; clear hV hB
    have hd := fun w => div_any op a b w ha hb h67
    have Hd := Lib.hid hd; clear hd
    rcases h67 with rfl | rfl
    all_goals
      clear h8 h9 h5 ha hb
      go_enter Try.func24, Try.ntmps24
      go_wp2_with (go_at_call 56; refine (Hd.out _).mono ?_; rintro e w' ⟨rfl, rfl⟩)
      go_ret2
      exact ⟨rfl, rfl⟩
  by_cases h16 : op = 16
  · subst h16
    by_cases ha0 : (a != 0) = false
    · have hv : (a != 0 && b != 0) = false := by rw [ha0]; rfl
      have hV : twoV 16 a b = bitI (a != 0 && b != 0) := rfl
      rw [hV, hv]; clear hV hv h8 h9 h5 h67
      go_enter Try.func24, Try.ntmps24
      go_wp2_with (go_at_call 57; refine (bit_any _ _).mono ?_; rintro e w' ⟨rfl, rfl⟩)
      go_ret2
      exact ⟨rfl, rfl⟩
    · have ha1 : (a != 0) = true := by simpa using ha0
      have hv : (a != 0 && b != 0) = (b != 0) := by rw [ha1]; rfl
      have hV : twoV 16 a b = bitI (a != 0 && b != 0) := rfl
      rw [hV, hv]; clear hV hv h8 h9 h5 h67 ha0
      go_enter Try.func24, Try.ntmps24
      go_wp2_with (go_at_call 57; refine (bit_any _ _).mono ?_; rintro e w' ⟨rfl, rfl⟩)
      go_ret2
      exact ⟨rfl, rfl⟩
  by_cases h17 : op = 17
  · subst h17
    by_cases ha0 : (a != 0) = true
    · have hv : (a != 0 || b != 0) = true := by rw [ha0]; rfl
      have hV : twoV 17 a b = bitI (a != 0 || b != 0) := rfl
      rw [hV, hv]; clear hV hv h8 h9 h5 h67
      go_enter Try.func24, Try.ntmps24
      go_wp2_with (go_at_call 57; refine (bit_any _ _).mono ?_; rintro e w' ⟨rfl, rfl⟩)
      go_ret2
      exact ⟨rfl, rfl⟩
    · have ha1 : (a != 0) = false := by simpa using ha0
      have hv : (a != 0 || b != 0) = (b != 0) := by rw [ha1]; rfl
      have hV : twoV 17 a b = bitI (a != 0 || b != 0) := rfl
      rw [hV, hv]; clear hV hv h8 h9 h5 h67 ha0
      go_enter Try.func24, Try.ntmps24
      go_wp2_with (go_at_call 57; refine (bit_any _ _).mono ?_; rintro e w' ⟨rfl, rfl⟩)
      go_ret2
      exact ⟨rfl, rfl⟩
  have hV : twoV op a b = cmpV op a b := by unfold twoV; rw [if_neg h8, if_neg h9, if_neg h5, if_neg h67, if_neg h16, if_neg h17]
  have hB : twoB op b = cmpB op := by unfold twoB; rw [if_neg h8, if_neg h9, if_neg h5, if_neg h67, if_neg h16, if_neg h17]
  rw [hV, hB]; clear hV hB
  have h6 : op ≠ 6 := fun h => h67 (.inl h)
  have h7 : op ≠ 7 := fun h => h67 (.inr h)
  clear h67
  go_enter Try.func24, Try.ntmps24
  go_wp2_with (go_at_call 58; refine (cmp_any _ _ _ _).mono ?_; rintro e w' ⟨rfl, rfl⟩)
  go_ret2
  exact ⟨rfl, rfl⟩
end Go.Proofs.Ytnbclbphggmenaa.Wd
