/- Plain definitions: what the reckoning of one and of two numbers of 64 bits comes to. No program. Conditions: none.
   What the Go functions word.bit, word.divide, word.compare, word.One, word.Two, word.Truth compute, walked once each. Conditions: the numbers fit 64 bits.
   Plain laws of numbers of 64 bits. Conditions: none.
   Plain laws of reckoning modulo 2^64. No program. Conditions: none.
   What the Go functions of the reference that reckon with halves and bits compute (low, high, add, turned, mul, div, size, quotient, less, compare, One, Two). Conditions: the numbers fit 64 bits.
   What the Go functions of the reference quotient, truth, less, compare, One, Two compute. Conditions: the numbers fit 64 bits.
   What the Go functions One and Two of the reference compute: the same as those of the program. Conditions: the numbers fit 64 bits. -/
import Derived.WalkKit
import Derived.Test.YtnbclbphggmenaaRows
import Derived.WalkSpells
import Derived.Lib.Hide
import Derived.Below
import Derived.Laws.BitsAllLaws
section
namespace Go.Proofs.Ytnbclbphggmenaa.Wd
open Go.RowKit
def bitI (b : Bool) : Int := if b then 1 else 0
def oneV (op a : Int) : Int := if op = 3 then wrap64 (-a) else if op = 4 then bitI (a == 0) else 0
def oneB (op : Int) : Bool := op == 3 || op == 4
def cmpV (op a b : Int) : Int :=
  if op = 10 then bitI (decide (a < b)) else if op = 11 then bitI (decide (a ≤ b)) else if op = 12 then bitI (decide (b < a)) else if op = 13 then bitI (decide (b ≤ a))
  else if op = 14 then bitI (a == b) else if op = 15 then bitI (a != b) else 0
def cmpB (op : Int) : Bool := decide (10 ≤ op) && decide (op ≤ 15)
def divV (op a b : Int) : Int := if b = 0 then 0 else if op = 7 then a.tmod b else wrap64 (a.tdiv b)
def divB (b : Int) : Bool := b != 0
def twoV (op a b : Int) : Int :=
  if op = 8 then wrap64 (a + b) else if op = 9 then wrap64 (a - b) else if op = 5 then wrap64 (a * b)
  else if op = 6 ∨ op = 7 then divV op a b else if op = 16 then bitI (a != 0 && b != 0) else if op = 17 then bitI (a != 0 || b != 0) else cmpV op a b
def twoB (op b : Int) : Bool :=
  if op = 8 then true else if op = 9 then true else if op = 5 then true
  else if op = 6 ∨ op = 7 then divB b else if op = 16 then true else if op = 17 then true else cmpB op
end Go.Proofs.Ytnbclbphggmenaa.Wd
end
section
namespace Go.Proofs.Ytnbclbphggmenaa.Wd
open Go.RowKit
theorem ret2 {a c : Int} {b d : Bool} (h : a = c) (k : b = d) : Ending.returned (.tuple #[.int .i64 a, .bool b]) = .returned (.tuple #[.int .i64 c, .bool d]) := by rw [h, k]
theorem truth_any (a : Int) (w : World) : Calls Try.prog 23 #[.int .i64 a] w fun e w' => e = .returned (.bool (a != 0)) ∧ w = w' := by
  go_enter Try.func23, Try.ntmps23
  go_wp2
  go_ret
  exact ⟨rfl, rfl⟩
theorem bit_any (b : Bool) (w : World) : Calls Try.prog 57 #[.bool b] w fun e w' => e = .returned (.int .i64 (bitI b)) ∧ w = w' := by
  cases b
  all_goals
    go_enter Try.func57, Try.ntmps57
    go_wp2
    go_ret
    exact ⟨rfl, rfl⟩
theorem cmp_any (op a b : Int) (w : World) : Calls Try.prog 58 #[.int .i64 op, .int .i64 a, .int .i64 b] w fun e w' => e = .returned (.tuple #[.int .i64 (cmpV op a b), .bool (cmpB op)]) ∧ w = w' := by
  by_cases h10 : op = 10
  · subst h10
    go_enter Try.func58, Try.ntmps58
    go_wp2_with (go_at_call 57; refine (bit_any _ _).mono ?_; rintro e w' ⟨rfl, rfl⟩)
    go_ret2
    exact ⟨rfl, rfl⟩
  by_cases h11 : op = 11
  · subst h11
    go_enter Try.func58, Try.ntmps58
    go_wp2_with (go_at_call 57; refine (bit_any _ _).mono ?_; rintro e w' ⟨rfl, rfl⟩)
    go_ret2
    exact ⟨rfl, rfl⟩
  by_cases h12 : op = 12
  · subst h12
    go_enter Try.func58, Try.ntmps58
    go_wp2_with (go_at_call 57; refine (bit_any _ _).mono ?_; rintro e w' ⟨rfl, rfl⟩)
    go_ret2
    exact ⟨rfl, rfl⟩
  by_cases h13 : op = 13
  · subst h13
    go_enter Try.func58, Try.ntmps58
    go_wp2_with (go_at_call 57; refine (bit_any _ _).mono ?_; rintro e w' ⟨rfl, rfl⟩)
    go_ret2
    exact ⟨rfl, rfl⟩
  by_cases h14 : op = 14
  · subst h14
    go_enter Try.func58, Try.ntmps58
    go_wp2_with (go_at_call 57; refine (bit_any _ _).mono ?_; rintro e w' ⟨rfl, rfl⟩)
    go_ret2
    exact ⟨rfl, rfl⟩
  by_cases h15 : op = 15
  · subst h15
    go_enter Try.func58, Try.ntmps58
    go_wp2_with (go_at_call 57; refine (bit_any _ _).mono ?_; rintro e w' ⟨rfl, rfl⟩)
    go_ret2
    exact ⟨rfl, rfl⟩
  have hV : cmpV op a b = 0 := by simp [cmpV, h10, h11, h12, h13, h14, h15]
  have hB : cmpB op = false := by simp [cmpB]; omega
  rw [hV, hB]
  clear hV hB
  go_enter Try.func58, Try.ntmps58
  go_wp2
  go_ret2
  exact ⟨rfl, rfl⟩
theorem div_any (op a b : Int) (w : World) (ha : -9223372036854775808 ≤ a ∧ a ≤ 9223372036854775807) (hb : -9223372036854775808 ≤ b ∧ b ≤ 9223372036854775807) (ho : op = 6 ∨ op = 7) :
    Calls Try.prog 56 #[.int .i64 op, .int .i64 a, .int .i64 b] w fun e w' => e = .returned (.tuple #[.int .i64 (divV op a b), .bool (divB b)]) ∧ w = w' := by
  by_cases h0 : b = 0
  · subst h0
    go_enter Try.func56, Try.ntmps56
    go_wp2
    go_ret2
    exact ⟨rfl, rfl⟩
  have hB : divB b = true := by simp [divB, h0]
  by_cases h1 : b = -1
  · subst h1
    rcases ho with rfl | rfl
    · by_cases hm : a = -9223372036854775808
      · subst hm
        go_enter Try.func56, Try.ntmps56
        go_wp2
        go_ret2
        exact ⟨ret2 (show (-9223372036854775808 : Int) = divV 6 (-9223372036854775808) (-1) by decide +kernel) rfl, rfl⟩
      · have hV : divV 6 a (-1) = 0 - a := by
          simp only [divV, Int.tdiv_neg, Int.tdiv_one, wrap64]
          rw [if_neg (by decide), if_neg (by decide)]
          omega
        rw [hV]; clear hV hB
        go_enter Try.func56, Try.ntmps56
        go_wp2
        go_ret2
        exact ⟨by simp [divB], rfl⟩
    · have hV : divV 7 a (-1) = 0 := by
        simp [divV, Int.tmod_neg, Int.tmod_one]
      rw [hV]; clear hV hB
      go_enter Try.func56, Try.ntmps56
      go_wp2
      go_ret2
      exact ⟨by simp [divB], rfl⟩
  have b0 : (b == 0) = false := by simp [h0]
  have b1 : (b == -1) = false := by simp [h1]
  rcases ho with rfl | rfl
  · have hV : divV 6 a b = wrap64 (a.tdiv b) := by simp [divV, h0]
    rw [hV, hB]; clear hV hB
    go_enter Try.func56, Try.ntmps56
    go_wp2
    go_ret2
    exact ⟨rfl, rfl⟩
  · have hV : divV 7 a b = a.tmod b := by simp [divV, h0]
    rw [hV, hB]; clear hV hB
    go_enter Try.func56, Try.ntmps56
    go_wp2
    go_ret2
    exact ⟨rfl, rfl⟩
theorem one_any (op a : Int) (w : World) : Calls Try.prog 94 #[.int .i64 op, .int .i64 a] w fun e w' => e = .returned (.tuple #[.int .i64 (oneV op a), .bool (oneB op)]) ∧ w = w' := by
  by_cases h3 : op = 3
  · subst h3
    go_enter Try.func94, Try.ntmps94
    go_wp2_with (go_at_call 57; refine (bit_any _ _).mono ?_; rintro e w' ⟨rfl, rfl⟩)
    go_ret2
    exact ⟨rfl, rfl⟩
  by_cases h4 : op = 4
  · subst h4
    go_enter Try.func94, Try.ntmps94
    go_wp2_with (go_at_call 57; refine (bit_any _ _).mono ?_; rintro e w' ⟨rfl, rfl⟩)
    go_ret2
    exact ⟨rfl, rfl⟩
  have hV : oneV op a = 0 := by simp [oneV, h3, h4]
  have hB : oneB op = false := by simp [oneB, h3, h4]
  rw [hV, hB]; clear hV hB
  go_enter Try.func94, Try.ntmps94
  go_wp2
  go_ret2
  exact ⟨rfl, rfl⟩
theorem two_any (op a b : Int) (w : World) (ha : -9223372036854775808 ≤ a ∧ a ≤ 9223372036854775807) (hb : -9223372036854775808 ≤ b ∧ b ≤ 9223372036854775807) :
    Calls Try.prog 24 #[.int .i64 op, .int .i64 a, .int .i64 b] w fun e w' => e = .returned (.tuple #[.int .i64 (twoV op a b), .bool (twoB op b)]) ∧ w = w' := by
  by_cases h8 : op = 8
  · subst h8
    go_enter Try.func24, Try.ntmps24
    go_wp2_with fail
    go_ret2
    exact ⟨rfl, rfl⟩
  by_cases h9 : op = 9
  · subst h9
    go_enter Try.func24, Try.ntmps24
    go_wp2_with fail
    go_ret2
    exact ⟨rfl, rfl⟩
  by_cases h5 : op = 5
  · subst h5
    go_enter Try.func24, Try.ntmps24
    go_wp2_with fail
    go_ret2
    exact ⟨rfl, rfl⟩
  by_cases h67 : op = 6 ∨ op = 7
  · have hV : twoV op a b = divV op a b := by unfold twoV; rw [if_neg h8, if_neg h9, if_neg h5, if_pos h67]
    have hB : twoB op b = divB b := by unfold twoB; rw [if_neg h8, if_neg h9, if_neg h5, if_pos h67]
    rw [hV, hB]; clear hV hB
    have hd := fun w => div_any op a b w ha hb h67
    have Hd := Lib.hid hd; clear hd
    rcases h67 with rfl | rfl
    all_goals
      clear h8 h9 h5 ha hb
      go_enter Try.func24, Try.ntmps24
      go_wp2_with (go_at_call 56; refine (Hd.out _).mono ?_; rintro e w' ⟨rfl, rfl⟩)
      go_ret2
      exact ⟨rfl, rfl⟩
  by_cases h16 : op = 16
  · subst h16
    by_cases ha0 : (a != 0) = false
    · have hv : (a != 0 && b != 0) = false := by rw [ha0]; rfl
      have hV : twoV 16 a b = bitI (a != 0 && b != 0) := rfl
      rw [hV, hv]; clear hV hv h8 h9 h5 h67
      go_enter Try.func24, Try.ntmps24
      go_wp2_with (go_at_call 57; refine (bit_any _ _).mono ?_; rintro e w' ⟨rfl, rfl⟩)
      go_ret2
      exact ⟨rfl, rfl⟩
    · have ha1 : (a != 0) = true := by simpa using ha0
      have hv : (a != 0 && b != 0) = (b != 0) := by rw [ha1]; rfl
      have hV : twoV 16 a b = bitI (a != 0 && b != 0) := rfl
      rw [hV, hv]; clear hV hv h8 h9 h5 h67 ha0
      go_enter Try.func24, Try.ntmps24
      go_wp2_with (go_at_call 57; refine (bit_any _ _).mono ?_; rintro e w' ⟨rfl, rfl⟩)
      go_ret2
      exact ⟨rfl, rfl⟩
  by_cases h17 : op = 17
  · subst h17
    by_cases ha0 : (a != 0) = true
    · have hv : (a != 0 || b != 0) = true := by rw [ha0]; rfl
      have hV : twoV 17 a b = bitI (a != 0 || b != 0) := rfl
      rw [hV, hv]; clear hV hv h8 h9 h5 h67
      go_enter Try.func24, Try.ntmps24
      go_wp2_with (go_at_call 57; refine (bit_any _ _).mono ?_; rintro e w' ⟨rfl, rfl⟩)
      go_ret2
      exact ⟨rfl, rfl⟩
    · have ha1 : (a != 0) = false := by simpa using ha0
      have hv : (a != 0 || b != 0) = (b != 0) := by rw [ha1]; rfl
      have hV : twoV 17 a b = bitI (a != 0 || b != 0) := rfl
      rw [hV, hv]; clear hV hv h8 h9 h5 h67 ha0
      go_enter Try.func24, Try.ntmps24
      go_wp2_with (go_at_call 57; refine (bit_any _ _).mono ?_; rintro e w' ⟨rfl, rfl⟩)
      go_ret2
      exact ⟨rfl, rfl⟩
  have hV : twoV op a b = cmpV op a b := by unfold twoV; rw [if_neg h8, if_neg h9, if_neg h5, if_neg h67, if_neg h16, if_neg h17]
  have hB : twoB op b = cmpB op := by unfold twoB; rw [if_neg h8, if_neg h9, if_neg h5, if_neg h67, if_neg h16, if_neg h17]
  rw [hV, hB]; clear hV hB
  have h6 : op ≠ 6 := fun h => h67 (.inl h)
  have h7 : op ≠ 7 := fun h => h67 (.inr h)
  clear h67
  go_enter Try.func24, Try.ntmps24
  go_wp2_with (go_at_call 58; refine (cmp_any _ _ _ _).mono ?_; rintro e w' ⟨rfl, rfl⟩)
  go_ret2
  exact ⟨rfl, rfl⟩
end Go.Proofs.Ytnbclbphggmenaa.Wd
end
section
namespace Go.Proofs.Ytnbclbphggmenaa.Wd
open Go.RowKit
theorem ret1 {k : IntKind} {a b : Int} (h : a = b) : Ending.returned (.int k a) = .returned (.int k b) := by rw [h]
theorem wrap_bd (x : Int) : -9223372036854775808 ≤ wrap64 x ∧ wrap64 x ≤ 9223372036854775807 := by unfold wrap64; omega
theorem bitI_bd (b : Bool) : 0 ≤ bitI b ∧ bitI b ≤ 1 := by cases b <;> decide
def InI (x : Int) : Prop := -9223372036854775808 ≤ x ∧ x ≤ 9223372036854775807
theorem InI_ite {c : Prop} [Decidable c] {x y : Int} (hx : InI x) (hy : InI y) : InI (if c then x else y) := by split <;> assumption
theorem InI_wrap (x : Int) : InI (wrap64 x) := wrap_bd x
theorem InI_bit (b : Bool) : InI (bitI b) := by have := bitI_bd b; unfold InI; omega
theorem InI_zero : InI 0 := by unfold InI; omega
theorem InI_tmod (a b : Int) (ha : InI a) : InI (a.tmod b) := by
  have h := Int.natAbs_tmod a b
  have h2 := Nat.mod_le a.natAbs b.natAbs
  rw [← h] at h2
  by_cases hz : 0 ≤ a
  · have := Int.tmod_nonneg b hz
    unfold InI at *
    omega
  · have h3 : (-a).tmod b = -(a.tmod b) := Int.neg_tmod a b
    have := Int.tmod_nonneg b (a := -a) (by omega)
    unfold InI at *
    omega
theorem InI_div (op a b : Int) (ha : InI a) : InI (divV op a b) := InI_ite InI_zero (InI_ite (InI_tmod _ _ ha) (InI_wrap _))
theorem InI_cmp (op a b : Int) : InI (cmpV op a b) :=
  InI_ite (InI_bit _) (InI_ite (InI_bit _) (InI_ite (InI_bit _) (InI_ite (InI_bit _) (InI_ite (InI_bit _) (InI_ite (InI_bit _) InI_zero)))))
theorem InI_two (op a b : Int) (ha : InI a) : InI (twoV op a b) :=
  InI_ite (InI_wrap _) (InI_ite (InI_wrap _) (InI_ite (InI_wrap _) (InI_ite (InI_div _ _ _ ha) (InI_ite (InI_bit _) (InI_ite (InI_bit _) (InI_cmp _ _ _))))))
theorem InI_one (op a : Int) : InI (oneV op a) := InI_ite (InI_wrap _) (InI_ite (InI_bit _) InI_zero)
theorem not64 (a : Int) (h1 : -9223372036854775808 ≤ a) (h2 : a ≤ 9223372036854775807) : bits .xor .i64 (-1) a = -1 - a := by
  have e : BitVec.ofInt 64 (-1) ^^^ BitVec.ofInt 64 a = ~~~ (BitVec.ofInt 64 a) := by
    have : BitVec.ofInt 64 (-1) = BitVec.allOnes 64 := by decide
    rw [this, BitVec.allOnes_xor]
  show IntKind.i64.wrap ((BitVec.ofInt 64 (-1) ^^^ BitVec.ofInt 64 a).toNat : Int) = _
  rw [e, BitVec.toNat_not, BitVec.toNat_ofInt, IntKind.wrap_i64]
  omega
end Go.Proofs.Ytnbclbphggmenaa.Wd
end
section
namespace Go.Proofs.Ytnbclbphggmenaa.Wd
open Go.RowKit
theorem w64 (x : Int) : wrap64 x = (x + 9223372036854775808) % 18446744073709551616 - 9223372036854775808 := by unfold wrap64; rfl
theorem wrap_eq {x y : Int} (h : x % 18446744073709551616 = y % 18446744073709551616) : wrap64 x = wrap64 y := by rw [w64, w64]; omega
theorem wrap_mod (x : Int) : wrap64 x % 18446744073709551616 = x % 18446744073709551616 := by rw [w64]; omega
theorem wrap_in {x : Int} (h : InI x) : wrap64 x = x := by unfold InI at h; rw [w64]; omega
theorem mul_l (x y : Int) : wrap64 (wrap64 x * y) = wrap64 (x * y) := wrap_eq (by rw [Int.mul_emod, wrap_mod, ← Int.mul_emod])
theorem mul_r (x y : Int) : wrap64 (x * wrap64 y) = wrap64 (x * y) := wrap_eq (by rw [Int.mul_emod, wrap_mod, ← Int.mul_emod])
theorem add_l (x y : Int) : wrap64 (wrap64 x + y) = wrap64 (x + y) := wrap_eq (by rw [Int.add_emod, wrap_mod, ← Int.add_emod])
theorem add_r (x y : Int) : wrap64 (x + wrap64 y) = wrap64 (x + y) := wrap_eq (by rw [Int.add_emod, wrap_mod, ← Int.add_emod])
theorem sub_l (x y : Int) : wrap64 (wrap64 x - y) = wrap64 (x - y) := wrap_eq (by rw [Int.sub_emod, wrap_mod, ← Int.sub_emod])
theorem neg_w (x : Int) : wrap64 (-(wrap64 x)) = wrap64 (-x) := wrap_eq (by have := wrap_mod x; omega)
theorem t8 (a b : Int) : twoV 8 a b = wrap64 (a + b) := rfl
theorem t9 (a b : Int) : twoV 9 a b = wrap64 (a - b) := rfl
theorem t5 (a b : Int) : twoV 5 a b = wrap64 (a * b) := rfl
theorem o3 (a : Int) : oneV 3 a = wrap64 (-a) := rfl
end Go.Proofs.Ytnbclbphggmenaa.Wd
end
section
namespace Go.Proofs.Ytnbclbphggmenaa.Wd
open Go.RowKit
theorem and_low (a : Int) (h0 : 0 ≤ a) (h1 : a < 18446744073709551616) : bits .and .u64 a 4294967295 = a % 4294967296 := by
  obtain ⟨n, rfl⟩ := Int.eq_ofNat_of_zero_le h0
  have := u64_and_nat n 4294967295 (by omega) (by omega)
  rw [Nat.and_two_pow_sub_one_eq_mod n 32] at this
  exact this
theorem low_any (a : Int) (w : World) (h0 : 0 ≤ a) (h1 : a < 18446744073709551616) : Calls Try.prog 130 #[.int .u64 a] w fun e w' => e = .returned (.int .u64 (a % 4294967296)) ∧ w = w' := by
  have e := and_low a h0 h1
  go_enter Try.func130, Try.ntmps130
  go_wp2
  go_ret
  exact ⟨rfl, rfl⟩
theorem high_any (a : Int) (w : World) : Calls Try.prog 131 #[.int .u64 a] w fun e w' => e = .returned (.int .u64 (a / 4294967296)) ∧ w = w' := by
  go_enter Try.func131, Try.ntmps131
  go_wp2
  go_ret
  exact ⟨rfl, rfl⟩
theorem or_join (x y : Int) (h0 : 0 ≤ x) (hx : x % 4294967296 = 0) (hx2 : x < 18446744073709551616) (hy0 : 0 ≤ y) (hy : y < 4294967296) : bits .or .u64 x y = x + y := by
  obtain ⟨n, rfl⟩ := Int.eq_ofNat_of_zero_le h0
  obtain ⟨m, rfl⟩ := Int.eq_ofNat_of_zero_le hy0
  rw [u64_or_nat n m (by omega) (by omega), nat_join 32 n m (by omega) (by omega)]
  rfl
theorem add_any (a b : Int) (w : World) (ha0 : 0 ≤ a) (ha : a < 18446744073709551616) (hb0 : 0 ≤ b) (hb : b < 18446744073709551616) :
    Calls Try.prog 119 #[.int .u64 a, .int .u64 b] w fun e w' => e = .returned (.int .u64 ((a + b) % 18446744073709551616)) ∧ w = w' := by
  go_enter Try.func119, Try.ntmps119
  go_wp2_with (first | (go_at_call 130; refine (low_any _ _ (by omega) (by omega)).mono ?_; rintro e w' ⟨rfl, rfl⟩) | (go_at_call 131; refine (high_any _ _).mono ?_; rintro e w' ⟨rfl, rfl⟩))
  go_ret
  refine ⟨ret1 ?_, rfl⟩
  refine (or_join _ _ ?_ ?_ ?_ ?_ ?_).trans ?_
  all_goals omega
theorem notu64 (a : Int) (h0 : 0 ≤ a) (h1 : a < 18446744073709551616) : bits .xor .u64 18446744073709551615 a = 18446744073709551615 - a := by
  obtain ⟨n, rfl⟩ := Int.eq_ofNat_of_zero_le h0
  have e : BitVec.ofInt 64 18446744073709551615 ^^^ BitVec.ofInt 64 (n : Int) = ~~~ (BitVec.ofInt 64 (n : Int)) := by
    have : BitVec.ofInt 64 18446744073709551615 = BitVec.allOnes 64 := by decide
    rw [this, BitVec.allOnes_xor]
  show IntKind.u64.wrap ((BitVec.ofInt 64 18446744073709551615 ^^^ BitVec.ofInt 64 (n : Int)).toNat : Int) = _
  rw [e, BitVec.toNat_not, BitVec.toNat_ofInt, IntKind.wrap_u64]
  omega
theorem turned_any (a : Int) (w : World) (h0 : 0 ≤ a) (h1 : a < 18446744073709551616) : Calls Try.prog 117 #[.int .u64 a] w fun e w' => e = .returned (.int .u64 ((-a) % 18446744073709551616)) ∧ w = w' := by
  have e : bits .xor .u64 IntKind.u64.max a = 18446744073709551615 - a := notu64 a h0 h1
  have hs : IntKind.u64.signed = false := rfl
  go_enter Try.func117, Try.ntmps117
  go_wp2_with (go_at_call 119; refine (add_any _ _ _ (by omega) (by omega) (by omega) (by omega)).mono ?_; rintro e w' ⟨rfl, rfl⟩)
  go_ret
  exact ⟨ret1 (by omega), rfl⟩
theorem and_one (x : Int) (h0 : 0 ≤ x) (h1 : x < 18446744073709551616) : bits .and .u64 x 1 = x % 2 := by
  obtain ⟨n, rfl⟩ := Int.eq_ofNat_of_zero_le h0
  have := u64_and_nat n 1 (by omega) (by omega)
  rw [nat_mask1] at this
  exact this
theorem pow_pos' (k : Nat) : (0 : Int) < 2 ^ k := Int.pow_pos (by decide)
theorem shr_bd (b : Int) (k : Nat) (hb0 : 0 ≤ b) : 0 ≤ b / 2 ^ k ∧ b / 2 ^ k ≤ b := ⟨Int.ediv_nonneg hb0 (Int.le_of_lt (pow_pos' k)), Int.ediv_le_self _ hb0⟩
theorem mod_succ (b : Int) (k : Nat) : b % 2 ^ (k + 1) = b % 2 ^ k + 2 ^ k * (b / 2 ^ k % 2) := by
  have hp := pow_pos' k
  have e : b / 2 ^ k / 2 = b / (2 ^ k * 2) := Int.ediv_ediv_of_nonneg (Int.le_of_lt hp)
  rw [Int.pow_succ, Int.emod_def b (2 ^ k * 2), Int.emod_def b (2 ^ k), Int.emod_def (b / 2 ^ k) 2, e, Int.mul_sub, Int.mul_assoc]
  omega
def mulTo (a b : Int) (i : Nat) : Int := (a * (b % 2 ^ i)) % 18446744073709551616
theorem mulTo_bd (a b : Int) (i : Nat) : 0 ≤ mulTo a b i ∧ mulTo a b i < 18446744073709551616 := by unfold mulTo; omega
theorem mulTo_one (a b : Int) (k : Nat) (h : b / 2 ^ k % 2 = 1) : (mulTo a b k + IntKind.u64.wrap (a * 2 ^ k)) % 18446744073709551616 = mulTo a b (k + 1) := by
  rw [IntKind.wrap_u64]
  unfold mulTo
  rw [← Int.add_emod, mod_succ, h, Int.mul_one, Int.mul_add]
theorem mulTo_zero (a b : Int) (k : Nat) (h : b / 2 ^ k % 2 = 0) : mulTo a b k = mulTo a b (k + 1) := by
  unfold mulTo
  rw [mod_succ, h, Int.mul_zero, Int.add_zero]
theorem mulTo_all (a b : Int) (hb0 : 0 ≤ b) (hb : b < 18446744073709551616) : mulTo a b 64 = (a * b) % 18446744073709551616 := by
  unfold mulTo
  rw [Int.emod_eq_of_lt hb0 (by simpa using hb)]
theorem wrapu_bd (x : Int) : 0 ≤ IntKind.u64.wrap x ∧ IntKind.u64.wrap x < 18446744073709551616 := by rw [IntKind.wrap_u64]; omega
theorem mul_any (a b : Int) (w : World) (hb0 : 0 ≤ b) (hb : b < 18446744073709551616) :
    Calls Try.prog 120 #[.int .u64 a, .int .u64 b] w fun e w' => e = .returned (.int .u64 ((a * b) % 18446744073709551616)) ∧ w = w' := by
  rw [← mulTo_all a b hb0 hb]
  go_enter Try.func120, Try.ntmps120
  go_wp2_with fail
  go_loop [5, 6] (fun s i => ∃ k : Nat, k ≤ 64 ∧ i = .int .i64 k ∧ s = .int .u64 (mulTo a b k)) (fun _ i => (64 - intOf i).toNat)
  case atStart => exact ⟨0, by omega, rfl, by simp [mulTo, Int.emod_one]⟩
  case round =>
    obtain ⟨k, hk, rfl, rfl⟩ := hrel
    by_cases hlt : k < 64
    · have hs := shr_bd b k hb0
      have hand := and_one (b / 2 ^ k) hs.1 (by omega)
      clear hs
      by_cases h1 : b / 2 ^ k % 2 = 1
      · have hb1 : (b / 2 ^ k % 2 == 1) = true := by simp [h1]
        have H := Lib.hid (mulTo_one a b k h1)
        have m1 := mulTo_bd a b k
        have m2 := wrapu_bd (a * 2 ^ k)
        clear h1
        go_wp2_with (go_at_call 119; refine (add_any _ _ _ m1.1 m1.2 m2.1 m2.2).mono ?_; rintro e w' ⟨rfl, rfl⟩)
        go_round
        case rel => exact ⟨k + 1, by omega, by go_num, by rw [H.out]⟩
        case measure => simp [intOf]; omega
      · have hb1 : (b / 2 ^ k % 2 == 1) = false := by simp [h1]
        have H := Lib.hid (mulTo_zero a b k (by omega))
        clear h1
        go_wp2
        go_round
        case rel => exact ⟨k + 1, by omega, by go_num, by rw [H.out]⟩
        case measure => simp [intOf]; omega
    · obtain rfl : k = 64 := by omega
      go_wp2
      go_ret
      exact ⟨rfl, rfl⟩
def qTo (a b : Int) (m : Nat) : Int := a / 2 ^ m / b * 2 ^ m
def rTo (a b : Int) (m : Nat) : Int := a / 2 ^ m % b
def xTo (a b : Int) (k : Nat) : Int := IntKind.u64.wrap (rTo a b (k + 1) * 2) + a / 2 ^ k % 2
theorem rTo_bd (a b : Int) (m : Nat) (hb0 : 0 < b) : 0 ≤ rTo a b m ∧ rTo a b m < b := ⟨Int.emod_nonneg _ (by omega), Int.emod_lt_of_pos _ hb0⟩
theorem half (a : Int) (k : Nat) : a / 2 ^ (k + 1) = a / 2 ^ k / 2 := by rw [Int.pow_succ, Int.ediv_ediv_of_nonneg (Int.le_of_lt (pow_pos' k))]
theorem two_step (a b : Int) (k : Nat) : 2 * rTo a b (k + 1) + a / 2 ^ k % 2 = a / 2 ^ k - b * (2 * (a / 2 ^ (k + 1) / b)) := by
  have h1 := Int.emod_def (a / 2 ^ (k + 1)) b
  have h2 := half a k
  unfold rTo
  rw [h1, Int.mul_left_comm]
  omega
theorem div_of {x b q r : Int} (h : x = b * q + r) (h0 : 0 ≤ r) (h1 : r < b) : x / b = q ∧ x % b = r := by
  have hb : 0 < b := by omega
  constructor
  · rw [h, Int.add_comm, Int.add_mul_ediv_left _ _ (by omega), Int.ediv_eq_zero_of_lt h0 h1, Int.zero_add]
  · rw [h, Int.add_comm, Int.add_mul_emod_self_left, Int.emod_eq_of_lt h0 h1]
theorem less_bit (a : Int) (k : Nat) : 0 ≤ a / 2 ^ k % 2 ∧ a / 2 ^ k % 2 < 2 := by omega
theorem reduce_yes (a b : Int) (k : Nat) (hb0 : 0 < b) (h : b ≤ 2 * rTo a b (k + 1) + a / 2 ^ k % 2) :
    rTo a b k = 2 * rTo a b (k + 1) + a / 2 ^ k % 2 - b ∧ a / 2 ^ k / b = 2 * (a / 2 ^ (k + 1) / b) + 1 := by
  have h1 := two_step a b k
  have h2 := rTo_bd a b (k + 1) hb0
  have h3 := less_bit a k
  have := div_of (x := a / 2 ^ k) (b := b) (q := 2 * (a / 2 ^ (k + 1) / b) + 1) (r := 2 * rTo a b (k + 1) + a / 2 ^ k % 2 - b) (by rw [Int.mul_add, Int.mul_one]; omega) (by omega) (by omega)
  exact ⟨this.2, this.1⟩
theorem reduce_no (a b : Int) (k : Nat) (hb0 : 0 < b) (h : 2 * rTo a b (k + 1) + a / 2 ^ k % 2 < b) :
    rTo a b k = 2 * rTo a b (k + 1) + a / 2 ^ k % 2 ∧ a / 2 ^ k / b = 2 * (a / 2 ^ (k + 1) / b) := by
  have h1 := two_step a b k
  have h2 := rTo_bd a b (k + 1) hb0
  have h3 := less_bit a k
  have := div_of (x := a / 2 ^ k) (b := b) (q := 2 * (a / 2 ^ (k + 1) / b)) (r := 2 * rTo a b (k + 1) + a / 2 ^ k % 2) (by omega) (by omega) (by omega)
  exact ⟨this.2, this.1⟩
theorem xTo_is (a b : Int) (k : Nat) (hb0 : 0 < b) (hb : b < 18446744073709551616) :
    (rTo a b (k + 1) / 9223372036854775808 = 1 ∧ xTo a b k = 2 * rTo a b (k + 1) + a / 2 ^ k % 2 - 18446744073709551616) ∨ (rTo a b (k + 1) / 9223372036854775808 ≠ 1 ∧ xTo a b k = 2 * rTo a b (k + 1) + a / 2 ^ k % 2) := by
  have h2 := rTo_bd a b (k + 1) hb0
  have h3 := less_bit a k
  unfold xTo
  rw [IntKind.wrap_u64]
  omega
theorem or_bit (x y : Int) (h0 : 0 ≤ x) (hx : x % 2 = 0) (hx2 : x < 18446744073709551616) (hy0 : 0 ≤ y) (hy : y < 2) : bits .or .u64 x y = x + y := by
  obtain ⟨n, rfl⟩ := Int.eq_ofNat_of_zero_le h0
  obtain ⟨m, rfl⟩ := Int.eq_ofNat_of_zero_le hy0
  rw [u64_or_nat n m (by omega) (by omega), nat_join 1 n m (by omega) (by omega)]
  rfl
theorem or_x (a b : Int) (k : Nat) : bits .or .u64 (IntKind.u64.wrap (rTo a b (k + 1) * 2)) (a / 2 ^ k % 2) = xTo a b k := by
  have h3 := less_bit a k
  have h4 := wrapu_bd (rTo a b (k + 1) * 2)
  exact or_bit _ _ h4.1 (by rw [IntKind.wrap_u64]; omega) h4.2 h3.1 h3.2
theorem qTo_bd (a b : Int) (m : Nat) (ha0 : 0 ≤ a) (hb0 : 0 < b) : 0 ≤ qTo a b m ∧ qTo a b m ≤ a := by
  have hp := pow_pos' m
  have h1 := Int.ediv_nonneg ha0 (Int.le_of_lt hp)
  have h2 := Int.ediv_nonneg h1 (Int.le_of_lt hb0)
  have h3 := Int.ediv_le_self b h1
  have h4 := Int.ediv_mul_le a (show (2 : Int) ^ m ≠ 0 by omega)
  exact ⟨Int.mul_nonneg h2 (Int.le_of_lt hp), Int.le_trans (Int.mul_le_mul_of_nonneg_right h3 (Int.le_of_lt hp)) h4⟩
theorem or_q (a b : Int) (k : Nat) (ha0 : 0 ≤ a) (ha : a < 18446744073709551616) (hb0 : 0 < b) (hk : k < 64) : bits .or .u64 (qTo a b (k + 1)) (IntKind.u64.wrap (2 ^ k)) = qTo a b (k + 1) + 2 ^ k := by
  have hq := qTo_bd a b (k + 1) ha0 hb0
  have hp := pow_pos' k
  have hlt : (2 : Nat) ^ k < 2 ^ 64 := Nat.pow_lt_pow_right (by omega) hk
  have hz : 0 ≤ a / 2 ^ (k + 1) / b := Int.ediv_nonneg (Int.ediv_nonneg ha0 (Int.le_of_lt (pow_pos' _))) (Int.le_of_lt hb0)
  obtain ⟨n, hn⟩ := Int.eq_ofNat_of_zero_le hz
  have e1 : qTo a b (k + 1) = ((n * 2 ^ (k + 1) : Nat) : Int) := by unfold qTo; rw [hn]; simp
  have e2 : (2 : Int) ^ k = ((2 ^ k : Nat) : Int) := by simp
  have e3 : IntKind.u64.wrap (2 ^ k) = 2 ^ k := by rw [IntKind.wrap_u64, e2]; omega
  rw [e3]
  rw [e1] at hq ⊢
  rw [e2, u64_or_nat _ _ (by omega) (by omega), nat_join (k + 1) _ _ (Nat.mul_mod_left _ _) (Nat.pow_lt_pow_right (by omega) (by omega))]
  rfl
theorem qTo_yes (a b : Int) (k : Nat) (h : a / 2 ^ k / b = 2 * (a / 2 ^ (k + 1) / b) + 1) : qTo a b (k + 1) + 2 ^ k = qTo a b k := by
  unfold qTo
  rw [h, Int.add_mul, Int.one_mul, Int.pow_succ, Int.mul_comm 2, Int.mul_assoc, Int.mul_comm 2 (2 ^ k)]
theorem qTo_no (a b : Int) (k : Nat) (h : a / 2 ^ k / b = 2 * (a / 2 ^ (k + 1) / b)) : qTo a b (k + 1) = qTo a b k := by
  unfold qTo
  rw [h, Int.pow_succ, Int.mul_comm 2, Int.mul_assoc, Int.mul_comm 2 (2 ^ k)]
theorem qr_start (a b : Int) (ha0 : 0 ≤ a) (ha : a < 18446744073709551616) : qTo a b 64 = 0 ∧ rTo a b 64 = 0 := by
  have e : a / 2 ^ 64 = 0 := Int.ediv_eq_zero_of_lt ha0 (by simpa using ha)
  unfold qTo rTo
  rw [e]
  simp
theorem qr_end (a b : Int) : qTo a b 0 = a / b ∧ rTo a b 0 = a % b := by simp [qTo, rTo]
theorem udiv_any (a b : Int) (w : World) (ha0 : 0 ≤ a) (ha : a < 18446744073709551616) (hb0 : 0 < b) (hb : b < 18446744073709551616) :
    Calls Try.prog 132 #[.int .u64 a, .int .u64 b] w fun e w' => e = .returned (.tuple #[.int .u64 (a / b), .int .u64 (a % b)]) ∧ w = w' := by
  rw [← (qr_end a b).1, ← (qr_end a b).2]
  go_enter Try.func132, Try.ntmps132
  go_wp2_with fail
  go_loop [6, 7, 8] (fun q r i => ∃ m : Nat, m ≤ 64 ∧ i = .int .i64 ((m : Int) - 1) ∧ q = .int .u64 (qTo a b m) ∧ r = .int .u64 (rTo a b m)) (fun _ _ i => (intOf i + 1).toNat)
  case atStart => exact ⟨64, by omega, rfl, by rw [(qr_start a b ha0 ha).1], by rw [(qr_start a b ha0 ha).2]⟩
  case round =>
    obtain ⟨m, hm, rfl, rfl, rfl⟩ := hrel
    cases m with
    | zero =>
      go_wp2
      go_ret2
      exact ⟨rfl, rfl⟩
    | succ k =>
      have hx := or_x a b k
      have hs := shr_bd a k ha0
      have hand := and_one (a / 2 ^ k) hs.1 (by omega)
      have hrb := rTo_bd a b (k + 1) hb0
      have hcase := xTo_is a b k hb0 hb
      have hxb : 0 ≤ xTo a b k ∧ xTo a b k < 18446744073709551616 := by have := less_bit a k; omega
      have hoq := or_q a b k ha0 ha hb0 (by omega)
      have HE := Lib.hid hcase
      clear hs hcase
      rw [show ((k + 1 : Nat) : Int) - 1 = (k : Int) from by omega]
      by_cases hc : rTo a b (k + 1) / 9223372036854775808 = 1
      · have hcb : (rTo a b (k + 1) / 9223372036854775808 == 1) = true := by simp [hc]
        have HC := Lib.hid hc
        clear hc
        go_wp2_with (first | (go_at_call 117; refine (turned_any _ _ (by omega) (by omega)).mono ?_; rintro e w' ⟨rfl, rfl⟩) | (go_at_call 119; refine (add_any _ _ _ hxb.1 hxb.2 (by omega) (by omega)).mono ?_; rintro e w' ⟨rfl, rfl⟩))
        have hr := reduce_yes a b k hb0
        have h3 := less_bit a k
        have hH := HE.out
        have hC := HC.out
        have hR := hr (by omega)
        go_round
        case rel => exact ⟨k, by omega, rfl, by rw [qTo_yes a b k hR.2], by rw [hR.1]; congr 1; omega⟩
        case measure => simp [intOf]
      · have hcb : (rTo a b (k + 1) / 9223372036854775808 == 1) = false := by simp [hc]
        have HC := Lib.hid hc
        clear hc
        by_cases hle : b ≤ xTo a b k
        · go_wp2_with (first | (go_at_call 117; refine (turned_any _ _ (by omega) (by omega)).mono ?_; rintro e w' ⟨rfl, rfl⟩) | (go_at_call 119; refine (add_any _ _ _ hxb.1 hxb.2 (by omega) (by omega)).mono ?_; rintro e w' ⟨rfl, rfl⟩))
          have hr := reduce_yes a b k hb0
          have h3 := less_bit a k
          have hH := HE.out
          have hC := HC.out
          have hR := hr (by omega)
          go_round
          case rel => exact ⟨k, by omega, rfl, by rw [qTo_yes a b k hR.2], by rw [hR.1]; congr 1; omega⟩
          case measure => simp [intOf]
        · have hlt : xTo a b k < b := by omega
          clear hle
          go_wp2
          have hr := reduce_no a b k hb0
          have h3 := less_bit a k
          have hH := HE.out
          have hC := HC.out
          have hR := hr (by omega)
          go_round
          case rel => exact ⟨k, by omega, rfl, by rw [qTo_no a b k hR.2], by rw [hR.1]; congr 1; omega⟩
          case measure => simp [intOf]
theorem u64_of (a : Int) (ha : InI a) : IntKind.u64.wrap a = if a < 0 then a + 18446744073709551616 else a := by
  unfold InI at ha
  rw [IntKind.wrap_u64]
  split <;> omega
theorem rsize_any (a : Int) (w : World) (ha : InI a) : Calls Try.prog 133 #[.int .i64 a] w fun e w' => e = .returned (.int .u64 (a.natAbs : Int)) ∧ w = w' := by
  have hu := u64_of a ha
  by_cases h : a < 0
  · rw [if_pos h] at hu
    have e : ((a.natAbs : Nat) : Int) = (-(a + 18446744073709551616)) % 18446744073709551616 := by unfold InI at ha; omega
    rw [e]; clear e
    have h1 : 0 ≤ a + 18446744073709551616 := by unfold InI at ha; omega
    go_enter Try.func133, Try.ntmps133
    go_wp2_with (go_at_call 117; refine (turned_any _ _ (by omega) (by omega)).mono ?_; rintro e w' ⟨rfl, rfl⟩)
    go_ret
    exact ⟨rfl, rfl⟩
  · rw [if_neg h] at hu
    have e : ((a.natAbs : Nat) : Int) = a := by omega
    rw [e]; clear e
    go_enter Try.func133, Try.ntmps133
    go_wp2
    go_ret
    exact ⟨rfl, rfl⟩
end Go.Proofs.Ytnbclbphggmenaa.Wd
end
section
namespace Go.Proofs.Ytnbclbphggmenaa.Wd
open Go.RowKit
theorem i64_wrap (x : Int) : IntKind.i64.wrap x = wrap64 x := by rw [IntKind.wrap_i64, w64]
theorem truth_ref (b : Bool) (w : World) : Calls Try.prog 118 #[.bool b] w fun e w' => e = .returned (.int .i64 (bitI b)) ∧ w = w' := by
  cases b
  all_goals
    go_enter Try.func118, Try.ntmps118
    go_wp2
    go_ret
    exact ⟨rfl, rfl⟩
theorem quot_pos (a b : Int) (h : (a < 0) ↔ (b < 0)) : ((a.natAbs : Int) / (b.natAbs : Int)) = a.tdiv b := by
  have e : ((a.natAbs : Int) / (b.natAbs : Int)) = (a.natAbs : Int).tdiv (b.natAbs : Int) := (Int.tdiv_eq_ediv_of_nonneg (by omega)).symm
  rw [e]
  by_cases ha : a < 0
  · have hb2 := h.1 ha
    rw [show (a.natAbs : Int) = -a from by omega, show (b.natAbs : Int) = -b from by omega, Int.neg_tdiv, Int.tdiv_neg, Int.neg_neg]
  · have hb2 : ¬ b < 0 := fun x => ha (h.2 x)
    rw [show (a.natAbs : Int) = a from by omega, show (b.natAbs : Int) = b from by omega]
theorem quot_neg (a b : Int) (h : ¬ ((a < 0) ↔ (b < 0))) : -((a.natAbs : Int) / (b.natAbs : Int)) = a.tdiv b := by
  have e : ((a.natAbs : Int) / (b.natAbs : Int)) = (a.natAbs : Int).tdiv (b.natAbs : Int) := (Int.tdiv_eq_ediv_of_nonneg (by omega)).symm
  rw [e]
  by_cases ha : a < 0
  · have hb2 : ¬ b < 0 := fun x => h ⟨fun _ => x, fun _ => ha⟩
    rw [show (a.natAbs : Int) = -a from by omega, show (b.natAbs : Int) = b from by omega, Int.neg_tdiv, Int.neg_neg]
  · have hb2 : b < 0 := by
      apply Decidable.byContradiction
      intro x
      exact h ⟨fun y => absurd y ha, fun y => absurd y x⟩
    rw [show (a.natAbs : Int) = a from by omega, show (b.natAbs : Int) = -b from by omega, Int.tdiv_neg, Int.neg_neg]
theorem rest_pos (a b : Int) (ha : ¬ a < 0) : ((a.natAbs : Int) % (b.natAbs : Int)) = a.tmod b := by
  have e : ((a.natAbs : Int) % (b.natAbs : Int)) = (a.natAbs : Int).tmod (b.natAbs : Int) := (Int.tmod_eq_emod_of_nonneg (by omega)).symm
  rw [e, show (a.natAbs : Int) = a from by omega]
  by_cases hb : b < 0
  · rw [show (b.natAbs : Int) = -b from by omega, Int.tmod_neg]
  · rw [show (b.natAbs : Int) = b from by omega]
theorem rest_neg (a b : Int) (ha : a < 0) : -((a.natAbs : Int) % (b.natAbs : Int)) = a.tmod b := by
  have e : ((a.natAbs : Int) % (b.natAbs : Int)) = (a.natAbs : Int).tmod (b.natAbs : Int) := (Int.tmod_eq_emod_of_nonneg (by omega)).symm
  rw [e, show (a.natAbs : Int) = -a from by omega, Int.neg_tmod, Int.neg_neg]
  by_cases hb : b < 0
  · rw [show (b.natAbs : Int) = -b from by omega, Int.tmod_neg]
  · rw [show (b.natAbs : Int) = b from by omega]
theorem wrap_turned (x : Int) : wrap64 ((-x) % 18446744073709551616) = wrap64 (-x) := wrap_eq (by omega)
theorem quotient_any (a b : Int) (w : World) (ha : InI a) (hb : InI b) (h0 : b ≠ 0) :
    Calls Try.prog 121 #[.int .i64 a, .int .i64 b] w fun e w' => e = .returned (.tuple #[.int .i64 (wrap64 (a.tdiv b)), .int .i64 (a.tmod b)]) ∧ w = w' := by
  have nb : 0 < (b.natAbs : Int) ∧ (b.natAbs : Int) < 18446744073709551616 := by unfold InI at hb; omega
  have na : 0 ≤ (a.natAbs : Int) ∧ (a.natAbs : Int) < 18446744073709551616 := by unfold InI at ha; omega
  have q0 : 0 ≤ (a.natAbs : Int) / (b.natAbs : Int) := Int.ediv_nonneg na.1 (by omega)
  have q1 : (a.natAbs : Int) / (b.natAbs : Int) < 18446744073709551616 := by have := Int.ediv_le_self (b.natAbs : Int) na.1; omega
  have r0 : 0 ≤ (a.natAbs : Int) % (b.natAbs : Int) := Int.emod_nonneg _ (by omega)
  have r1 : (a.natAbs : Int) % (b.natAbs : Int) < 18446744073709551616 := by have := Int.emod_lt_of_pos (a.natAbs : Int) nb.1; omega
  have HD := Lib.hid fun w => udiv_any (a.natAbs : Int) (b.natAbs : Int) w na.1 na.2 nb.1 nb.2
  have HW := Lib.hid (wrap_in (InI_tmod a b ha))
  have hA := Lib.hid ha
  have hB := Lib.hid hb
  clear ha hb h0 na nb
  obtain ⟨q, eq⟩ : ∃ q, Hid ((a.natAbs : Int) / (b.natAbs : Int) = q) := ⟨_, Lib.hid rfl⟩
  obtain ⟨r, er⟩ : ∃ r, Hid ((a.natAbs : Int) % (b.natAbs : Int) = r) := ⟨_, Lib.hid rfl⟩
  rw [eq.out] at q0 q1
  rw [er.out] at r0 r1
  have HD := Lib.hid (eq.out ▸ er.out ▸ HD.out)
  by_cases sa : a < 0
  · by_cases sb : b < 0
    · have da : decide (a < 0) = true := by simp; omega
      have db : decide (b < 0) = true := by simp; omega
      have HQ : Hid (wrap64 q = wrap64 (a.tdiv b)) := by
        have h1 := quot_pos a b (by simp [sa, sb])
        rw [← h1, eq.out]
        exact Lib.hid rfl
      have HR : Hid (wrap64 ((-r) % 18446744073709551616) = a.tmod b) := by
        have h1 := rest_neg a b sa
        rw [← HW.out, ← h1, er.out, ← wrap_turned]
        exact Lib.hid rfl
      go_enter Try.func121, Try.ntmps121
      go_wp2_with (first | (go_at_call 133; refine (rsize_any _ _ (by first | exact hA.out | exact hB.out)).mono ?_; rintro e w' ⟨rfl, rfl⟩) | (go_at_call 132; refine (HD.out _).mono ?_; rintro e w' ⟨rfl, rfl⟩) | (go_at_call 117; ((with_reducible refine (turned_any _ _ q0 q1).mono ?_); rintro e w' ⟨rfl, rfl⟩)) | (go_at_call 117; ((with_reducible refine (turned_any _ _ r0 r1).mono ?_); rintro e w' ⟨rfl, rfl⟩)))
      go_ret2
      exact ⟨by rw [HQ.out, HR.out]; rfl, rfl⟩
    · have da : decide (a < 0) = true := by simp; omega
      have db : decide (b < 0) = false := by simp; omega
      have HQ : Hid (wrap64 ((-q) % 18446744073709551616) = wrap64 (a.tdiv b)) := by
        have h1 := quot_neg a b (by simp [sa, sb])
        rw [← h1, eq.out, ← wrap_turned]
        exact Lib.hid rfl
      have HR : Hid (wrap64 ((-r) % 18446744073709551616) = a.tmod b) := by
        have h1 := rest_neg a b sa
        rw [← HW.out, ← h1, er.out, ← wrap_turned]
        exact Lib.hid rfl
      go_enter Try.func121, Try.ntmps121
      go_wp2_with (first | (go_at_call 133; refine (rsize_any _ _ (by first | exact hA.out | exact hB.out)).mono ?_; rintro e w' ⟨rfl, rfl⟩) | (go_at_call 132; refine (HD.out _).mono ?_; rintro e w' ⟨rfl, rfl⟩) | (go_at_call 117; ((with_reducible refine (turned_any _ _ q0 q1).mono ?_); rintro e w' ⟨rfl, rfl⟩)) | (go_at_call 117; ((with_reducible refine (turned_any _ _ r0 r1).mono ?_); rintro e w' ⟨rfl, rfl⟩)))
      go_ret2
      exact ⟨by rw [HQ.out, HR.out]; rfl, rfl⟩
  · by_cases sb : b < 0
    · have da : decide (a < 0) = false := by simp; omega
      have db : decide (b < 0) = true := by simp; omega
      have HQ : Hid (wrap64 ((-q) % 18446744073709551616) = wrap64 (a.tdiv b)) := by
        have h1 := quot_neg a b (by simp [sa, sb])
        rw [← h1, eq.out, ← wrap_turned]
        exact Lib.hid rfl
      have HR : Hid (wrap64 r = a.tmod b) := by
        have h1 := rest_pos a b sa
        rw [← HW.out, ← h1, er.out]
        exact Lib.hid rfl
      go_enter Try.func121, Try.ntmps121
      go_wp2_with (first | (go_at_call 133; refine (rsize_any _ _ (by first | exact hA.out | exact hB.out)).mono ?_; rintro e w' ⟨rfl, rfl⟩) | (go_at_call 132; refine (HD.out _).mono ?_; rintro e w' ⟨rfl, rfl⟩) | (go_at_call 117; ((with_reducible refine (turned_any _ _ q0 q1).mono ?_); rintro e w' ⟨rfl, rfl⟩)) | (go_at_call 117; ((with_reducible refine (turned_any _ _ r0 r1).mono ?_); rintro e w' ⟨rfl, rfl⟩)))
      go_ret2
      exact ⟨by rw [HQ.out, HR.out]; rfl, rfl⟩
    · have da : decide (a < 0) = false := by simp; omega
      have db : decide (b < 0) = false := by simp; omega
      have HQ : Hid (wrap64 q = wrap64 (a.tdiv b)) := by
        have h1 := quot_pos a b (by simp [sa, sb])
        rw [← h1, eq.out]
        exact Lib.hid rfl
      have HR : Hid (wrap64 r = a.tmod b) := by
        have h1 := rest_pos a b sa
        rw [← HW.out, ← h1, er.out]
        exact Lib.hid rfl
      go_enter Try.func121, Try.ntmps121
      go_wp2_with (first | (go_at_call 133; refine (rsize_any _ _ (by first | exact hA.out | exact hB.out)).mono ?_; rintro e w' ⟨rfl, rfl⟩) | (go_at_call 132; refine (HD.out _).mono ?_; rintro e w' ⟨rfl, rfl⟩) | (go_at_call 117; ((with_reducible refine (turned_any _ _ q0 q1).mono ?_); rintro e w' ⟨rfl, rfl⟩)) | (go_at_call 117; ((with_reducible refine (turned_any _ _ r0 r1).mono ?_); rintro e w' ⟨rfl, rfl⟩)))
      go_ret2
      exact ⟨by rw [HQ.out, HR.out]; rfl, rfl⟩
theorem xor_small (m : Nat) (h : m < 9223372036854775808) : m ^^^ 9223372036854775808 = m + 9223372036854775808 := by
  have e : m ^^^ 2 ^ 63 = 2 ^ 63 ||| m := by
    apply Nat.eq_of_testBit_eq
    intro i
    rw [Nat.testBit_xor, Nat.testBit_or, Nat.testBit_two_pow]
    by_cases hi : 63 = i
    · subst hi
      rw [Nat.testBit_lt_two_pow (show m < 2 ^ 63 from h)]
      rfl
    · simp [hi]
  have := nat_join 63 (2 ^ 63) m (by decide) h
  exact e.trans (this.trans (Nat.add_comm _ _))
theorem xor_nat (n : Nat) (hn : n < 18446744073709551616) : n ^^^ 9223372036854775808 = (n + 9223372036854775808) % 18446744073709551616 := by
  by_cases h : n < 9223372036854775808
  · rw [xor_small n h]; omega
  · obtain ⟨m, rfl⟩ : ∃ m, n = m + 9223372036854775808 := ⟨n - 9223372036854775808, by omega⟩
    rw [← xor_small m (by omega), Nat.xor_assoc, Nat.xor_self, Nat.xor_zero, xor_small m (by omega)]
    omega
theorem xor_top (a : Int) (ha : InI a) : bits .xor .u64 (IntKind.u64.wrap a) 9223372036854775808 = a + 9223372036854775808 := by
  unfold InI at ha
  have e : IntKind.u64.wrap a = a % 18446744073709551616 := IntKind.wrap_u64 a
  obtain ⟨n, hn⟩ := Int.eq_ofNat_of_zero_le (show 0 ≤ a % 18446744073709551616 by omega)
  have hn2 : n < 18446744073709551616 := by omega
  rw [e, hn]
  have := u64_xor_nat n 9223372036854775808 hn2 (by omega)
  refine this.trans ?_
  rw [xor_nat n hn2]
  omega
theorem less_any (a b : Int) (w : World) (ha : InI a) (hb : InI b) : Calls Try.prog 134 #[.int .i64 a, .int .i64 b] w fun e w' => e = .returned (.bool (decide (a < b))) ∧ w = w' := by
  have ea := xor_top a ha
  have eb := xor_top b hb
  by_cases h : a < b
  · have h' : a + 9223372036854775808 < b + 9223372036854775808 := by omega
    rw [show decide (a < b) = true from by simp [h]]
    go_enter Try.func134, Try.ntmps134
    go_wp2_with fail
    go_ret
    exact ⟨rfl, rfl⟩
  · have h' : ¬ (a + 9223372036854775808 < b + 9223372036854775808) := by omega
    rw [show decide (a < b) = false from by simp [h]]
    go_enter Try.func134, Try.ntmps134
    go_wp2_with fail
    go_ret
    exact ⟨rfl, rfl⟩
theorem not_lt (a b : Int) : (!decide (b < a)) = decide (a ≤ b) := by
  by_cases h : b < a
  · simp [h]
  · simp [h]; omega
theorem rcmp_any (op a b : Int) (w : World) (ha : InI a) (hb : InI b) (h16 : op ≠ 16) (h17 : op ≠ 17) : Calls Try.prog 122 #[.int .i64 op, .int .i64 a, .int .i64 b] w fun e w' => e = .returned (.tuple #[.int .i64 (cmpV op a b), .bool (cmpB op)]) ∧ w = w' := by
  have n1 := not_lt a b
  have n2 := not_lt b a
  by_cases h10 : op = 10
  · subst h10
    go_enter Try.func122, Try.ntmps122
    go_wp2_with (first | (go_at_call 118; refine (truth_ref _ _).mono ?_; rintro e w' ⟨rfl, rfl⟩) | (go_at_call 134; ((with_reducible refine (less_any a b _ ha hb).mono ?_); rintro e w' ⟨rfl, rfl⟩)) | (go_at_call 134; ((with_reducible refine (less_any b a _ hb ha).mono ?_); rintro e w' ⟨rfl, rfl⟩)) | (go_at_call 117; ((with_reducible refine (turned_any _ _ hu.1 hu.2).mono ?_); rintro e w' ⟨rfl, rfl⟩)))
    go_ret2
    exact ⟨rfl, rfl⟩
  by_cases h11 : op = 11
  · subst h11
    go_enter Try.func122, Try.ntmps122
    go_wp2_with (first | (go_at_call 118; refine (truth_ref _ _).mono ?_; rintro e w' ⟨rfl, rfl⟩) | (go_at_call 134; ((with_reducible refine (less_any a b _ ha hb).mono ?_); rintro e w' ⟨rfl, rfl⟩)) | (go_at_call 134; ((with_reducible refine (less_any b a _ hb ha).mono ?_); rintro e w' ⟨rfl, rfl⟩)) | (go_at_call 117; ((with_reducible refine (turned_any _ _ hu.1 hu.2).mono ?_); rintro e w' ⟨rfl, rfl⟩)))
    go_ret2
    exact ⟨rfl, rfl⟩
  by_cases h12 : op = 12
  · subst h12
    go_enter Try.func122, Try.ntmps122
    go_wp2_with (first | (go_at_call 118; refine (truth_ref _ _).mono ?_; rintro e w' ⟨rfl, rfl⟩) | (go_at_call 134; ((with_reducible refine (less_any a b _ ha hb).mono ?_); rintro e w' ⟨rfl, rfl⟩)) | (go_at_call 134; ((with_reducible refine (less_any b a _ hb ha).mono ?_); rintro e w' ⟨rfl, rfl⟩)) | (go_at_call 117; ((with_reducible refine (turned_any _ _ hu.1 hu.2).mono ?_); rintro e w' ⟨rfl, rfl⟩)))
    go_ret2
    exact ⟨rfl, rfl⟩
  by_cases h13 : op = 13
  · subst h13
    go_enter Try.func122, Try.ntmps122
    go_wp2_with (first | (go_at_call 118; refine (truth_ref _ _).mono ?_; rintro e w' ⟨rfl, rfl⟩) | (go_at_call 134; ((with_reducible refine (less_any a b _ ha hb).mono ?_); rintro e w' ⟨rfl, rfl⟩)) | (go_at_call 134; ((with_reducible refine (less_any b a _ hb ha).mono ?_); rintro e w' ⟨rfl, rfl⟩)) | (go_at_call 117; ((with_reducible refine (turned_any _ _ hu.1 hu.2).mono ?_); rintro e w' ⟨rfl, rfl⟩)))
    go_ret2
    exact ⟨rfl, rfl⟩
  by_cases h14 : op = 14
  · subst h14
    go_enter Try.func122, Try.ntmps122
    go_wp2_with (first | (go_at_call 118; refine (truth_ref _ _).mono ?_; rintro e w' ⟨rfl, rfl⟩) | (go_at_call 134; ((with_reducible refine (less_any a b _ ha hb).mono ?_); rintro e w' ⟨rfl, rfl⟩)) | (go_at_call 134; ((with_reducible refine (less_any b a _ hb ha).mono ?_); rintro e w' ⟨rfl, rfl⟩)) | (go_at_call 117; ((with_reducible refine (turned_any _ _ hu.1 hu.2).mono ?_); rintro e w' ⟨rfl, rfl⟩)))
    go_ret2
    exact ⟨rfl, rfl⟩
  by_cases h15 : op = 15
  · subst h15
    go_enter Try.func122, Try.ntmps122
    go_wp2_with (first | (go_at_call 118; refine (truth_ref _ _).mono ?_; rintro e w' ⟨rfl, rfl⟩) | (go_at_call 134; ((with_reducible refine (less_any a b _ ha hb).mono ?_); rintro e w' ⟨rfl, rfl⟩)) | (go_at_call 134; ((with_reducible refine (less_any b a _ hb ha).mono ?_); rintro e w' ⟨rfl, rfl⟩)) | (go_at_call 117; ((with_reducible refine (turned_any _ _ hu.1 hu.2).mono ?_); rintro e w' ⟨rfl, rfl⟩)))
    go_ret2
    exact ⟨rfl, rfl⟩
  have hV : cmpV op a b = 0 := by simp [cmpV, h10, h11, h12, h13, h14, h15]
  have hB : cmpB op = false := by simp [cmpB]; omega
  rw [hV, hB]
  clear hV hB
  go_enter Try.func122, Try.ntmps122
  go_wp2_with fail
  go_ret2
  exact ⟨rfl, rfl⟩
end Go.Proofs.Ytnbclbphggmenaa.Wd
end
section
namespace Go.Proofs.Ytnbclbphggmenaa.Wd
open Go.RowKit
theorem u_bd (x : Int) : 0 ≤ IntKind.u64.wrap x ∧ IntKind.u64.wrap x < 18446744073709551616 := wrapu_bd x
theorem u_mod (x : Int) : IntKind.u64.wrap x = x % 18446744073709551616 := IntKind.wrap_u64 x
theorem back_neg (a : Int) : wrap64 ((-(IntKind.u64.wrap a)) % 18446744073709551616) = wrap64 (-a) := wrap_eq (by rw [u_mod]; omega)
theorem back_add (a b : Int) : wrap64 ((IntKind.u64.wrap a + IntKind.u64.wrap b) % 18446744073709551616) = wrap64 (a + b) := wrap_eq (by rw [u_mod, u_mod]; omega)
theorem back_sub (a b : Int) : wrap64 ((IntKind.u64.wrap a + -(IntKind.u64.wrap b)) % 18446744073709551616) = wrap64 (a - b) := wrap_eq (by rw [u_mod, u_mod]; omega)
theorem back_mul (a b : Int) : wrap64 ((IntKind.u64.wrap a * IntKind.u64.wrap b) % 18446744073709551616) = wrap64 (a * b) := wrap_eq (by rw [u_mod, u_mod, Int.emod_emod_of_dvd _ (Int.dvd_refl _), ← Int.mul_emod])
theorem rone_any (op a : Int) (w : World) : Calls Try.prog 97 #[.int .i64 op, .int .i64 a] w fun e w' => e = .returned (.tuple #[.int .i64 (oneV op a), .bool (oneB op)]) ∧ w = w' := by
  have hu := u_bd a
  have HN := Lib.hid (back_neg a)
  obtain ⟨x, hx⟩ : ∃ x, Hid (IntKind.u64.wrap a = x) := ⟨_, Lib.hid rfl⟩
  have hx2 := hx.out
  have HN : Hid (wrap64 ((-x) % 18446744073709551616) = wrap64 (-a)) := hx2 ▸ HN
  rw [hx2] at hu
  by_cases h3 : op = 3
  · subst h3
    go_enter Try.func97, Try.ntmps97
    go_wp2_with (first | (go_at_call 118; refine (truth_ref _ _).mono ?_; rintro e w' ⟨rfl, rfl⟩) | (go_at_call 117; refine (turned_any _ _ hu.1 hu.2).mono ?_; rintro e w' ⟨rfl, rfl⟩))
    go_ret2
    exact ⟨by rw [HN.out]; rfl, rfl⟩
  by_cases h4 : op = 4
  · subst h4
    go_enter Try.func97, Try.ntmps97
    go_wp2_with (first | (go_at_call 118; refine (truth_ref _ _).mono ?_; rintro e w' ⟨rfl, rfl⟩) | (go_at_call 117; refine (turned_any _ _ hu.1 hu.2).mono ?_; rintro e w' ⟨rfl, rfl⟩))
    go_ret2
    exact ⟨rfl, rfl⟩
  have hV : oneV op a = 0 := by simp [oneV, h3, h4]
  have hB : oneB op = false := by simp [oneB, h3, h4]
  rw [hV, hB]; clear hV hB
  go_enter Try.func97, Try.ntmps97
  go_wp2_with fail
  go_ret2
  exact ⟨rfl, rfl⟩
theorem rand_any (a b : Int) (w : World) : Calls Try.prog 122 #[.int .i64 16, .int .i64 a, .int .i64 b] w fun e w' => e = .returned (.tuple #[.int .i64 (twoV 16 a b), .bool true]) ∧ w = w' := by
  have hV : twoV 16 a b = bitI (a != 0 && b != 0) := rfl
  rw [hV]; clear hV
  by_cases ha0 : (a != 0) = false
  · have hv : (a != 0 && b != 0) = false := by rw [ha0]; rfl
    rw [hv]; clear hv
    go_enter Try.func122, Try.ntmps122
    go_wp2_with (go_at_call 118; refine (truth_ref _ _).mono ?_; rintro e w' ⟨rfl, rfl⟩)
    go_ret2
    exact ⟨rfl, rfl⟩
  · have ha1 : (a != 0) = true := by simpa using ha0
    have hv : (a != 0 && b != 0) = (b != 0) := by rw [ha1]; rfl
    rw [hv]; clear hv ha0
    go_enter Try.func122, Try.ntmps122
    go_wp2_with (go_at_call 118; refine (truth_ref _ _).mono ?_; rintro e w' ⟨rfl, rfl⟩)
    go_ret2
    exact ⟨rfl, rfl⟩
theorem ror_any (a b : Int) (w : World) : Calls Try.prog 122 #[.int .i64 17, .int .i64 a, .int .i64 b] w fun e w' => e = .returned (.tuple #[.int .i64 (twoV 17 a b), .bool true]) ∧ w = w' := by
  have hV : twoV 17 a b = bitI (a != 0 || b != 0) := rfl
  rw [hV]; clear hV
  by_cases ha0 : (a != 0) = true
  · have hv : (a != 0 || b != 0) = true := by rw [ha0]; rfl
    rw [hv]; clear hv
    go_enter Try.func122, Try.ntmps122
    go_wp2_with (go_at_call 118; refine (truth_ref _ _).mono ?_; rintro e w' ⟨rfl, rfl⟩)
    go_ret2
    exact ⟨rfl, rfl⟩
  · have ha1 : (a != 0) = false := by simpa using ha0
    have hv : (a != 0 || b != 0) = (b != 0) := by rw [ha1]; rfl
    rw [hv]; clear hv ha0
    go_enter Try.func122, Try.ntmps122
    go_wp2_with (go_at_call 118; refine (truth_ref _ _).mono ?_; rintro e w' ⟨rfl, rfl⟩)
    go_ret2
    exact ⟨rfl, rfl⟩
theorem rtwo_any (op a b : Int) (w : World) (ha : InI a) (hb : InI b) :
    Calls Try.prog 98 #[.int .i64 op, .int .i64 a, .int .i64 b] w fun e w' => e = .returned (.tuple #[.int .i64 (twoV op a b), .bool (twoB op b)]) ∧ w = w' := by
  by_cases h8 : op = 8
  · subst h8
    have HA := Lib.hid fun w => add_any (IntKind.u64.wrap a) (IntKind.u64.wrap b) w (u_bd a).1 (u_bd a).2 (u_bd b).1 (u_bd b).2
    have HN := Lib.hid (back_add a b)
    clear ha hb
    go_enter Try.func98, Try.ntmps98
    go_wp2_with (go_at_call 119; refine (HA.out _).mono ?_; rintro e w' ⟨rfl, rfl⟩)
    go_ret2
    exact ⟨by rw [HN.out]; rfl, rfl⟩
  by_cases h9 : op = 9
  · subst h9
    have ht : 0 ≤ (-(IntKind.u64.wrap b)) % 18446744073709551616 ∧ (-(IntKind.u64.wrap b)) % 18446744073709551616 < 18446744073709551616 := by omega
    have HA := Lib.hid fun w => add_any (IntKind.u64.wrap a) ((-(IntKind.u64.wrap b)) % 18446744073709551616) w (u_bd a).1 (u_bd a).2 ht.1 ht.2
    have HT := Lib.hid fun w => turned_any (IntKind.u64.wrap b) w (u_bd b).1 (u_bd b).2
    have HN := Lib.hid (back_sub a b)
    clear ha hb ht
    go_enter Try.func98, Try.ntmps98
    go_wp2_with (first | (go_at_call 119; refine (HA.out _).mono ?_; rintro e w' ⟨rfl, rfl⟩) | (go_at_call 117; refine (HT.out _).mono ?_; rintro e w' ⟨rfl, rfl⟩))
    go_ret2
    exact ⟨by rw [HN.out]; rfl, rfl⟩
  by_cases h5 : op = 5
  · subst h5
    have HM := Lib.hid fun w => mul_any (IntKind.u64.wrap a) (IntKind.u64.wrap b) w (u_bd b).1 (u_bd b).2
    have HN := Lib.hid (back_mul a b)
    clear ha hb
    go_enter Try.func98, Try.ntmps98
    go_wp2_with (go_at_call 120; refine (HM.out _).mono ?_; rintro e w' ⟨rfl, rfl⟩)
    go_ret2
    exact ⟨by rw [HN.out]; rfl, rfl⟩
  by_cases h67 : op = 6 ∨ op = 7
  · have hV : twoV op a b = divV op a b := by unfold twoV; rw [if_neg h8, if_neg h9, if_neg h5, if_pos h67]
    have hB : twoB op b = divB b := by unfold twoB; rw [if_neg h8, if_neg h9, if_neg h5, if_pos h67]
    rw [hV, hB]; clear hV hB h8 h9 h5
    by_cases h0 : b = 0
    · subst h0
      clear ha hb
      rcases h67 with rfl | rfl
      all_goals
        go_enter Try.func98, Try.ntmps98
        go_wp2_with fail
        go_ret2
        exact ⟨rfl, rfl⟩
    · have hq := Lib.hid fun w => quotient_any a b w ha hb h0
      have hb0 : (b == 0) = false := by simp [h0]
      have hB : divB b = true := by simp [divB, h0]
      rw [hB]; clear hB
      have H6 : Hid (divV 6 a b = wrap64 (a.tdiv b)) := by unfold divV; rw [if_neg h0, if_neg (by decide)]; exact Lib.hid rfl
      have H7 : Hid (divV 7 a b = a.tmod b) := by unfold divV; rw [if_neg h0, if_pos rfl]; exact Lib.hid rfl
      clear ha hb h0
      rcases h67 with rfl | rfl
      · go_enter Try.func98, Try.ntmps98
        go_wp2_with (go_at_call 121; refine (hq.out _).mono ?_; rintro e w' ⟨rfl, rfl⟩)
        go_ret2
        exact ⟨by rw [H6.out]; rfl, rfl⟩
      · go_enter Try.func98, Try.ntmps98
        go_wp2_with (go_at_call 121; refine (hq.out _).mono ?_; rintro e w' ⟨rfl, rfl⟩)
        go_ret2
        exact ⟨by rw [H7.out]; rfl, rfl⟩
  by_cases h16 : op = 16
  · subst h16
    clear ha hb h8 h9 h5 h67
    go_enter Try.func98, Try.ntmps98
    go_wp2_with (go_at_call 122; refine (rand_any _ _ _).mono ?_; rintro e w' ⟨rfl, rfl⟩)
    go_ret2
    exact ⟨rfl, rfl⟩
  by_cases h17 : op = 17
  · subst h17
    clear ha hb h8 h9 h5 h67 h16
    go_enter Try.func98, Try.ntmps98
    go_wp2_with (go_at_call 122; refine (ror_any _ _ _).mono ?_; rintro e w' ⟨rfl, rfl⟩)
    go_ret2
    exact ⟨rfl, rfl⟩
  have hV : twoV op a b = cmpV op a b := by unfold twoV; rw [if_neg h8, if_neg h9, if_neg h5, if_neg h67, if_neg h16, if_neg h17]
  have hB : twoB op b = cmpB op := by unfold twoB; rw [if_neg h8, if_neg h9, if_neg h5, if_neg h67, if_neg h16, if_neg h17]
  rw [hV, hB]; clear hV hB
  have h6 : op ≠ 6 := fun h => h67 (.inl h)
  have h7 : op ≠ 7 := fun h => h67 (.inr h)
  have HC := Lib.hid fun w => rcmp_any op a b w ha hb h16 h17
  clear h67 ha hb
  go_enter Try.func98, Try.ntmps98
  go_wp2_with (go_at_call 122; refine (HC.out _).mono ?_; rintro e w' ⟨rfl, rfl⟩)
  go_ret2
  exact ⟨rfl, rfl⟩
end Go.Proofs.Ytnbclbphggmenaa.Wd
end
