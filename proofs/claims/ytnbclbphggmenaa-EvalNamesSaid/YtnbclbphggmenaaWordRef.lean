/- What the Go functions of the reference that reckon with halves and bits compute (low, high, add, turned, mul, div, size, quotient, less, compare, One, Two). Conditions: the numbers fit 64 bits. -/
import Derived.Test.YtnbclbphggmenaaWordL
import Derived.Laws.BitsAllLaws
namespace Go.Proofs.Ytnbclbphggmenaa.Wd
open Go.RowKit
theorem and_low (a : Int) (h0 : 0 ≤ a) (h1 : a < 18446744073709551616) : bits .and .u64 a 4294967295 = a % 4294967296 := by
  obtain ⟨n, rfl⟩ := Int.eq_ofNat_of_zero_le h0
  have := u64_and_nat n 4294967295 (by omega) (by omega)
  rw [Nat.and_two_pow_sub_one_eq_mod n 32] at this
  exact this
theorem low_any (a : Int) (w : World) (h0 : 0 ≤ a) (h1 : a < 18446744073709551616) : Calls Try.prog 130 #[.int .u64 a] w fun e w' => e = .returned (.int .u64 (a % 4294967296)) ∧ w = w' := by
  have e := and_low a h0 h1
  go_enter Try.func130, Try.ntmps130
  go_wp2
  go_ret
  exact ⟨rfl, rfl⟩
theorem high_any (a : Int) (w : World) : Calls Try.prog 131 #[.int .u64 a] w fun e w' => e = .returned (.int .u64 (a / 4294967296)) ∧ w = w' := by
  go_enter Try.func131, Try.ntmps131
  go_wp2
  go_ret
  exact ⟨rfl, rfl⟩
theorem or_join (x y : Int) (h0 : 0 ≤ x) (hx : x % 4294967296 = 0) (hx2 : x < 18446744073709551616) (hy0 : 0 ≤ y) (hy : y < 4294967296) : bits .or .u64 x y = x + y := by
  obtain ⟨n, rfl⟩ := Int.eq_ofNat_of_zero_le h0
  obtain ⟨m, rfl⟩ := Int.eq_ofNat_of_zero_le hy0
  rw [u64_or_nat n m (by omega) (by omega), nat_join 32 n m (by omega) (by omega)]
  rfl
theorem add_any (a b : Int) (w : World) (ha0 : 0 ≤ a) (ha : a < 18446744073709551616) (hb0 : 0 ≤ b) (hb : b < 18446744073709551616) :
    Calls Try.prog 119 #[.int .u64 a, .int .u64 b] w fun e w' => e = .returned (.int .u64 ((a + b) % 18446744073709551616)) ∧ w = w' := by
  go_enter Try.func119, Try.ntmps119
  go_wp2_with (first | (go_at_call 130; refine (low_any _ _ (by omega) (by omega)).mono ?_; rintro e w' ⟨rfl, rfl⟩) | (go_at_call 131; refine (high_any _ _).mono ?_; rintro e w' ⟨rfl, rfl⟩))
  go_ret
  refine ⟨ret1 ?_, rfl⟩
  refine (or_join _ _ ?_ ?_ ?_ ?_ ?_).trans ?_
  all_goals omega
theorem notu64 (a : Int) (h0 : 0 ≤ a) (h1 : a < 18446744073709551616) : bits .xor .u64 18446744073709551615 a = 18446744073709551615 - a := by
  obtain ⟨n, rfl⟩ := Int.eq_ofNat_of_zero_le h0
  have e : BitVec.ofInt 64 18446744073709551615 ^^^ BitVec.ofInt 64 (n : Int) = ~~~ (BitVec.ofInt 64 (n : Int)) := by
    have : BitVec.ofInt 64 18446744073709551615 = BitVec.allOnes 64 := by decide
    rw [this, BitVec.allOnes_xor]
  show IntKind.u64.wrap ((BitVec.ofInt 64 18446744073709551615 ^^^ BitVec.ofInt 64 (n : Int)).toNat : Int) = _
  rw [e, BitVec.toNat_not, BitVec.toNat_ofInt, IntKind.wrap_u64]
  omega
theorem turned_any (a : Int) (w : World) (h0 : 0 ≤ a) (h1 : a < 18446744073709551616) : Calls Try.prog 117 #[.int .u64 a] w fun e w' => e = .returned (.int .u64 ((-a) % 18446744073709551616)) ∧ w = w' := by
  have e : bits .xor .u64 IntKind.u64.max a = 18446744073709551615 - a := notu64 a h0 h1
  have hs : IntKind.u64.signed = false := rfl
  go_enter Try.func117, Try.ntmps117
  go_wp2_with (go_at_call 119; refine (add_any _ _ _ (by omega) (by omega) (by omega) (by omega)).mono ?_; rintro e w' ⟨rfl, rfl⟩)
  go_ret
  exact ⟨ret1 (by omega), rfl⟩
theorem and_one (x : Int) (h0 : 0 ≤ x) (h1 : x < 18446744073709551616) : bits .and .u64 x 1 = x % 2 := by
  obtain ⟨n, rfl⟩ := Int.eq_ofNat_of_zero_le h0
  have := u64_and_nat n 1 (by omega) (by omega)
  rw [nat_mask1] at this
  exact this
theorem pow_pos' (k : Nat) : (0 : Int) < 2 ^ k := Int.pow_pos (by decide)
theorem shr_bd (b : Int) (k : Nat) (hb0 : 0 ≤ b) : 0 ≤ b / 2 ^ k ∧ b / 2 ^ k ≤ b := ⟨Int.ediv_nonneg hb0 (Int.le_of_lt (pow_pos' k)), Int.ediv_le_self _ hb0⟩
theorem mod_succ (b : Int) (k : Nat) : b % 2 ^ (k + 1) = b % 2 ^ k + 2 ^ k * (b / 2 ^ k % 2) := by
  have hp := pow_pos' k
  have e : b / 2 ^ k / 2 = b / (2 ^ k * 2) := Int.ediv_ediv_of_nonneg (Int.le_of_lt hp)
  rw [Int.pow_succ, Int.emod_def b (2 ^ k * 2), Int.emod_def b (2 ^ k), Int.emod_def (b / 2 ^ k) 2, e, Int.mul_sub, Int.mul_assoc]
  omega
def mulTo (a b : Int) (i : Nat) : Int := (a * (b % 2 ^ i)) % 18446744073709551616
theorem mulTo_bd (a b : Int) (i : Nat) : 0 ≤ mulTo a b i ∧ mulTo a b i < 18446744073709551616 := by unfold mulTo; omega
theorem mulTo_one (a b : Int) (k : Nat) (h : b / 2 ^ k % 2 = 1) : (mulTo a b k + IntKind.u64.wrap (a * 2 ^ k)) % 18446744073709551616 = mulTo a b (k + 1) := by
  rw [IntKind.wrap_u64]
  unfold mulTo
  rw [← Int.add_emod, mod_succ, h, Int.mul_one, Int.mul_add]
theorem mulTo_zero (a b : Int) (k : Nat) (h : b / 2 ^ k % 2 = 0) : mulTo a b k = mulTo a b (k + 1) := by
  unfold mulTo
  rw [mod_succ, h, Int.mul_zero, Int.add_zero]
theorem mulTo_all (a b : Int) (hb0 : 0 ≤ b) (hb : b < 18446744073709551616) : mulTo a b 64 = (a * b) % 18446744073709551616 := by
  unfold mulTo
  rw [Int.emod_eq_of_lt hb0 (by simpa using hb)]
theorem wrapu_bd (x : Int) : 0 ≤ IntKind.u64.wrap x ∧ IntKind.u64.wrap x < 18446744073709551616 := by rw [IntKind.wrap_u64]; omega
theorem mul_any (a b : Int) (w : World) (hb0 : 0 ≤ b) (hb : b < 18446744073709551616) :
    Calls Try.prog 120 #[.int .u64 a, .int .u64 b] w fun e w' => e = .returned (.int .u64 ((a * b) % 18446744073709551616)) ∧ w = w' := by
  rw [← mulTo_all a b hb0 hb]
  go_enter Try.func120, Try.ntmps120
  go_wp2_with fail
  go_loop [5, 6] (fun s i => ∃ k : Nat, k ≤ 64 ∧ i = .int .i64 k ∧ s = .int .u64 (mulTo a b k)) (fun _ i => (64 - intOf i).toNat)
  case atStart => exact ⟨0, by omega, rfl, by simp [mulTo, Int.emod_one]⟩
  case round =>
    obtain ⟨k, hk, rfl, rfl⟩ := hrel
    by_cases hlt : k < 64
    · have hs := shr_bd b k hb0
      have hand := and_one (b / 2 ^ k) hs.1 (by omega)
      clear hs
      by_cases h1 : b / 2 ^ k % 2 = 1
      · have hb1 : (b / 2 ^ k % 2 == 1) = true := by simp [h1]
        have H := Lib.hid (mulTo_one a b k h1)
        have m1 := mulTo_bd a b k
        have m2 := wrapu_bd (a * 2 ^ k)
        clear h1
        go_wp2_with (go_at_call 119; refine (add_any _ _ _ m1.1 m1.2 m2.1 m2.2).mono ?_; rintro e w' ⟨rfl, rfl⟩)
        go_round
        case rel => exact ⟨k + 1, by omega, by go_num, by rw [H.out]⟩
        case measure => simp [intOf]; omega
      · have hb1 : (b / 2 ^ k % 2 == 1) = false := by simp [h1]
        have H := Lib.hid (mulTo_zero a b k (by omega))
        clear h1
        go_wp2
        go_round
        case rel => exact ⟨k + 1, by omega, by go_num, by rw [H.out]⟩
        case measure => simp [intOf]; omega
    · obtain rfl : k = 64 := by omega
      go_wp2
      go_ret
      exact ⟨rfl, rfl⟩
def qTo (a b : Int) (m : Nat) : Int := a / 2 ^ m / b * 2 ^ m
def rTo (a b : Int) (m : Nat) : Int := a / 2 ^ m % b
def xTo (a b : Int) (k : Nat) : Int := IntKind.u64.wrap (rTo a b (k + 1) * 2) + a / 2 ^ k % 2
theorem rTo_bd (a b : Int) (m : Nat) (hb0 : 0 < b) : 0 ≤ rTo a b m ∧ rTo a b m < b := ⟨Int.emod_nonneg _ (by omega), Int.emod_lt_of_pos _ hb0⟩
theorem half (a : Int) (k : Nat) : a / 2 ^ (k + 1) = a / 2 ^ k / 2 := by rw [Int.pow_succ, Int.ediv_ediv_of_nonneg (Int.le_of_lt (pow_pos' k))]
theorem two_step (a b : Int) (k : Nat) : 2 * rTo a b (k + 1) + a / 2 ^ k % 2 = a / 2 ^ k - b * (2 * (a / 2 ^ (k + 1) / b)) := by
  have h1 := Int.emod_def (a / 2 ^ (k + 1)) b
  have h2 := half a k
  unfold rTo
  rw [h1, Int.mul_left_comm]
  omega
theorem div_of {x b q r : Int} (h : x = b * q + r) (h0 : 0 ≤ r) (h1 : r < b) : x / b = q ∧ x % b = r := by
  have hb : 0 < b := by omega
  constructor
  · rw [h, Int.add_comm, Int.add_mul_ediv_left _ _ (by omega), Int.ediv_eq_zero_of_lt h0 h1, Int.zero_add]
  · rw [h, Int.add_comm, Int.add_mul_emod_self_left, Int.emod_eq_of_lt h0 h1]
theorem less_bit (a : Int) (k : Nat) : 0 ≤ a / 2 ^ k % 2 ∧ a / 2 ^ k % 2 < 2 := by omega
theorem reduce_yes (a b : Int) (k : Nat) (hb0 : 0 < b) (h : b ≤ 2 * rTo a b (k + 1) + a / 2 ^ k % 2) :
    rTo a b k = 2 * rTo a b (k + 1) + a / 2 ^ k % 2 - b ∧ a / 2 ^ k / b = 2 * (a / 2 ^ (k + 1) / b) + 1 := by
  have h1 := two_step a b k
  have h2 := rTo_bd a b (k + 1) hb0
  have h3 := less_bit a k
  have := div_of (x := a / 2 ^ k) (b := b) (q := 2 * (a / 2 ^ (k + 1) / b) + 1) (r := 2 * rTo a b (k + 1) + a / 2 ^ k % 2 - b) (by rw [Int.mul_add, Int.mul_one]; omega) (by omega) (by omega)
  exact ⟨this.2, this.1⟩
theorem reduce_no (a b : Int) (k : Nat) (hb0 : 0 < b) (h : 2 * rTo a b (k + 1) + a / 2 ^ k % 2 < b) :
    rTo a b k = 2 * rTo a b (k + 1) + a / 2 ^ k % 2 ∧ a / 2 ^ k / b = 2 * (a / 2 ^ (k + 1) / b) := by
  have h1 := two_step a b k
  have h2 := rTo_bd a b (k + 1) hb0
  have h3 := less_bit a k
  have := div_of (x := a / 2 ^ k) (b := b) (q := 2 * (a / 2 ^ (k + 1) / b)) (r := 2 * rTo a b (k + 1) + a / 2 ^ k % 2) (by omega) (by omega) (by omega)
  exact ⟨this.2, this.1⟩
theorem xTo_is (a b : Int) (k : Nat) (hb0 : 0 < b) (hb : b < 18446744073709551616) :
    (rTo a b (k + 1) / 9223372036854775808 = 1 ∧ xTo a b k = 2 * rTo a b (k + 1) + a / 2 ^ k % 2 - 18446744073709551616) ∨ (rTo a b (k + 1) / 9223372036854775808 ≠ 1 ∧ xTo a b k = 2 * rTo a b (k + 1) + a / 2 ^ k % 2) := by
  have h2 := rTo_bd a b (k + 1) hb0
  have h3 := less_bit a k
  unfold xTo
  rw [IntKind.wrap_u64]
  omega
theorem or_bit (x y : Int) (h0 : 0 ≤ x) (hx : x % 2 = 0) (hx2 : x < 18446744073709551616) (hy0 : 0 ≤ y) (hy : y < 2) : bits .or .u64 x y = x + y := by
  obtain ⟨n, rfl⟩ := Int.eq_ofNat_of_zero_le h0
  obtain ⟨m, rfl⟩ := Int.eq_ofNat_of_zero_le hy0
  rw [u64_or_nat n m (by omega) (by omega), nat_join 1 n m (by omega) (by omega)]
  rfl
theorem or_x (a b : Int) (k : Nat) : bits .or .u64 (IntKind.u64.wrap (rTo a b (k + 1) * 2)) (a / 2 ^ k % 2) = xTo a b k := by
  have h3 := less_bit a k
  have h4 := wrapu_bd (rTo a b (k + 1) * 2)
  exact or_bit _ _ h4.1 (by rw [IntKind.wrap_u64]; omega) h4.2 h3.1 h3.2
theorem qTo_bd (a b : Int) (m : Nat) (ha0 : 0 ≤ a) (hb0 : 0 < b) : 0 ≤ qTo a b m ∧ qTo a b m ≤ a := by
  have hp := pow_pos' m
  have h1 := Int.ediv_nonneg ha0 (Int.le_of_lt hp)
  have h2 := Int.ediv_nonneg h1 (Int.le_of_lt hb0)
  have h3 := Int.ediv_le_self b h1
  have h4 := Int.ediv_mul_le a (show (2 : Int) ^ m ≠ 0 by omega)
  exact ⟨Int.mul_nonneg h2 (Int.le_of_lt hp), Int.le_trans (Int.mul_le_mul_of_nonneg_right h3 (Int.le_of_lt hp)) h4⟩
theorem or_q (a b : Int) (k : Nat) (ha0 : 0 ≤ a) (ha : a < 18446744073709551616) (hb0 : 0 < b) (hk : k < 64) : bits .or .u64 (qTo a b (k + 1)) (IntKind.u64.wrap (2 ^ k)) = qTo a b (k + 1) + 2 ^ k := by
  have hq := qTo_bd a b (k + 1) ha0 hb0
  have hp := pow_pos' k
  have hlt : (2 : Nat) ^ k < 2 ^ 64 := Nat.pow_lt_pow_right (by omega) hk
  have hz : 0 ≤ a / 2 ^ (k + 1) / b := Int.ediv_nonneg (Int.ediv_nonneg ha0 (Int.le_of_lt (pow_pos' _))) (Int.le_of_lt hb0)
  obtain ⟨n, hn⟩ := Int.eq_ofNat_of_zero_le hz
  have e1 : qTo a b (k + 1) = ((n * 2 ^ (k + 1) : Nat) : Int) := by unfold qTo; rw [hn]; simp
  have e2 : (2 : Int) ^ k = ((2 ^ k : Nat) : Int) := by simp
  have e3 : IntKind.u64.wrap (2 ^ k) = 2 ^ k := by rw [IntKind.wrap_u64, e2]; omega
  rw [e3]
  rw [e1] at hq ⊢
  rw [e2, u64_or_nat _ _ (by omega) (by omega), nat_join (k + 1) _ _ (Nat.mul_mod_left _ _) (Nat.pow_lt_pow_right (by omega) (by omega))]
  rfl
theorem qTo_yes (a b : Int) (k : Nat) (h : a / 2 ^ k / b = 2 * (a / 2 ^ (k + 1) / b) + 1) : qTo a b (k + 1) + 2 ^ k = qTo a b k := by
  unfold qTo
  rw [h, Int.add_mul, Int.one_mul, Int.pow_succ, Int.mul_comm 2, Int.mul_assoc, Int.mul_comm 2 (2 ^ k)]
theorem qTo_no (a b : Int) (k : Nat) (h : a / 2 ^ k / b = 2 * (a / 2 ^ (k + 1) / b)) : qTo a b (k + 1) = qTo a b k := by
  unfold qTo
  rw [h, Int.pow_succ, Int.mul_comm 2, Int.mul_assoc, Int.mul_comm 2 (2 ^ k)]
theorem qr_start (a b : Int) (ha0 : 0 ≤ a) (ha : a < 18446744073709551616) : qTo a b 64 = 0 ∧ rTo a b 64 = 0 := by
  have e : a / 2 ^ 64 = 0 := Int.ediv_eq_zero_of_lt ha0 (by simpa using ha)
  unfold qTo rTo
  rw [e]
  simp
theorem qr_end (a b : Int) : qTo a b 0 = a / b ∧ rTo a b 0 = a % b := by simp [qTo, rTo]
theorem udiv_any (a b : Int) (w : World) (ha0 : 0 ≤ a) (ha : a < 18446744073709551616) (hb0 : 0 < b) (hb : b < 18446744073709551616) :
    Calls Try.prog 132 #[.int .u64 a, .int .u64 b] w fun e w' => e = .returned (.tuple #[.int .u64 (a / b), .int .u64 (a % b)]) ∧ w = w' := by
  rw [← (qr_end a b).1, ← (qr_end a b).2]
  go_enter Try.func132, Try.ntmps132
  go_wp2_with fail
  go_loop [6, 7, 8] (fun q r i => ∃ m : Nat, m ≤ 64 ∧ i = .int .i64 ((m : Int) - 1) ∧ q = .int .u64 (qTo a b m) ∧ r = .int .u64 (rTo a b m)) (fun _ _ i => (intOf i + 1).toNat)
  case atStart => exact ⟨64, by omega, rfl, by rw [(qr_start a b ha0 ha).1], by rw [(qr_start a b ha0 ha).2]⟩
  case round =>
    obtain ⟨m, hm, rfl, rfl, rfl⟩ := hrel
    cases m with
    | zero =>
      go_wp2
      go_ret2
      exact ⟨rfl, rfl⟩
    | succ k =>
      have hx := or_x a b k
      have hs := shr_bd a k ha0
      have hand := and_one (a / 2 ^ k) hs.1 (by omega)
      have hrb := rTo_bd a b (k + 1) hb0
      have hcase := xTo_is a b k hb0 hb
      have hxb : 0 ≤ xTo a b k ∧ xTo a b k < 18446744073709551616 := by have := less_bit a k; omega
      have hoq := or_q a b k ha0 ha hb0 (by omega)
      have HE := Lib.hid hcase
      clear hs hcase
      rw [show ((k + 1 : Nat) : Int) - 1 = (k : Int) from by omega]
      by_cases hc : rTo a b (k + 1) / 9223372036854775808 = 1
      · have hcb : (rTo a b (k + 1) / 9223372036854775808 == 1) = true := by simp [hc]
        have HC := Lib.hid hc
        clear hc
        go_wp2_with (first | (go_at_call 117; refine (turned_any _ _ (by omega) (by omega)).mono ?_; rintro e w' ⟨rfl, rfl⟩) | (go_at_call 119; refine (add_any _ _ _ hxb.1 hxb.2 (by omega) (by omega)).mono ?_; rintro e w' ⟨rfl, rfl⟩))
        have hr := reduce_yes a b k hb0
        have h3 := less_bit a k
        have hH := HE.out
        have hC := HC.out
        have hR := hr (by omega)
        go_round
        case rel => exact ⟨k, by omega, rfl, by rw [qTo_yes a b k hR.2], by rw [hR.1]; congr 1; omega⟩
        case measure => simp [intOf]
      · have hcb : (rTo a b (k + 1) / 9223372036854775808 == 1) = false := by simp [hc]
        have HC := Lib.hid hc
        clear hc
        by_cases hle : b ≤ xTo a b k
        · go_wp2_with (first | (go_at_call 117; refine (turned_any _ _ (by omega) (by omega)).mono ?_; rintro e w' ⟨rfl, rfl⟩) | (go_at_call 119; refine (add_any _ _ _ hxb.1 hxb.2 (by omega) (by omega)).mono ?_; rintro e w' ⟨rfl, rfl⟩))
          have hr := reduce_yes a b k hb0
          have h3 := less_bit a k
          have hH := HE.out
          have hC := HC.out
          have hR := hr (by omega)
          go_round
          case rel => exact ⟨k, by omega, rfl, by rw [qTo_yes a b k hR.2], by rw [hR.1]; congr 1; omega⟩
          case measure => simp [intOf]
        · have hlt : xTo a b k < b := by omega
          clear hle
          go_wp2
          have hr := reduce_no a b k hb0
          have h3 := less_bit a k
          have hH := HE.out
          have hC := HC.out
          have hR := hr (by omega)
          go_round
          case rel => exact ⟨k, by omega, rfl, by rw [qTo_no a b k hR.2], by rw [hR.1]; congr 1; omega⟩
          case measure => simp [intOf]
theorem u64_of (a : Int) (ha : InI a) : IntKind.u64.wrap a = if a < 0 then a + 18446744073709551616 else a := by
  unfold InI at ha
  rw [IntKind.wrap_u64]
  split <;> omega
theorem rsize_any (a : Int) (w : World) (ha : InI a) : Calls Try.prog 133 #[.int .i64 a] w fun e w' => e = .returned (.int .u64 (a.natAbs : Int)) ∧ w = w' := by
  have hu := u64_of a ha
  by_cases h : a < 0
  · rw [if_pos h] at hu
    have e : ((a.natAbs : Nat) : Int) = (-(a + 18446744073709551616)) % 18446744073709551616 := by unfold InI at ha; omega
    rw [e]; clear e
    have h1 : 0 ≤ a + 18446744073709551616 := by unfold InI at ha; omega
    go_enter Try.func133, Try.ntmps133
    go_wp2_with (go_at_call 117; refine (turned_any _ _ (by omega) (by omega)).mono ?_; rintro e w' ⟨rfl, rfl⟩)
    go_ret
    exact ⟨rfl, rfl⟩
  · rw [if_neg h] at hu
    have e : ((a.natAbs : Nat) : Int) = a := by omega
    rw [e]; clear e
    go_enter Try.func133, Try.ntmps133
    go_wp2
    go_ret
    exact ⟨rfl, rfl⟩
end Go.Proofs.Ytnbclbphggmenaa.Wd
