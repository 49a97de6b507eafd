/- What Mod of the reference computes: the rest, never below 0. Conditions: the divisor is at least 1 and at most 1000000. -/
import Derived.Test.YtnbclbphggmenaaBTr
import Derived.IntWalk
namespace Go.Proofs.Ytnbclbphggmenaa.Tr
open Go.RowKit
theorem ret_i64 {a b : Int} (h : a = b) : Ending.returned (.int .i64 a) = .returned (.int .i64 b) := by rw [h]
theorem mod_any (n k r : Int) (w : World) (hn1 : -9223372036854775808 ≤ n) (hn2 : n ≤ 9223372036854775807) (hk1 : 1 ≤ k) (hk2 : k ≤ 1000000) (hr : n % k = r) :
    Calls Try.prog 44 #[.int .i64 n, .int .i64 k] w fun e w' => e = .returned (.int .i64 r) ∧ w = w' := by
  have h0 := Int.emod_nonneg n (b := k) (by omega)
  have h1 := Int.emod_lt_of_pos n (b := k) (by omega)
  have hk : ¬ k < 1 := by omega
  have HR := Lib.hid hr
  clear hr
  by_cases hneg : 0 ≤ n
  · have hr0 : decide (n % k < 0) = false := by simpa using h0
    go_enter Try.func44, Try.ntmps44
    go_wp2
    go_ret
    exact ⟨ret_i64 HR.out, rfl⟩
  · have ht := Int.tmod_eq_emod (a := n) (b := k)
    by_cases hz : n % k = 0
    · have hd : k ∣ n := Int.dvd_of_emod_eq_zero hz
      rw [if_pos (.inr hd), hz] at ht
      have HT : Hid (n.tmod k = 0) := Lib.hid (by omega)
      have hr0 : decide (n.tmod k < 0) = false := by rw [HT.out]; rfl
      have HZ := Lib.hid hz
      clear ht hd hz h0 h1
      go_enter Try.func44, Try.ntmps44
      go_wp2
      go_ret
      exact ⟨ret_i64 (by rw [HT.out, ← HR.out, HZ.out]), rfl⟩
    · have hd : ¬ k ∣ n := fun h => hz (Int.emod_eq_zero_of_dvd h)
      rw [if_neg (by simp; omega)] at ht
      have b1 : -1000000 ≤ n.tmod k := by omega
      have b2 : n.tmod k < 0 := by omega
      have b3 : n.tmod k + k = r := by have := HR.out; omega
      have HB := Lib.hid b3
      have hr0 : decide (n.tmod k < 0) = true := by simpa using b2
      have hsum : wrap64 (n.tmod k + k) = n.tmod k + k := IntWalk.wrap64_in _ (by omega)
      have HS := Lib.hid hsum
      clear ht hd hz h0 h1 b3 hsum
      go_enter Try.func44, Try.ntmps44
      go_wp2
      go_ret
      exact ⟨ret_i64 (by first | exact HB.out | (rw [HS.out]; exact HB.out)), rfl⟩
end Go.Proofs.Ytnbclbphggmenaa.Tr
