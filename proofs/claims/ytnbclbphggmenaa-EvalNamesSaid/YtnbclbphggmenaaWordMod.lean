/- Plain laws of reckoning modulo 2^64. No program. Conditions: none. -/
import Derived.Test.YtnbclbphggmenaaWordL
namespace Go.Proofs.Ytnbclbphggmenaa.Wd
open Go.RowKit
theorem w64 (x : Int) : wrap64 x = (x + 9223372036854775808) % 18446744073709551616 - 9223372036854775808 := by unfold wrap64; rfl
theorem wrap_eq {x y : Int} (h : x % 18446744073709551616 = y % 18446744073709551616) : wrap64 x = wrap64 y := by rw [w64, w64]; omega
theorem wrap_mod (x : Int) : wrap64 x % 18446744073709551616 = x % 18446744073709551616 := by rw [w64]; omega
theorem wrap_in {x : Int} (h : InI x) : wrap64 x = x := by unfold InI at h; rw [w64]; omega
theorem mul_l (x y : Int) : wrap64 (wrap64 x * y) = wrap64 (x * y) := wrap_eq (by rw [Int.mul_emod, wrap_mod, ← Int.mul_emod])
theorem mul_r (x y : Int) : wrap64 (x * wrap64 y) = wrap64 (x * y) := wrap_eq (by rw [Int.mul_emod, wrap_mod, ← Int.mul_emod])
theorem add_l (x y : Int) : wrap64 (wrap64 x + y) = wrap64 (x + y) := wrap_eq (by rw [Int.add_emod, wrap_mod, ← Int.add_emod])
theorem add_r (x y : Int) : wrap64 (x + wrap64 y) = wrap64 (x + y) := wrap_eq (by rw [Int.add_emod, wrap_mod, ← Int.add_emod])
theorem sub_l (x y : Int) : wrap64 (wrap64 x - y) = wrap64 (x - y) := wrap_eq (by rw [Int.sub_emod, wrap_mod, ← Int.sub_emod])
theorem neg_w (x : Int) : wrap64 (-(wrap64 x)) = wrap64 (-x) := wrap_eq (by have := wrap_mod x; omega)
theorem t8 (a b : Int) : twoV 8 a b = wrap64 (a + b) := rfl
theorem t9 (a b : Int) : twoV 9 a b = wrap64 (a - b) := rfl
theorem t5 (a b : Int) : twoV 5 a b = wrap64 (a * b) := rfl
theorem o3 (a : Int) : oneV 3 a = wrap64 (-a) := rfl
end Go.Proofs.Ytnbclbphggmenaa.Wd
