/- Plain laws of numbers of 64 bits. Conditions: none. -/
import Derived.Test.YtnbclbphggmenaaWordW
import Derived.Below
namespace Go.Proofs.Ytnbclbphggmenaa.Wd
open Go.RowKit
theorem ret1 {k : IntKind} {a b : Int} (h : a = b) : Ending.returned (.int k a) = .returned (.int k b) := by rw [h]
theorem wrap_bd (x : Int) : -9223372036854775808 ≤ wrap64 x ∧ wrap64 x ≤ 9223372036854775807 := by unfold wrap64; omega
theorem bitI_bd (b : Bool) : 0 ≤ bitI b ∧ bitI b ≤ 1 := by cases b <;> decide
def InI (x : Int) : Prop := -9223372036854775808 ≤ x ∧ x ≤ 9223372036854775807
theorem InI_ite {c : Prop} [Decidable c] {x y : Int} (hx : InI x) (hy : InI y) : InI (if c then x else y) := by split <;> assumption
theorem InI_wrap (x : Int) : InI (wrap64 x) := wrap_bd x
theorem InI_bit (b : Bool) : InI (bitI b) := by have := bitI_bd b; unfold InI; omega
theorem InI_zero : InI 0 := by unfold InI; omega
theorem InI_tmod (a b : Int) (ha : InI a) : InI (a.tmod b) := by
  have h := Int.natAbs_tmod a b
  have h2 := Nat.mod_le a.natAbs b.natAbs
  rw [← h] at h2
  by_cases hz : 0 ≤ a
  · have := Int.tmod_nonneg b hz
    unfold InI at *
    omega
  · have h3 : (-a).tmod b = -(a.tmod b) := Int.neg_tmod a b
    have := Int.tmod_nonneg b (a := -a) (by omega)
    unfold InI at *
    omega
theorem InI_div (op a b : Int) (ha : InI a) : InI (divV op a b) := InI_ite InI_zero (InI_ite (InI_tmod _ _ ha) (InI_wrap _))
theorem InI_cmp (op a b : Int) : InI (cmpV op a b) :=
  InI_ite (InI_bit _) (InI_ite (InI_bit _) (InI_ite (InI_bit _) (InI_ite (InI_bit _) (InI_ite (InI_bit _) (InI_ite (InI_bit _) InI_zero)))))
theorem InI_two (op a b : Int) (ha : InI a) : InI (twoV op a b) :=
  InI_ite (InI_wrap _) (InI_ite (InI_wrap _) (InI_ite (InI_wrap _) (InI_ite (InI_div _ _ _ ha) (InI_ite (InI_bit _) (InI_ite (InI_bit _) (InI_cmp _ _ _))))))
theorem InI_one (op a : Int) : InI (oneV op a) := InI_ite (InI_wrap _) (InI_ite (InI_bit _) InI_zero)
theorem not64 (a : Int) (h1 : -9223372036854775808 ≤ a) (h2 : a ≤ 9223372036854775807) : bits .xor .i64 (-1) a = -1 - a := by
  have e : BitVec.ofInt 64 (-1) ^^^ BitVec.ofInt 64 a = ~~~ (BitVec.ofInt 64 a) := by
    have : BitVec.ofInt 64 (-1) = BitVec.allOnes 64 := by decide
    rw [this, BitVec.allOnes_xor]
  show IntKind.i64.wrap ((BitVec.ofInt 64 (-1) ^^^ BitVec.ofInt 64 a).toNat : Int) = _
  rw [e, BitVec.toNat_not, BitVec.toNat_ofInt, IntKind.wrap_i64]
  omega
end Go.Proofs.Ytnbclbphggmenaa.Wd
