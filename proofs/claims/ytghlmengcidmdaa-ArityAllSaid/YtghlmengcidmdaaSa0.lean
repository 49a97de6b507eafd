/- Parts of BWord: walks and plain laws that later texts use. Conditions: as each statement says. -/
import Derived.WalkKit
import Derived.Test.YtghlmengcidmdaaRows
import Derived.WalkSpells
import Derived.Lib.Hide
import Derived.Below
import Derived.Laws.BitsAllLaws
/- Plain definitions: what the reckoning of one and of two numbers of 64 bits comes to. No program. Conditions: none.
   What the Go functions word.bit, word.divide, word.compare, word.One, word.Two, word.Truth compute, walked once each. Conditions: the numbers fit 64 bits.
   Plain laws of numbers of 64 bits. Conditions: none.
   Plain laws of reckoning modulo 2^64. No program. Conditions: none.
   What the Go functions of the reference that reckon with halves and bits compute (low, high, add, turned, mul, div, size, quotient, less, compare, One, Two). Conditions: the numbers fit 64 bits.
   What the Go functions of the reference quotient, truth, less, compare, One, Two compute. Conditions: the numbers fit 64 bits.
   What the Go functions One and Two of the reference compute: the same as those of the program. Conditions: the numbers fit 64 bits. -/
section
namespace Go.Proofs.Ytghlmengcidmdaa.Wd
open Go.RowKit
end Go.Proofs.Ytghlmengcidmdaa.Wd
end
section
namespace Go.Proofs.Ytghlmengcidmdaa.Wd
open Go.RowKit
end Go.Proofs.Ytghlmengcidmdaa.Wd
end
section
namespace Go.Proofs.Ytghlmengcidmdaa.Wd
open Go.RowKit
theorem wrap_bd (x : Int) : -9223372036854775808 ≤ wrap64 x ∧ wrap64 x ≤ 9223372036854775807 := by unfold wrap64; omega
def InI (x : Int) : Prop := -9223372036854775808 ≤ x ∧ x ≤ 9223372036854775807
theorem InI_zero : InI 0 := by unfold InI; omega
end Go.Proofs.Ytghlmengcidmdaa.Wd
end
section
namespace Go.Proofs.Ytghlmengcidmdaa.Wd
open Go.RowKit
end Go.Proofs.Ytghlmengcidmdaa.Wd
end
section
namespace Go.Proofs.Ytghlmengcidmdaa.Wd
open Go.RowKit
end Go.Proofs.Ytghlmengcidmdaa.Wd
end
section
namespace Go.Proofs.Ytghlmengcidmdaa.Wd
open Go.RowKit
end Go.Proofs.Ytghlmengcidmdaa.Wd
end
section
namespace Go.Proofs.Ytghlmengcidmdaa.Wd
open Go.RowKit
end Go.Proofs.Ytghlmengcidmdaa.Wd
end
