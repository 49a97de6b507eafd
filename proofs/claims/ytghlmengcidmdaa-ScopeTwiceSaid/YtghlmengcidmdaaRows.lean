/-
  NARROWER THAN 'FOR EVERY INPUT', by the rows' own cells (each row's printed sentence says how): ArityAll: loops · ArityTurned: loops · ScopeAll: loops · ScopeCheck: loops · ScopeOne: loops · ScopeNew: loops · ScopeTwice: loops · ScopeSwap: loops · JumpAll: loops · JumpLoop: loops · JumpTurned: loops · ScopeSaid: loops · JumpOne: loops.
  DERIVED. THE GIVEN ROWS OF THIS SEAT. 13 by the template 'for every input the law returns true; each argument reads behind the call as it read before'; 0 by the template 'total and deterministic' (their statements: YtghlmengcidmdaaTotals.lean).
  GIVEN WITH THE SEED: the statements are not yours to turn. If you find one false, say at which input.
  Laid BY PROGRAM, IN A SANDBOX (cutbox-rows.mjs): the forced cells as the released guide's own fill.sh prints them over the translation 0c0000c408c184a2… (all of the seat's roots in one cut). By AI agents, Wed Nov 11 2026. No macro, syntax, notation, axiom, sorry.
-/
import Derived.Test.YtghlmengcidmdaaChecked
import GoSem.Claim
import GoSem.ClaimJoined
import GoSem.ClaimMapViews
import Derived.JoinedTies
import Derived.KernelRfl
namespace Go.Proofs.Ytghlmengcidmdaa
/- THE CELL 'sum', in the pinned program and in every row, IS THE sha256 OF THE DUMP (.gsa) THAT YtghlmengcidmdaaProg.lean LOADS. Nothing in Lean hashes anything: it is a label: what it is worth is what the hold of that sum in a sandbox is worth. -/
noncomputable def Try.pinned : Pinned := { name := "ytghlmengcidmdaa", sum := "0c0000c408c184a23cecc8fab3e46cbf2ee754ba24da2a9fa6b8cb485171ed39", checked := Try.checked }
namespace Rows
def none {H : Type} : Left H := { results := [], args := [] }

/-- 'whittlerlaw7.ArityAll': WHATEVER THE INPUT: true; the input reads as it did. -/
def arityAllSpec : ChangeSpec := { name := "arityAll", fn := fun _ => fun
  | [d1, d2] => { results := [.lit (.bool true)], args := [d1, d2] }
  | _ => none }
def arityAllRow : OpenClaim := { program := "ytghlmengcidmdaa", sum := "0c0000c408c184a23cecc8fab3e46cbf2ee754ba24da2a9fa6b8cb485171ed39", func := "whittler/whittlerlaw7.ArityAll", spec := "arityAll", unfollowed := true, recurses := true, loops := true, apart := false }
def ArityAllSaid : Prop := arityAllRow.holds Try.pinned (OpenSpec.ofChange arityAllSpec)

/-- ITS FALSE NEIGHBOUR: 'it returns false'. Refute it at one input. -/
def arityAllWrong : ChangeSpec := { name := "arityAll", fn := fun _ => fun
  | [d1, d2] => { results := [.lit (.bool false)], args := [d1, d2] }
  | _ => none }
def ArityAllWrongFalsely : Prop := arityAllRow.holds Try.pinned (OpenSpec.ofChange arityAllWrong)

/-- 'whittlerlaw7.ArityTurned': WHATEVER THE INPUT: true; the input reads as it did. -/
def arityTurnedSpec : ChangeSpec := { name := "arityTurned", fn := fun _ => fun
  | [d1, d2, d3, d4] => { results := [.lit (.bool true)], args := [d1, d2, d3, d4] }
  | _ => none }
def arityTurnedRow : OpenClaim := { program := "ytghlmengcidmdaa", sum := "0c0000c408c184a23cecc8fab3e46cbf2ee754ba24da2a9fa6b8cb485171ed39", func := "whittler/whittlerlaw7.ArityTurned", spec := "arityTurned", unfollowed := true, recurses := true, loops := true, apart := false }
def ArityTurnedSaid : Prop := arityTurnedRow.holds Try.pinned (OpenSpec.ofChange arityTurnedSpec)

/-- ITS FALSE NEIGHBOUR: 'it returns false'. Refute it at one input. -/
def arityTurnedWrong : ChangeSpec := { name := "arityTurned", fn := fun _ => fun
  | [d1, d2, d3, d4] => { results := [.lit (.bool false)], args := [d1, d2, d3, d4] }
  | _ => none }
def ArityTurnedWrongFalsely : Prop := arityTurnedRow.holds Try.pinned (OpenSpec.ofChange arityTurnedWrong)

/-- 'whittlerlaw6.ScopeAll': WHATEVER THE INPUT: true; the input reads as it did. -/
def scopeAllSpec : ChangeSpec := { name := "scopeAll", fn := fun _ => fun
  | [d1, d2, d3] => { results := [.lit (.bool true)], args := [d1, d2, d3] }
  | _ => none }
def scopeAllRow : OpenClaim := { program := "ytghlmengcidmdaa", sum := "0c0000c408c184a23cecc8fab3e46cbf2ee754ba24da2a9fa6b8cb485171ed39", func := "whittler/whittlerlaw6.ScopeAll", spec := "scopeAll", unfollowed := true, recurses := true, loops := true, apart := false }
def ScopeAllSaid : Prop := scopeAllRow.holds Try.pinned (OpenSpec.ofChange scopeAllSpec)

/-- ITS FALSE NEIGHBOUR: 'it returns false'. Refute it at one input. -/
def scopeAllWrong : ChangeSpec := { name := "scopeAll", fn := fun _ => fun
  | [d1, d2, d3] => { results := [.lit (.bool false)], args := [d1, d2, d3] }
  | _ => none }
def ScopeAllWrongFalsely : Prop := scopeAllRow.holds Try.pinned (OpenSpec.ofChange scopeAllWrong)

/-- 'whittlerlaw6.ScopeCheck': WHATEVER THE INPUT: true; the input reads as it did. -/
def scopeCheckSpec : ChangeSpec := { name := "scopeCheck", fn := fun _ => fun
  | [d] => { results := [.lit (.bool true)], args := [d] }
  | _ => none }
def scopeCheckRow : OpenClaim := { program := "ytghlmengcidmdaa", sum := "0c0000c408c184a23cecc8fab3e46cbf2ee754ba24da2a9fa6b8cb485171ed39", func := "whittler/whittlerlaw6.ScopeCheck", spec := "scopeCheck", unfollowed := true, recurses := true, loops := true, apart := false }
def ScopeCheckSaid : Prop := scopeCheckRow.holds Try.pinned (OpenSpec.ofChange scopeCheckSpec)

/-- ITS FALSE NEIGHBOUR: 'it returns false'. Refute it at one input. -/
def scopeCheckWrong : ChangeSpec := { name := "scopeCheck", fn := fun _ => fun
  | [d] => { results := [.lit (.bool false)], args := [d] }
  | _ => none }
def ScopeCheckWrongFalsely : Prop := scopeCheckRow.holds Try.pinned (OpenSpec.ofChange scopeCheckWrong)

/-- 'whittlerlaw6.ScopeOne': WHATEVER THE INPUT: true; the input reads as it did. -/
def scopeOneSpec : ChangeSpec := { name := "scopeOne", fn := fun _ => fun
  | [d1, d2] => { results := [.lit (.bool true)], args := [d1, d2] }
  | _ => none }
def scopeOneRow : OpenClaim := { program := "ytghlmengcidmdaa", sum := "0c0000c408c184a23cecc8fab3e46cbf2ee754ba24da2a9fa6b8cb485171ed39", func := "whittler/whittlerlaw6.ScopeOne", spec := "scopeOne", unfollowed := true, recurses := true, loops := true, apart := false }
def ScopeOneSaid : Prop := scopeOneRow.holds Try.pinned (OpenSpec.ofChange scopeOneSpec)

/-- ITS FALSE NEIGHBOUR: 'it returns false'. Refute it at one input. -/
def scopeOneWrong : ChangeSpec := { name := "scopeOne", fn := fun _ => fun
  | [d1, d2] => { results := [.lit (.bool false)], args := [d1, d2] }
  | _ => none }
def ScopeOneWrongFalsely : Prop := scopeOneRow.holds Try.pinned (OpenSpec.ofChange scopeOneWrong)

/-- 'whittlerlaw6.ScopeNew': WHATEVER THE INPUT: true; the input reads as it did. -/
def scopeNewSpec : ChangeSpec := { name := "scopeNew", fn := fun _ => fun
  | [d1, d2, d3] => { results := [.lit (.bool true)], args := [d1, d2, d3] }
  | _ => none }
def scopeNewRow : OpenClaim := { program := "ytghlmengcidmdaa", sum := "0c0000c408c184a23cecc8fab3e46cbf2ee754ba24da2a9fa6b8cb485171ed39", func := "whittler/whittlerlaw6.ScopeNew", spec := "scopeNew", unfollowed := true, recurses := true, loops := true, apart := false }
def ScopeNewSaid : Prop := scopeNewRow.holds Try.pinned (OpenSpec.ofChange scopeNewSpec)

/-- ITS FALSE NEIGHBOUR: 'it returns false'. Refute it at one input. -/
def scopeNewWrong : ChangeSpec := { name := "scopeNew", fn := fun _ => fun
  | [d1, d2, d3] => { results := [.lit (.bool false)], args := [d1, d2, d3] }
  | _ => none }
def ScopeNewWrongFalsely : Prop := scopeNewRow.holds Try.pinned (OpenSpec.ofChange scopeNewWrong)

/-- 'whittlerlaw6.ScopeTwice': WHATEVER THE INPUT: true; the input reads as it did. -/
def scopeTwiceSpec : ChangeSpec := { name := "scopeTwice", fn := fun _ => fun
  | [d1, d2, d3, d4] => { results := [.lit (.bool true)], args := [d1, d2, d3, d4] }
  | _ => none }
def scopeTwiceRow : OpenClaim := { program := "ytghlmengcidmdaa", sum := "0c0000c408c184a23cecc8fab3e46cbf2ee754ba24da2a9fa6b8cb485171ed39", func := "whittler/whittlerlaw6.ScopeTwice", spec := "scopeTwice", unfollowed := true, recurses := true, loops := true, apart := false }
def ScopeTwiceSaid : Prop := scopeTwiceRow.holds Try.pinned (OpenSpec.ofChange scopeTwiceSpec)

/-- ITS FALSE NEIGHBOUR: 'it returns false'. Refute it at one input. -/
def scopeTwiceWrong : ChangeSpec := { name := "scopeTwice", fn := fun _ => fun
  | [d1, d2, d3, d4] => { results := [.lit (.bool false)], args := [d1, d2, d3, d4] }
  | _ => none }
def ScopeTwiceWrongFalsely : Prop := scopeTwiceRow.holds Try.pinned (OpenSpec.ofChange scopeTwiceWrong)

/-- 'whittlerlaw6.ScopeSwap': WHATEVER THE INPUT: true; the input reads as it did. -/
def scopeSwapSpec : ChangeSpec := { name := "scopeSwap", fn := fun _ => fun
  | [d1, d2, d3, d4, d5] => { results := [.lit (.bool true)], args := [d1, d2, d3, d4, d5] }
  | _ => none }
def scopeSwapRow : OpenClaim := { program := "ytghlmengcidmdaa", sum := "0c0000c408c184a23cecc8fab3e46cbf2ee754ba24da2a9fa6b8cb485171ed39", func := "whittler/whittlerlaw6.ScopeSwap", spec := "scopeSwap", unfollowed := true, recurses := true, loops := true, apart := false }
def ScopeSwapSaid : Prop := scopeSwapRow.holds Try.pinned (OpenSpec.ofChange scopeSwapSpec)

/-- ITS FALSE NEIGHBOUR: 'it returns false'. Refute it at one input. -/
def scopeSwapWrong : ChangeSpec := { name := "scopeSwap", fn := fun _ => fun
  | [d1, d2, d3, d4, d5] => { results := [.lit (.bool false)], args := [d1, d2, d3, d4, d5] }
  | _ => none }
def ScopeSwapWrongFalsely : Prop := scopeSwapRow.holds Try.pinned (OpenSpec.ofChange scopeSwapWrong)

/-- 'whittlerlaw8.JumpAll': WHATEVER THE INPUT: true; the input reads as it did. -/
def jumpAllSpec : ChangeSpec := { name := "jumpAll", fn := fun _ => fun
  | [d1, d2, d3, d4] => { results := [.lit (.bool true)], args := [d1, d2, d3, d4] }
  | _ => none }
def jumpAllRow : OpenClaim := { program := "ytghlmengcidmdaa", sum := "0c0000c408c184a23cecc8fab3e46cbf2ee754ba24da2a9fa6b8cb485171ed39", func := "whittler/whittlerlaw8.JumpAll", spec := "jumpAll", unfollowed := true, recurses := true, loops := true, apart := false }
def JumpAllSaid : Prop := jumpAllRow.holds Try.pinned (OpenSpec.ofChange jumpAllSpec)

/-- ITS FALSE NEIGHBOUR: 'it returns false'. Refute it at one input. -/
def jumpAllWrong : ChangeSpec := { name := "jumpAll", fn := fun _ => fun
  | [d1, d2, d3, d4] => { results := [.lit (.bool false)], args := [d1, d2, d3, d4] }
  | _ => none }
def JumpAllWrongFalsely : Prop := jumpAllRow.holds Try.pinned (OpenSpec.ofChange jumpAllWrong)

/-- 'whittlerlaw8.JumpLoop': WHATEVER THE INPUT: true; the input reads as it did. -/
def jumpLoopSpec : ChangeSpec := { name := "jumpLoop", fn := fun _ => fun
  | [d1, d2] => { results := [.lit (.bool true)], args := [d1, d2] }
  | _ => none }
def jumpLoopRow : OpenClaim := { program := "ytghlmengcidmdaa", sum := "0c0000c408c184a23cecc8fab3e46cbf2ee754ba24da2a9fa6b8cb485171ed39", func := "whittler/whittlerlaw8.JumpLoop", spec := "jumpLoop", unfollowed := true, recurses := true, loops := true, apart := false }
def JumpLoopSaid : Prop := jumpLoopRow.holds Try.pinned (OpenSpec.ofChange jumpLoopSpec)

/-- ITS FALSE NEIGHBOUR: 'it returns false'. Refute it at one input. -/
def jumpLoopWrong : ChangeSpec := { name := "jumpLoop", fn := fun _ => fun
  | [d1, d2] => { results := [.lit (.bool false)], args := [d1, d2] }
  | _ => none }
def JumpLoopWrongFalsely : Prop := jumpLoopRow.holds Try.pinned (OpenSpec.ofChange jumpLoopWrong)

/-- 'whittlerlaw8.JumpTurned': WHATEVER THE INPUT: true; the input reads as it did. -/
def jumpTurnedSpec : ChangeSpec := { name := "jumpTurned", fn := fun _ => fun
  | [d1, d2, d3, d4] => { results := [.lit (.bool true)], args := [d1, d2, d3, d4] }
  | _ => none }
def jumpTurnedRow : OpenClaim := { program := "ytghlmengcidmdaa", sum := "0c0000c408c184a23cecc8fab3e46cbf2ee754ba24da2a9fa6b8cb485171ed39", func := "whittler/whittlerlaw8.JumpTurned", spec := "jumpTurned", unfollowed := true, recurses := true, loops := true, apart := false }
def JumpTurnedSaid : Prop := jumpTurnedRow.holds Try.pinned (OpenSpec.ofChange jumpTurnedSpec)

/-- ITS FALSE NEIGHBOUR: 'it returns false'. Refute it at one input. -/
def jumpTurnedWrong : ChangeSpec := { name := "jumpTurned", fn := fun _ => fun
  | [d1, d2, d3, d4] => { results := [.lit (.bool false)], args := [d1, d2, d3, d4] }
  | _ => none }
def JumpTurnedWrongFalsely : Prop := jumpTurnedRow.holds Try.pinned (OpenSpec.ofChange jumpTurnedWrong)

/-- 'whittlerlaw6.ScopeSaid': WHATEVER THE INPUT: true; the input reads as it did. -/
def scopeSaidSpec : ChangeSpec := { name := "scopeSaid", fn := fun _ => fun
  | [d1, d2] => { results := [.lit (.bool true)], args := [d1, d2] }
  | _ => none }
def scopeSaidRow : OpenClaim := { program := "ytghlmengcidmdaa", sum := "0c0000c408c184a23cecc8fab3e46cbf2ee754ba24da2a9fa6b8cb485171ed39", func := "whittler/whittlerlaw6.ScopeSaid", spec := "scopeSaid", unfollowed := true, recurses := true, loops := true, apart := false }
def ScopeSaidSaid : Prop := scopeSaidRow.holds Try.pinned (OpenSpec.ofChange scopeSaidSpec)

/-- ITS FALSE NEIGHBOUR: 'it returns false'. Refute it at one input. -/
def scopeSaidWrong : ChangeSpec := { name := "scopeSaid", fn := fun _ => fun
  | [d1, d2] => { results := [.lit (.bool false)], args := [d1, d2] }
  | _ => none }
def ScopeSaidWrongFalsely : Prop := scopeSaidRow.holds Try.pinned (OpenSpec.ofChange scopeSaidWrong)

/-- 'whittlerlaw8.JumpOne': WHATEVER THE INPUT: true; the input reads as it did. -/
def jumpOneSpec : ChangeSpec := { name := "jumpOne", fn := fun _ => fun
  | [d1, d2] => { results := [.lit (.bool true)], args := [d1, d2] }
  | _ => none }
def jumpOneRow : OpenClaim := { program := "ytghlmengcidmdaa", sum := "0c0000c408c184a23cecc8fab3e46cbf2ee754ba24da2a9fa6b8cb485171ed39", func := "whittler/whittlerlaw8.JumpOne", spec := "jumpOne", unfollowed := true, recurses := true, loops := true, apart := false }
def JumpOneSaid : Prop := jumpOneRow.holds Try.pinned (OpenSpec.ofChange jumpOneSpec)

/-- ITS FALSE NEIGHBOUR: 'it returns false'. Refute it at one input. -/
def jumpOneWrong : ChangeSpec := { name := "jumpOne", fn := fun _ => fun
  | [d1, d2] => { results := [.lit (.bool false)], args := [d1, d2] }
  | _ => none }
def JumpOneWrongFalsely : Prop := jumpOneRow.holds Try.pinned (OpenSpec.ofChange jumpOneWrong)

/- THE SECOND FORM. 'bulk': how many values and letters a reading holds, each counted each time it is reached (what is shared counts as often as it is met; a slice's spare places count too). A statement '..UptoSaid' is the law's where the arguments, and the package variables that the reading takes, are together of bulk at most 1048576: NARROWER than '..Said'. Prove '..Said' where nothing that the law and all that it calls make is longer than what came in: it says more and counts as full. Else prove '..UptoSaid'. A law counts once. -/
mutual
def uptoBulk {H : Type} : DataW H → Nat
  | .lit (.string bytes) => bytes.length + 1
  | .lit _ => 1
  | .nil => 1
  | .ptr d => uptoBulk d + 1
  | .slice elems spare => uptoBulkAll elems + uptoBulkAll spare + 1
  | .agg parts => uptoBulkAll parts + 1
  | .iface _ d => uptoBulk d + 1
  | .map entries => uptoBulkEntries entries + 1
  | .held _ => 1
def uptoBulkAll {H : Type} : List (DataW H) → Nat
  | [] => 0
  | d :: r => uptoBulk d + uptoBulkAll r
def uptoBulkEntries {H : Type} : List (Lit × DataW H) → Nat
  | [] => 0
  | x :: r => uptoBulkEntry x + uptoBulkEntries r
def uptoBulkEntry {H : Type} : Lit × DataW H → Nat
  | (.string bytes, d) => bytes.length + uptoBulk d + 1
  | (_, d) => uptoBulk d + 1
 end
def uptoSmall : (H : Type) → List (DataW H) → Bool := fun _ ds => decide (uptoBulkAll ds ≤ 1048576)
def OpenSpec.upto (s : _root_.Go.ChangeSpec) : _root_.Go.OpenSpec := { _root_.Go.OpenSpec.ofChange s with cond := some uptoSmall }

/-- 'whittlerlaw7.ArityAll', WHERE WHAT IT READS IS OF BULK AT MOST 1048576: true; the input reads as it did. -/
def arityAllUptoRow : OpenClaim := { program := "ytghlmengcidmdaa", sum := "0c0000c408c184a23cecc8fab3e46cbf2ee754ba24da2a9fa6b8cb485171ed39", func := "whittler/whittlerlaw7.ArityAll", spec := "arityAll", unfollowed := true, recurses := true, loops := true, apart := false, narrowed := true }
def ArityAllUptoSaid : Prop := arityAllUptoRow.holds Try.pinned (OpenSpec.upto arityAllSpec)

/-- 'whittlerlaw7.ArityTurned', WHERE WHAT IT READS IS OF BULK AT MOST 1048576: true; the input reads as it did. -/
def arityTurnedUptoRow : OpenClaim := { program := "ytghlmengcidmdaa", sum := "0c0000c408c184a23cecc8fab3e46cbf2ee754ba24da2a9fa6b8cb485171ed39", func := "whittler/whittlerlaw7.ArityTurned", spec := "arityTurned", unfollowed := true, recurses := true, loops := true, apart := false, narrowed := true }
def ArityTurnedUptoSaid : Prop := arityTurnedUptoRow.holds Try.pinned (OpenSpec.upto arityTurnedSpec)

/-- 'whittlerlaw6.ScopeAll', WHERE WHAT IT READS IS OF BULK AT MOST 1048576: true; the input reads as it did. -/
def scopeAllUptoRow : OpenClaim := { program := "ytghlmengcidmdaa", sum := "0c0000c408c184a23cecc8fab3e46cbf2ee754ba24da2a9fa6b8cb485171ed39", func := "whittler/whittlerlaw6.ScopeAll", spec := "scopeAll", unfollowed := true, recurses := true, loops := true, apart := false, narrowed := true }
def ScopeAllUptoSaid : Prop := scopeAllUptoRow.holds Try.pinned (OpenSpec.upto scopeAllSpec)

/-- 'whittlerlaw6.ScopeCheck', WHERE WHAT IT READS IS OF BULK AT MOST 1048576: true; the input reads as it did. -/
def scopeCheckUptoRow : OpenClaim := { program := "ytghlmengcidmdaa", sum := "0c0000c408c184a23cecc8fab3e46cbf2ee754ba24da2a9fa6b8cb485171ed39", func := "whittler/whittlerlaw6.ScopeCheck", spec := "scopeCheck", unfollowed := true, recurses := true, loops := true, apart := false, narrowed := true }
def ScopeCheckUptoSaid : Prop := scopeCheckUptoRow.holds Try.pinned (OpenSpec.upto scopeCheckSpec)

/-- 'whittlerlaw6.ScopeOne', WHERE WHAT IT READS IS OF BULK AT MOST 1048576: true; the input reads as it did. -/
def scopeOneUptoRow : OpenClaim := { program := "ytghlmengcidmdaa", sum := "0c0000c408c184a23cecc8fab3e46cbf2ee754ba24da2a9fa6b8cb485171ed39", func := "whittler/whittlerlaw6.ScopeOne", spec := "scopeOne", unfollowed := true, recurses := true, loops := true, apart := false, narrowed := true }
def ScopeOneUptoSaid : Prop := scopeOneUptoRow.holds Try.pinned (OpenSpec.upto scopeOneSpec)

/-- 'whittlerlaw6.ScopeNew', WHERE WHAT IT READS IS OF BULK AT MOST 1048576: true; the input reads as it did. -/
def scopeNewUptoRow : OpenClaim := { program := "ytghlmengcidmdaa", sum := "0c0000c408c184a23cecc8fab3e46cbf2ee754ba24da2a9fa6b8cb485171ed39", func := "whittler/whittlerlaw6.ScopeNew", spec := "scopeNew", unfollowed := true, recurses := true, loops := true, apart := false, narrowed := true }
def ScopeNewUptoSaid : Prop := scopeNewUptoRow.holds Try.pinned (OpenSpec.upto scopeNewSpec)

/-- 'whittlerlaw6.ScopeTwice', WHERE WHAT IT READS IS OF BULK AT MOST 1048576: true; the input reads as it did. -/
def scopeTwiceUptoRow : OpenClaim := { program := "ytghlmengcidmdaa", sum := "0c0000c408c184a23cecc8fab3e46cbf2ee754ba24da2a9fa6b8cb485171ed39", func := "whittler/whittlerlaw6.ScopeTwice", spec := "scopeTwice", unfollowed := true, recurses := true, loops := true, apart := false, narrowed := true }
def ScopeTwiceUptoSaid : Prop := scopeTwiceUptoRow.holds Try.pinned (OpenSpec.upto scopeTwiceSpec)

/-- 'whittlerlaw6.ScopeSwap', WHERE WHAT IT READS IS OF BULK AT MOST 1048576: true; the input reads as it did. -/
def scopeSwapUptoRow : OpenClaim := { program := "ytghlmengcidmdaa", sum := "0c0000c408c184a23cecc8fab3e46cbf2ee754ba24da2a9fa6b8cb485171ed39", func := "whittler/whittlerlaw6.ScopeSwap", spec := "scopeSwap", unfollowed := true, recurses := true, loops := true, apart := false, narrowed := true }
def ScopeSwapUptoSaid : Prop := scopeSwapUptoRow.holds Try.pinned (OpenSpec.upto scopeSwapSpec)

/-- 'whittlerlaw8.JumpAll', WHERE WHAT IT READS IS OF BULK AT MOST 1048576: true; the input reads as it did. -/
def jumpAllUptoRow : OpenClaim := { program := "ytghlmengcidmdaa", sum := "0c0000c408c184a23cecc8fab3e46cbf2ee754ba24da2a9fa6b8cb485171ed39", func := "whittler/whittlerlaw8.JumpAll", spec := "jumpAll", unfollowed := true, recurses := true, loops := true, apart := false, narrowed := true }
def JumpAllUptoSaid : Prop := jumpAllUptoRow.holds Try.pinned (OpenSpec.upto jumpAllSpec)

/-- 'whittlerlaw8.JumpLoop', WHERE WHAT IT READS IS OF BULK AT MOST 1048576: true; the input reads as it did. -/
def jumpLoopUptoRow : OpenClaim := { program := "ytghlmengcidmdaa", sum := "0c0000c408c184a23cecc8fab3e46cbf2ee754ba24da2a9fa6b8cb485171ed39", func := "whittler/whittlerlaw8.JumpLoop", spec := "jumpLoop", unfollowed := true, recurses := true, loops := true, apart := false, narrowed := true }
def JumpLoopUptoSaid : Prop := jumpLoopUptoRow.holds Try.pinned (OpenSpec.upto jumpLoopSpec)

/-- 'whittlerlaw8.JumpTurned', WHERE WHAT IT READS IS OF BULK AT MOST 1048576: true; the input reads as it did. -/
def jumpTurnedUptoRow : OpenClaim := { program := "ytghlmengcidmdaa", sum := "0c0000c408c184a23cecc8fab3e46cbf2ee754ba24da2a9fa6b8cb485171ed39", func := "whittler/whittlerlaw8.JumpTurned", spec := "jumpTurned", unfollowed := true, recurses := true, loops := true, apart := false, narrowed := true }
def JumpTurnedUptoSaid : Prop := jumpTurnedUptoRow.holds Try.pinned (OpenSpec.upto jumpTurnedSpec)

/-- 'whittlerlaw6.ScopeSaid', WHERE WHAT IT READS IS OF BULK AT MOST 1048576: true; the input reads as it did. -/
def scopeSaidUptoRow : OpenClaim := { program := "ytghlmengcidmdaa", sum := "0c0000c408c184a23cecc8fab3e46cbf2ee754ba24da2a9fa6b8cb485171ed39", func := "whittler/whittlerlaw6.ScopeSaid", spec := "scopeSaid", unfollowed := true, recurses := true, loops := true, apart := false, narrowed := true }
def ScopeSaidUptoSaid : Prop := scopeSaidUptoRow.holds Try.pinned (OpenSpec.upto scopeSaidSpec)

/-- 'whittlerlaw8.JumpOne', WHERE WHAT IT READS IS OF BULK AT MOST 1048576: true; the input reads as it did. -/
def jumpOneUptoRow : OpenClaim := { program := "ytghlmengcidmdaa", sum := "0c0000c408c184a23cecc8fab3e46cbf2ee754ba24da2a9fa6b8cb485171ed39", func := "whittler/whittlerlaw8.JumpOne", spec := "jumpOne", unfollowed := true, recurses := true, loops := true, apart := false, narrowed := true }
def JumpOneUptoSaid : Prop := jumpOneUptoRow.holds Try.pinned (OpenSpec.upto jumpOneSpec)

end Rows
end Go.Proofs.Ytghlmengcidmdaa
