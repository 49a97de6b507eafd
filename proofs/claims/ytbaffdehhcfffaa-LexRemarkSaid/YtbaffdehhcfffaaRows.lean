/-
  No cell of these rows narrows 'for every input' (looked for: loops, veiled, ifaces, maps, wideKeys, modest, calm, conditions, laid).
  DERIVED. THE GIVEN ROWS OF THIS SEAT. 13 by the template 'for every input the law returns true; each argument reads behind the call as it read before'; 0 by the template 'total and deterministic' (their statements: YtbaffdehhcfffaaTotals.lean).
  GIVEN WITH THE SEED: the statements are not yours to turn. If you find one false, say at which input.
  Laid BY PROGRAM, IN A SANDBOX (cutbox-rows.mjs): the forced cells as the released guide's own fill.sh prints them over the translation 579b7245b7911c28… (all of the seat's roots in one cut). By AI agents, Wed Nov 11 2026. No macro, syntax, notation, axiom, sorry.
-/
import Derived.Test.YtbaffdehhcfffaaChecked
import GoSem.Claim
import GoSem.ClaimJoined
import GoSem.ClaimMapViews
import Derived.JoinedTies
import Derived.KernelRfl
namespace Go.Proofs.Ytbaffdehhcfffaa
/- THE CELL 'sum', in the pinned program and in every row, IS THE sha256 OF THE DUMP (.gsa) THAT YtbaffdehhcfffaaProg.lean LOADS. Nothing in Lean hashes anything: it is a label: what it is worth is what the hold of that sum in a sandbox is worth. -/
noncomputable def Try.pinned : Pinned := { name := "ytbaffdehhcfffaa", sum := "579b7245b7911c281a659949d51f89b31afe6ae097102c96e6b665a1dab14848", checked := Try.checked }
namespace Rows
def none {H : Type} : Left H := { results := [], args := [] }

/-- 'whittlerlaw2.LexAll': WHATEVER THE INPUT: true; the input reads as it did. -/
def lexAllSpec : ChangeSpec := { name := "lexAll", fn := fun _ => fun
  | [d] => { results := [.lit (.bool true)], args := [d] }
  | _ => none }
def lexAllRow : OpenClaim := { program := "ytbaffdehhcfffaa", sum := "579b7245b7911c281a659949d51f89b31afe6ae097102c96e6b665a1dab14848", func := "whittler/whittlerlaw2.LexAll", spec := "lexAll", apart := false }
def LexAllSaid : Prop := lexAllRow.holds Try.pinned (OpenSpec.ofChange lexAllSpec)

/-- ITS FALSE NEIGHBOUR: 'it returns false'. Refute it at one input. -/
def lexAllWrong : ChangeSpec := { name := "lexAll", fn := fun _ => fun
  | [d] => { results := [.lit (.bool false)], args := [d] }
  | _ => none }
def LexAllWrongFalsely : Prop := lexAllRow.holds Try.pinned (OpenSpec.ofChange lexAllWrong)

/-- 'whittlerlaw2.LexNames': WHATEVER THE INPUT: true; the input reads as it did. -/
def lexNamesSpec : ChangeSpec := { name := "lexNames", fn := fun _ => fun
  | [d] => { results := [.lit (.bool true)], args := [d] }
  | _ => none }
def lexNamesRow : OpenClaim := { program := "ytbaffdehhcfffaa", sum := "579b7245b7911c281a659949d51f89b31afe6ae097102c96e6b665a1dab14848", func := "whittler/whittlerlaw2.LexNames", spec := "lexNames", apart := false }
def LexNamesSaid : Prop := lexNamesRow.holds Try.pinned (OpenSpec.ofChange lexNamesSpec)

/-- ITS FALSE NEIGHBOUR: 'it returns false'. Refute it at one input. -/
def lexNamesWrong : ChangeSpec := { name := "lexNames", fn := fun _ => fun
  | [d] => { results := [.lit (.bool false)], args := [d] }
  | _ => none }
def LexNamesWrongFalsely : Prop := lexNamesRow.holds Try.pinned (OpenSpec.ofChange lexNamesWrong)

/-- 'whittlerlaw2.LexCover': WHATEVER THE INPUT: true; the input reads as it did. -/
def lexCoverSpec : ChangeSpec := { name := "lexCover", fn := fun _ => fun
  | [d] => { results := [.lit (.bool true)], args := [d] }
  | _ => none }
def lexCoverRow : OpenClaim := { program := "ytbaffdehhcfffaa", sum := "579b7245b7911c281a659949d51f89b31afe6ae097102c96e6b665a1dab14848", func := "whittler/whittlerlaw2.LexCover", spec := "lexCover", apart := false }
def LexCoverSaid : Prop := lexCoverRow.holds Try.pinned (OpenSpec.ofChange lexCoverSpec)

/-- ITS FALSE NEIGHBOUR: 'it returns false'. Refute it at one input. -/
def lexCoverWrong : ChangeSpec := { name := "lexCover", fn := fun _ => fun
  | [d] => { results := [.lit (.bool false)], args := [d] }
  | _ => none }
def LexCoverWrongFalsely : Prop := lexCoverRow.holds Try.pinned (OpenSpec.ofChange lexCoverWrong)

/-- 'whittlerlaw2.LexLong': WHATEVER THE INPUT: true; the input reads as it did. -/
def lexLongSpec : ChangeSpec := { name := "lexLong", fn := fun _ => fun
  | [d] => { results := [.lit (.bool true)], args := [d] }
  | _ => none }
def lexLongRow : OpenClaim := { program := "ytbaffdehhcfffaa", sum := "579b7245b7911c281a659949d51f89b31afe6ae097102c96e6b665a1dab14848", func := "whittler/whittlerlaw2.LexLong", spec := "lexLong", apart := false }
def LexLongSaid : Prop := lexLongRow.holds Try.pinned (OpenSpec.ofChange lexLongSpec)

/-- ITS FALSE NEIGHBOUR: 'it returns false'. Refute it at one input. -/
def lexLongWrong : ChangeSpec := { name := "lexLong", fn := fun _ => fun
  | [d] => { results := [.lit (.bool false)], args := [d] }
  | _ => none }
def LexLongWrongFalsely : Prop := lexLongRow.holds Try.pinned (OpenSpec.ofChange lexLongWrong)

/-- 'whittlerlaw2.LexJoin': WHATEVER THE INPUT: true; the input reads as it did. -/
def lexJoinSpec : ChangeSpec := { name := "lexJoin", fn := fun _ => fun
  | [d] => { results := [.lit (.bool true)], args := [d] }
  | _ => none }
def lexJoinRow : OpenClaim := { program := "ytbaffdehhcfffaa", sum := "579b7245b7911c281a659949d51f89b31afe6ae097102c96e6b665a1dab14848", func := "whittler/whittlerlaw2.LexJoin", spec := "lexJoin", apart := false }
def LexJoinSaid : Prop := lexJoinRow.holds Try.pinned (OpenSpec.ofChange lexJoinSpec)

/-- ITS FALSE NEIGHBOUR: 'it returns false'. Refute it at one input. -/
def lexJoinWrong : ChangeSpec := { name := "lexJoin", fn := fun _ => fun
  | [d] => { results := [.lit (.bool false)], args := [d] }
  | _ => none }
def LexJoinWrongFalsely : Prop := lexJoinRow.holds Try.pinned (OpenSpec.ofChange lexJoinWrong)

/-- 'whittlerlaw2.LexAhead': WHATEVER THE INPUT: true; the input reads as it did. -/
def lexAheadSpec : ChangeSpec := { name := "lexAhead", fn := fun _ => fun
  | [d1, d2] => { results := [.lit (.bool true)], args := [d1, d2] }
  | _ => none }
def lexAheadRow : OpenClaim := { program := "ytbaffdehhcfffaa", sum := "579b7245b7911c281a659949d51f89b31afe6ae097102c96e6b665a1dab14848", func := "whittler/whittlerlaw2.LexAhead", spec := "lexAhead", apart := false }
def LexAheadSaid : Prop := lexAheadRow.holds Try.pinned (OpenSpec.ofChange lexAheadSpec)

/-- ITS FALSE NEIGHBOUR: 'it returns false'. Refute it at one input. -/
def lexAheadWrong : ChangeSpec := { name := "lexAhead", fn := fun _ => fun
  | [d1, d2] => { results := [.lit (.bool false)], args := [d1, d2] }
  | _ => none }
def LexAheadWrongFalsely : Prop := lexAheadRow.holds Try.pinned (OpenSpec.ofChange lexAheadWrong)

/-- 'whittlerlaw2.LexRemark': WHATEVER THE INPUT: true; the input reads as it did. -/
def lexRemarkSpec : ChangeSpec := { name := "lexRemark", fn := fun _ => fun
  | [d1, d2] => { results := [.lit (.bool true)], args := [d1, d2] }
  | _ => none }
def lexRemarkRow : OpenClaim := { program := "ytbaffdehhcfffaa", sum := "579b7245b7911c281a659949d51f89b31afe6ae097102c96e6b665a1dab14848", func := "whittler/whittlerlaw2.LexRemark", spec := "lexRemark", apart := false }
def LexRemarkSaid : Prop := lexRemarkRow.holds Try.pinned (OpenSpec.ofChange lexRemarkSpec)

/-- ITS FALSE NEIGHBOUR: 'it returns false'. Refute it at one input. -/
def lexRemarkWrong : ChangeSpec := { name := "lexRemark", fn := fun _ => fun
  | [d1, d2] => { results := [.lit (.bool false)], args := [d1, d2] }
  | _ => none }
def LexRemarkWrongFalsely : Prop := lexRemarkRow.holds Try.pinned (OpenSpec.ofChange lexRemarkWrong)

/-- 'whittlerlaw2.LexFront': WHATEVER THE INPUT: true; the input reads as it did. -/
def lexFrontSpec : ChangeSpec := { name := "lexFront", fn := fun _ => fun
  | [d1, d2] => { results := [.lit (.bool true)], args := [d1, d2] }
  | _ => none }
def lexFrontRow : OpenClaim := { program := "ytbaffdehhcfffaa", sum := "579b7245b7911c281a659949d51f89b31afe6ae097102c96e6b665a1dab14848", func := "whittler/whittlerlaw2.LexFront", spec := "lexFront", apart := false }
def LexFrontSaid : Prop := lexFrontRow.holds Try.pinned (OpenSpec.ofChange lexFrontSpec)

/-- ITS FALSE NEIGHBOUR: 'it returns false'. Refute it at one input. -/
def lexFrontWrong : ChangeSpec := { name := "lexFront", fn := fun _ => fun
  | [d1, d2] => { results := [.lit (.bool false)], args := [d1, d2] }
  | _ => none }
def LexFrontWrongFalsely : Prop := lexFrontRow.holds Try.pinned (OpenSpec.ofChange lexFrontWrong)

/-- 'whittlerlaw2.LexFault': WHATEVER THE INPUT: true; the input reads as it did. -/
def lexFaultSpec : ChangeSpec := { name := "lexFault", fn := fun _ => fun
  | [d1, d2] => { results := [.lit (.bool true)], args := [d1, d2] }
  | _ => none }
def lexFaultRow : OpenClaim := { program := "ytbaffdehhcfffaa", sum := "579b7245b7911c281a659949d51f89b31afe6ae097102c96e6b665a1dab14848", func := "whittler/whittlerlaw2.LexFault", spec := "lexFault", apart := false }
def LexFaultSaid : Prop := lexFaultRow.holds Try.pinned (OpenSpec.ofChange lexFaultSpec)

/-- ITS FALSE NEIGHBOUR: 'it returns false'. Refute it at one input. -/
def lexFaultWrong : ChangeSpec := { name := "lexFault", fn := fun _ => fun
  | [d1, d2] => { results := [.lit (.bool false)], args := [d1, d2] }
  | _ => none }
def LexFaultWrongFalsely : Prop := lexFaultRow.holds Try.pinned (OpenSpec.ofChange lexFaultWrong)

/-- 'whittlerlaw2.LexDigits': WHATEVER THE INPUT: true; the input reads as it did. -/
def lexDigitsSpec : ChangeSpec := { name := "lexDigits", fn := fun _ => fun
  | [d] => { results := [.lit (.bool true)], args := [d] }
  | _ => none }
def lexDigitsRow : OpenClaim := { program := "ytbaffdehhcfffaa", sum := "579b7245b7911c281a659949d51f89b31afe6ae097102c96e6b665a1dab14848", func := "whittler/whittlerlaw2.LexDigits", spec := "lexDigits", recurses := true, apart := false }
def LexDigitsSaid : Prop := lexDigitsRow.holds Try.pinned (OpenSpec.ofChange lexDigitsSpec)

/-- ITS FALSE NEIGHBOUR: 'it returns false'. Refute it at one input. -/
def lexDigitsWrong : ChangeSpec := { name := "lexDigits", fn := fun _ => fun
  | [d] => { results := [.lit (.bool false)], args := [d] }
  | _ => none }
def LexDigitsWrongFalsely : Prop := lexDigitsRow.holds Try.pinned (OpenSpec.ofChange lexDigitsWrong)

/-- 'whittlerlaw2.LexRoom': WHATEVER THE INPUT: true; the input reads as it did. -/
def lexRoomSpec : ChangeSpec := { name := "lexRoom", fn := fun _ => fun
  | [d1, d2] => { results := [.lit (.bool true)], args := [d1, d2] }
  | _ => none }
def lexRoomRow : OpenClaim := { program := "ytbaffdehhcfffaa", sum := "579b7245b7911c281a659949d51f89b31afe6ae097102c96e6b665a1dab14848", func := "whittler/whittlerlaw2.LexRoom", spec := "lexRoom", apart := false }
def LexRoomSaid : Prop := lexRoomRow.holds Try.pinned (OpenSpec.ofChange lexRoomSpec)

/-- ITS FALSE NEIGHBOUR: 'it returns false'. Refute it at one input. -/
def lexRoomWrong : ChangeSpec := { name := "lexRoom", fn := fun _ => fun
  | [d1, d2] => { results := [.lit (.bool false)], args := [d1, d2] }
  | _ => none }
def LexRoomWrongFalsely : Prop := lexRoomRow.holds Try.pinned (OpenSpec.ofChange lexRoomWrong)

/-- 'whittlerlaw2.LexOwn': WHATEVER THE INPUT: true; the input reads as it did. -/
def lexOwnSpec : ChangeSpec := { name := "lexOwn", fn := fun _ => fun
  | [d] => { results := [.lit (.bool true)], args := [d] }
  | _ => none }
def lexOwnRow : OpenClaim := { program := "ytbaffdehhcfffaa", sum := "579b7245b7911c281a659949d51f89b31afe6ae097102c96e6b665a1dab14848", func := "whittler/whittlerlaw2.LexOwn", spec := "lexOwn", apart := false }
def LexOwnSaid : Prop := lexOwnRow.holds Try.pinned (OpenSpec.ofChange lexOwnSpec)

/-- ITS FALSE NEIGHBOUR: 'it returns false'. Refute it at one input. -/
def lexOwnWrong : ChangeSpec := { name := "lexOwn", fn := fun _ => fun
  | [d] => { results := [.lit (.bool false)], args := [d] }
  | _ => none }
def LexOwnWrongFalsely : Prop := lexOwnRow.holds Try.pinned (OpenSpec.ofChange lexOwnWrong)

/-- 'whittlerlaw2.LexNone': WHATEVER THE INPUT: true; the input reads as it did. -/
def lexNoneSpec : ChangeSpec := { name := "lexNone", fn := fun _ => fun
  | [] => { results := [.lit (.bool true)], args := [] }
  | _ => none }
def lexNoneRow : OpenClaim := { program := "ytbaffdehhcfffaa", sum := "579b7245b7911c281a659949d51f89b31afe6ae097102c96e6b665a1dab14848", func := "whittler/whittlerlaw2.LexNone", spec := "lexNone", apart := false }
def LexNoneSaid : Prop := lexNoneRow.holds Try.pinned (OpenSpec.ofChange lexNoneSpec)

/-- ITS FALSE NEIGHBOUR: 'it returns false'. Refute it at one input. -/
def lexNoneWrong : ChangeSpec := { name := "lexNone", fn := fun _ => fun
  | [] => { results := [.lit (.bool false)], args := [] }
  | _ => none }
def LexNoneWrongFalsely : Prop := lexNoneRow.holds Try.pinned (OpenSpec.ofChange lexNoneWrong)

/- THE SECOND FORM. 'bulk': how many values and letters a reading holds, each counted each time it is reached (what is shared counts as often as it is met; a slice's spare places count too). A statement '..UptoSaid' is the law's where the arguments, and the package variables that the reading takes, are together of bulk at most 1048576: NARROWER than '..Said'. Prove '..Said' where nothing that the law and all that it calls make is longer than what came in: it says more and counts as full. Else prove '..UptoSaid'. A law counts once. -/
mutual
def uptoBulk {H : Type} : DataW H → Nat
  | .lit (.string bytes) => bytes.length + 1
  | .lit _ => 1
  | .nil => 1
  | .ptr d => uptoBulk d + 1
  | .slice elems spare => uptoBulkAll elems + uptoBulkAll spare + 1
  | .agg parts => uptoBulkAll parts + 1
  | .iface _ d => uptoBulk d + 1
  | .map entries => uptoBulkEntries entries + 1
  | .held _ => 1
def uptoBulkAll {H : Type} : List (DataW H) → Nat
  | [] => 0
  | d :: r => uptoBulk d + uptoBulkAll r
def uptoBulkEntries {H : Type} : List (Lit × DataW H) → Nat
  | [] => 0
  | x :: r => uptoBulkEntry x + uptoBulkEntries r
def uptoBulkEntry {H : Type} : Lit × DataW H → Nat
  | (.string bytes, d) => bytes.length + uptoBulk d + 1
  | (_, d) => uptoBulk d + 1
 end
def uptoSmall : (H : Type) → List (DataW H) → Bool := fun _ ds => decide (uptoBulkAll ds ≤ 1048576)
def OpenSpec.upto (s : _root_.Go.ChangeSpec) : _root_.Go.OpenSpec := { _root_.Go.OpenSpec.ofChange s with cond := some uptoSmall }

/-- 'whittlerlaw2.LexAll', WHERE WHAT IT READS IS OF BULK AT MOST 1048576: true; the input reads as it did. -/
def lexAllUptoRow : OpenClaim := { program := "ytbaffdehhcfffaa", sum := "579b7245b7911c281a659949d51f89b31afe6ae097102c96e6b665a1dab14848", func := "whittler/whittlerlaw2.LexAll", spec := "lexAll", apart := false, narrowed := true }
def LexAllUptoSaid : Prop := lexAllUptoRow.holds Try.pinned (OpenSpec.upto lexAllSpec)

/-- 'whittlerlaw2.LexNames', WHERE WHAT IT READS IS OF BULK AT MOST 1048576: true; the input reads as it did. -/
def lexNamesUptoRow : OpenClaim := { program := "ytbaffdehhcfffaa", sum := "579b7245b7911c281a659949d51f89b31afe6ae097102c96e6b665a1dab14848", func := "whittler/whittlerlaw2.LexNames", spec := "lexNames", apart := false, narrowed := true }
def LexNamesUptoSaid : Prop := lexNamesUptoRow.holds Try.pinned (OpenSpec.upto lexNamesSpec)

/-- 'whittlerlaw2.LexCover', WHERE WHAT IT READS IS OF BULK AT MOST 1048576: true; the input reads as it did. -/
def lexCoverUptoRow : OpenClaim := { program := "ytbaffdehhcfffaa", sum := "579b7245b7911c281a659949d51f89b31afe6ae097102c96e6b665a1dab14848", func := "whittler/whittlerlaw2.LexCover", spec := "lexCover", apart := false, narrowed := true }
def LexCoverUptoSaid : Prop := lexCoverUptoRow.holds Try.pinned (OpenSpec.upto lexCoverSpec)

/-- 'whittlerlaw2.LexLong', WHERE WHAT IT READS IS OF BULK AT MOST 1048576: true; the input reads as it did. -/
def lexLongUptoRow : OpenClaim := { program := "ytbaffdehhcfffaa", sum := "579b7245b7911c281a659949d51f89b31afe6ae097102c96e6b665a1dab14848", func := "whittler/whittlerlaw2.LexLong", spec := "lexLong", apart := false, narrowed := true }
def LexLongUptoSaid : Prop := lexLongUptoRow.holds Try.pinned (OpenSpec.upto lexLongSpec)

/-- 'whittlerlaw2.LexJoin', WHERE WHAT IT READS IS OF BULK AT MOST 1048576: true; the input reads as it did. -/
def lexJoinUptoRow : OpenClaim := { program := "ytbaffdehhcfffaa", sum := "579b7245b7911c281a659949d51f89b31afe6ae097102c96e6b665a1dab14848", func := "whittler/whittlerlaw2.LexJoin", spec := "lexJoin", apart := false, narrowed := true }
def LexJoinUptoSaid : Prop := lexJoinUptoRow.holds Try.pinned (OpenSpec.upto lexJoinSpec)

/-- 'whittlerlaw2.LexAhead', WHERE WHAT IT READS IS OF BULK AT MOST 1048576: true; the input reads as it did. -/
def lexAheadUptoRow : OpenClaim := { program := "ytbaffdehhcfffaa", sum := "579b7245b7911c281a659949d51f89b31afe6ae097102c96e6b665a1dab14848", func := "whittler/whittlerlaw2.LexAhead", spec := "lexAhead", apart := false, narrowed := true }
def LexAheadUptoSaid : Prop := lexAheadUptoRow.holds Try.pinned (OpenSpec.upto lexAheadSpec)

/-- 'whittlerlaw2.LexRemark', WHERE WHAT IT READS IS OF BULK AT MOST 1048576: true; the input reads as it did. -/
def lexRemarkUptoRow : OpenClaim := { program := "ytbaffdehhcfffaa", sum := "579b7245b7911c281a659949d51f89b31afe6ae097102c96e6b665a1dab14848", func := "whittler/whittlerlaw2.LexRemark", spec := "lexRemark", apart := false, narrowed := true }
def LexRemarkUptoSaid : Prop := lexRemarkUptoRow.holds Try.pinned (OpenSpec.upto lexRemarkSpec)

/-- 'whittlerlaw2.LexFront', WHERE WHAT IT READS IS OF BULK AT MOST 1048576: true; the input reads as it did. -/
def lexFrontUptoRow : OpenClaim := { program := "ytbaffdehhcfffaa", sum := "579b7245b7911c281a659949d51f89b31afe6ae097102c96e6b665a1dab14848", func := "whittler/whittlerlaw2.LexFront", spec := "lexFront", apart := false, narrowed := true }
def LexFrontUptoSaid : Prop := lexFrontUptoRow.holds Try.pinned (OpenSpec.upto lexFrontSpec)

/-- 'whittlerlaw2.LexFault', WHERE WHAT IT READS IS OF BULK AT MOST 1048576: true; the input reads as it did. -/
def lexFaultUptoRow : OpenClaim := { program := "ytbaffdehhcfffaa", sum := "579b7245b7911c281a659949d51f89b31afe6ae097102c96e6b665a1dab14848", func := "whittler/whittlerlaw2.LexFault", spec := "lexFault", apart := false, narrowed := true }
def LexFaultUptoSaid : Prop := lexFaultUptoRow.holds Try.pinned (OpenSpec.upto lexFaultSpec)

/-- 'whittlerlaw2.LexDigits', WHERE WHAT IT READS IS OF BULK AT MOST 1048576: true; the input reads as it did. -/
def lexDigitsUptoRow : OpenClaim := { program := "ytbaffdehhcfffaa", sum := "579b7245b7911c281a659949d51f89b31afe6ae097102c96e6b665a1dab14848", func := "whittler/whittlerlaw2.LexDigits", spec := "lexDigits", recurses := true, apart := false, narrowed := true }
def LexDigitsUptoSaid : Prop := lexDigitsUptoRow.holds Try.pinned (OpenSpec.upto lexDigitsSpec)

/-- 'whittlerlaw2.LexRoom', WHERE WHAT IT READS IS OF BULK AT MOST 1048576: true; the input reads as it did. -/
def lexRoomUptoRow : OpenClaim := { program := "ytbaffdehhcfffaa", sum := "579b7245b7911c281a659949d51f89b31afe6ae097102c96e6b665a1dab14848", func := "whittler/whittlerlaw2.LexRoom", spec := "lexRoom", apart := false, narrowed := true }
def LexRoomUptoSaid : Prop := lexRoomUptoRow.holds Try.pinned (OpenSpec.upto lexRoomSpec)

/-- 'whittlerlaw2.LexOwn', WHERE WHAT IT READS IS OF BULK AT MOST 1048576: true; the input reads as it did. -/
def lexOwnUptoRow : OpenClaim := { program := "ytbaffdehhcfffaa", sum := "579b7245b7911c281a659949d51f89b31afe6ae097102c96e6b665a1dab14848", func := "whittler/whittlerlaw2.LexOwn", spec := "lexOwn", apart := false, narrowed := true }
def LexOwnUptoSaid : Prop := lexOwnUptoRow.holds Try.pinned (OpenSpec.upto lexOwnSpec)

/-- 'whittlerlaw2.LexNone', WHERE WHAT IT READS IS OF BULK AT MOST 1048576: true; the input reads as it did. -/
def lexNoneUptoRow : OpenClaim := { program := "ytbaffdehhcfffaa", sum := "579b7245b7911c281a659949d51f89b31afe6ae097102c96e6b665a1dab14848", func := "whittler/whittlerlaw2.LexNone", spec := "lexNone", apart := false, narrowed := true }
def LexNoneUptoSaid : Prop := lexNoneUptoRow.holds Try.pinned (OpenSpec.upto lexNoneSpec)

end Rows
end Go.Proofs.Ytbaffdehhcfffaa
