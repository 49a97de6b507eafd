/-
  No cell of these rows narrows 'for every input' (looked for: loops, veiled, ifaces, maps, wideKeys, modest, calm, conditions, laid).
  DERIVED. THE GIVEN ROWS OF THIS SEAT. 7 by the template 'for every input the law returns true; each argument reads behind the call as it read before'; 0 by the template 'total and deterministic' (their statements: YthmcfdlnhnpnhaaTotals.lean).
  GIVEN WITH THE SEED: the statements are not yours to turn. If you find one false, say at which input.
  Laid BY PROGRAM, IN A SANDBOX (cutbox-rows.mjs): the forced cells as the released guide's own fill.sh prints them over the translation d433e5229be97b3f… (all of the seat's roots in one cut). By AI agents, Wed Nov 11 2026. No macro, syntax, notation, axiom, sorry.
-/
import Derived.Test.YthmcfdlnhnpnhaaChecked
import GoSem.Claim
import GoSem.ClaimJoined
import GoSem.ClaimMapViews
import Derived.JoinedTies
import Derived.KernelRfl
namespace Go.Proofs.Ythmcfdlnhnpnhaa
/- THE CELL 'sum', in the pinned program and in every row, IS THE sha256 OF THE DUMP (.gsa) THAT YthmcfdlnhnpnhaaProg.lean LOADS. Nothing in Lean hashes anything: it is a label: what it is worth is what the hold of that sum in a sandbox is worth. -/
noncomputable def Try.pinned : Pinned := { name := "ythmcfdlnhnpnhaa", sum := "d433e5229be97b3f2d2c666e4aa3d6fd43bf255d9f3ebaa9ea76eeaf8041e24c", checked := Try.checked }
namespace Rows
def none {H : Type} : Left H := { results := [], args := [] }

/-- 'whittlerlaw0.Names': WHATEVER THE INPUT: true; the input reads as it did. -/
def namesSpec : ChangeSpec := { name := "names", fn := fun _ => fun
  | [] => { results := [.lit (.bool true)], args := [] }
  | _ => none }
def namesRow : OpenClaim := { program := "ythmcfdlnhnpnhaa", sum := "d433e5229be97b3f2d2c666e4aa3d6fd43bf255d9f3ebaa9ea76eeaf8041e24c", func := "whittler/whittlerlaw0.Names", spec := "names", apart := false }
def NamesSaid : Prop := namesRow.holds Try.pinned (OpenSpec.ofChange namesSpec)

/-- ITS FALSE NEIGHBOUR: 'it returns false'. Refute it at one input. -/
def namesWrong : ChangeSpec := { name := "names", fn := fun _ => fun
  | [] => { results := [.lit (.bool false)], args := [] }
  | _ => none }
def NamesWrongFalsely : Prop := namesRow.holds Try.pinned (OpenSpec.ofChange namesWrong)

/-- 'whittlerlaw1.WordDiv': WHATEVER THE INPUT: true; the input reads as it did. -/
def wordDivSpec : ChangeSpec := { name := "wordDiv", fn := fun _ => fun
  | [d1, d2] => { results := [.lit (.bool true)], args := [d1, d2] }
  | _ => none }
def wordDivRow : OpenClaim := { program := "ythmcfdlnhnpnhaa", sum := "d433e5229be97b3f2d2c666e4aa3d6fd43bf255d9f3ebaa9ea76eeaf8041e24c", func := "whittler/whittlerlaw1.WordDiv", spec := "wordDiv", apart := false }
def WordDivSaid : Prop := wordDivRow.holds Try.pinned (OpenSpec.ofChange wordDivSpec)

/-- ITS FALSE NEIGHBOUR: 'it returns false'. Refute it at one input. -/
def wordDivWrong : ChangeSpec := { name := "wordDiv", fn := fun _ => fun
  | [d1, d2] => { results := [.lit (.bool false)], args := [d1, d2] }
  | _ => none }
def WordDivWrongFalsely : Prop := wordDivRow.holds Try.pinned (OpenSpec.ofChange wordDivWrong)

/-- 'whittlerlaw1.WordOrder': WHATEVER THE INPUT: true; the input reads as it did. -/
def wordOrderSpec : ChangeSpec := { name := "wordOrder", fn := fun _ => fun
  | [d1, d2, d3] => { results := [.lit (.bool true)], args := [d1, d2, d3] }
  | _ => none }
def wordOrderRow : OpenClaim := { program := "ythmcfdlnhnpnhaa", sum := "d433e5229be97b3f2d2c666e4aa3d6fd43bf255d9f3ebaa9ea76eeaf8041e24c", func := "whittler/whittlerlaw1.WordOrder", spec := "wordOrder", apart := false }
def WordOrderSaid : Prop := wordOrderRow.holds Try.pinned (OpenSpec.ofChange wordOrderSpec)

/-- ITS FALSE NEIGHBOUR: 'it returns false'. Refute it at one input. -/
def wordOrderWrong : ChangeSpec := { name := "wordOrder", fn := fun _ => fun
  | [d1, d2, d3] => { results := [.lit (.bool false)], args := [d1, d2, d3] }
  | _ => none }
def WordOrderWrongFalsely : Prop := wordOrderRow.holds Try.pinned (OpenSpec.ofChange wordOrderWrong)

/-- 'whittlerlaw1.WordAll': WHATEVER THE INPUT: true; the input reads as it did. -/
def wordAllSpec : ChangeSpec := { name := "wordAll", fn := fun _ => fun
  | [d1, d2, d3] => { results := [.lit (.bool true)], args := [d1, d2, d3] }
  | _ => none }
def wordAllRow : OpenClaim := { program := "ythmcfdlnhnpnhaa", sum := "d433e5229be97b3f2d2c666e4aa3d6fd43bf255d9f3ebaa9ea76eeaf8041e24c", func := "whittler/whittlerlaw1.WordAll", spec := "wordAll", apart := false }
def WordAllSaid : Prop := wordAllRow.holds Try.pinned (OpenSpec.ofChange wordAllSpec)

/-- ITS FALSE NEIGHBOUR: 'it returns false'. Refute it at one input. -/
def wordAllWrong : ChangeSpec := { name := "wordAll", fn := fun _ => fun
  | [d1, d2, d3] => { results := [.lit (.bool false)], args := [d1, d2, d3] }
  | _ => none }
def WordAllWrongFalsely : Prop := wordAllRow.holds Try.pinned (OpenSpec.ofChange wordAllWrong)

/-- 'whittlerlaw1.WordTurn': WHATEVER THE INPUT: true; the input reads as it did. -/
def wordTurnSpec : ChangeSpec := { name := "wordTurn", fn := fun _ => fun
  | [d1, d2] => { results := [.lit (.bool true)], args := [d1, d2] }
  | _ => none }
def wordTurnRow : OpenClaim := { program := "ythmcfdlnhnpnhaa", sum := "d433e5229be97b3f2d2c666e4aa3d6fd43bf255d9f3ebaa9ea76eeaf8041e24c", func := "whittler/whittlerlaw1.WordTurn", spec := "wordTurn", apart := false }
def WordTurnSaid : Prop := wordTurnRow.holds Try.pinned (OpenSpec.ofChange wordTurnSpec)

/-- ITS FALSE NEIGHBOUR: 'it returns false'. Refute it at one input. -/
def wordTurnWrong : ChangeSpec := { name := "wordTurn", fn := fun _ => fun
  | [d1, d2] => { results := [.lit (.bool false)], args := [d1, d2] }
  | _ => none }
def WordTurnWrongFalsely : Prop := wordTurnRow.holds Try.pinned (OpenSpec.ofChange wordTurnWrong)

/-- 'whittlerlaw1.WordRing': WHATEVER THE INPUT: true; the input reads as it did. -/
def wordRingSpec : ChangeSpec := { name := "wordRing", fn := fun _ => fun
  | [d1, d2, d3] => { results := [.lit (.bool true)], args := [d1, d2, d3] }
  | _ => none }
def wordRingRow : OpenClaim := { program := "ythmcfdlnhnpnhaa", sum := "d433e5229be97b3f2d2c666e4aa3d6fd43bf255d9f3ebaa9ea76eeaf8041e24c", func := "whittler/whittlerlaw1.WordRing", spec := "wordRing", apart := false }
def WordRingSaid : Prop := wordRingRow.holds Try.pinned (OpenSpec.ofChange wordRingSpec)

/-- ITS FALSE NEIGHBOUR: 'it returns false'. Refute it at one input. -/
def wordRingWrong : ChangeSpec := { name := "wordRing", fn := fun _ => fun
  | [d1, d2, d3] => { results := [.lit (.bool false)], args := [d1, d2, d3] }
  | _ => none }
def WordRingWrongFalsely : Prop := wordRingRow.holds Try.pinned (OpenSpec.ofChange wordRingWrong)

/-- 'whittlerlaw1.WordTruth': WHATEVER THE INPUT: true; the input reads as it did. -/
def wordTruthSpec : ChangeSpec := { name := "wordTruth", fn := fun _ => fun
  | [d1, d2] => { results := [.lit (.bool true)], args := [d1, d2] }
  | _ => none }
def wordTruthRow : OpenClaim := { program := "ythmcfdlnhnpnhaa", sum := "d433e5229be97b3f2d2c666e4aa3d6fd43bf255d9f3ebaa9ea76eeaf8041e24c", func := "whittler/whittlerlaw1.WordTruth", spec := "wordTruth", apart := false }
def WordTruthSaid : Prop := wordTruthRow.holds Try.pinned (OpenSpec.ofChange wordTruthSpec)

/-- ITS FALSE NEIGHBOUR: 'it returns false'. Refute it at one input. -/
def wordTruthWrong : ChangeSpec := { name := "wordTruth", fn := fun _ => fun
  | [d1, d2] => { results := [.lit (.bool false)], args := [d1, d2] }
  | _ => none }
def WordTruthWrongFalsely : Prop := wordTruthRow.holds Try.pinned (OpenSpec.ofChange wordTruthWrong)

/- THE SECOND FORM. 'bulk': how many values and letters a reading holds, each counted each time it is reached (what is shared counts as often as it is met; a slice's spare places count too). A statement '..UptoSaid' is the law's where the arguments, and the package variables that the reading takes, are together of bulk at most 1048576: NARROWER than '..Said'. Prove '..Said' where nothing that the law and all that it calls make is longer than what came in: it says more and counts as full. Else prove '..UptoSaid'. A law counts once. -/
mutual
def uptoBulk {H : Type} : DataW H → Nat
  | .lit (.string bytes) => bytes.length + 1
  | .lit _ => 1
  | .nil => 1
  | .ptr d => uptoBulk d + 1
  | .slice elems spare => uptoBulkAll elems + uptoBulkAll spare + 1
  | .agg parts => uptoBulkAll parts + 1
  | .iface _ d => uptoBulk d + 1
  | .map entries => uptoBulkEntries entries + 1
  | .held _ => 1
def uptoBulkAll {H : Type} : List (DataW H) → Nat
  | [] => 0
  | d :: r => uptoBulk d + uptoBulkAll r
def uptoBulkEntries {H : Type} : List (Lit × DataW H) → Nat
  | [] => 0
  | x :: r => uptoBulkEntry x + uptoBulkEntries r
def uptoBulkEntry {H : Type} : Lit × DataW H → Nat
  | (.string bytes, d) => bytes.length + uptoBulk d + 1
  | (_, d) => uptoBulk d + 1
 end
def uptoSmall : (H : Type) → List (DataW H) → Bool := fun _ ds => decide (uptoBulkAll ds ≤ 1048576)
def OpenSpec.upto (s : _root_.Go.ChangeSpec) : _root_.Go.OpenSpec := { _root_.Go.OpenSpec.ofChange s with cond := some uptoSmall }

/-- 'whittlerlaw0.Names', WHERE WHAT IT READS IS OF BULK AT MOST 1048576: true; the input reads as it did. -/
def namesUptoRow : OpenClaim := { program := "ythmcfdlnhnpnhaa", sum := "d433e5229be97b3f2d2c666e4aa3d6fd43bf255d9f3ebaa9ea76eeaf8041e24c", func := "whittler/whittlerlaw0.Names", spec := "names", apart := false, narrowed := true }
def NamesUptoSaid : Prop := namesUptoRow.holds Try.pinned (OpenSpec.upto namesSpec)

/-- 'whittlerlaw1.WordDiv', WHERE WHAT IT READS IS OF BULK AT MOST 1048576: true; the input reads as it did. -/
def wordDivUptoRow : OpenClaim := { program := "ythmcfdlnhnpnhaa", sum := "d433e5229be97b3f2d2c666e4aa3d6fd43bf255d9f3ebaa9ea76eeaf8041e24c", func := "whittler/whittlerlaw1.WordDiv", spec := "wordDiv", apart := false, narrowed := true }
def WordDivUptoSaid : Prop := wordDivUptoRow.holds Try.pinned (OpenSpec.upto wordDivSpec)

/-- 'whittlerlaw1.WordOrder', WHERE WHAT IT READS IS OF BULK AT MOST 1048576: true; the input reads as it did. -/
def wordOrderUptoRow : OpenClaim := { program := "ythmcfdlnhnpnhaa", sum := "d433e5229be97b3f2d2c666e4aa3d6fd43bf255d9f3ebaa9ea76eeaf8041e24c", func := "whittler/whittlerlaw1.WordOrder", spec := "wordOrder", apart := false, narrowed := true }
def WordOrderUptoSaid : Prop := wordOrderUptoRow.holds Try.pinned (OpenSpec.upto wordOrderSpec)

/-- 'whittlerlaw1.WordAll', WHERE WHAT IT READS IS OF BULK AT MOST 1048576: true; the input reads as it did. -/
def wordAllUptoRow : OpenClaim := { program := "ythmcfdlnhnpnhaa", sum := "d433e5229be97b3f2d2c666e4aa3d6fd43bf255d9f3ebaa9ea76eeaf8041e24c", func := "whittler/whittlerlaw1.WordAll", spec := "wordAll", apart := false, narrowed := true }
def WordAllUptoSaid : Prop := wordAllUptoRow.holds Try.pinned (OpenSpec.upto wordAllSpec)

/-- 'whittlerlaw1.WordTurn', WHERE WHAT IT READS IS OF BULK AT MOST 1048576: true; the input reads as it did. -/
def wordTurnUptoRow : OpenClaim := { program := "ythmcfdlnhnpnhaa", sum := "d433e5229be97b3f2d2c666e4aa3d6fd43bf255d9f3ebaa9ea76eeaf8041e24c", func := "whittler/whittlerlaw1.WordTurn", spec := "wordTurn", apart := false, narrowed := true }
def WordTurnUptoSaid : Prop := wordTurnUptoRow.holds Try.pinned (OpenSpec.upto wordTurnSpec)

/-- 'whittlerlaw1.WordRing', WHERE WHAT IT READS IS OF BULK AT MOST 1048576: true; the input reads as it did. -/
def wordRingUptoRow : OpenClaim := { program := "ythmcfdlnhnpnhaa", sum := "d433e5229be97b3f2d2c666e4aa3d6fd43bf255d9f3ebaa9ea76eeaf8041e24c", func := "whittler/whittlerlaw1.WordRing", spec := "wordRing", apart := false, narrowed := true }
def WordRingUptoSaid : Prop := wordRingUptoRow.holds Try.pinned (OpenSpec.upto wordRingSpec)

/-- 'whittlerlaw1.WordTruth', WHERE WHAT IT READS IS OF BULK AT MOST 1048576: true; the input reads as it did. -/
def wordTruthUptoRow : OpenClaim := { program := "ythmcfdlnhnpnhaa", sum := "d433e5229be97b3f2d2c666e4aa3d6fd43bf255d9f3ebaa9ea76eeaf8041e24c", func := "whittler/whittlerlaw1.WordTruth", spec := "wordTruth", apart := false, narrowed := true }
def WordTruthUptoSaid : Prop := wordTruthUptoRow.holds Try.pinned (OpenSpec.upto wordTruthSpec)

end Rows
end Go.Proofs.Ythmcfdlnhnpnhaa
