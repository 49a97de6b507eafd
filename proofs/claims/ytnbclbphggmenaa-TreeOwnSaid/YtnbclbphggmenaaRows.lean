/-
  NARROWER THAN 'FOR EVERY INPUT', by the rows' own cells (each row's printed sentence says how): EvalAll: loops · EvalTwo: loops · EvalSwap: loops · EvalNames: loops · EvalSubst: loops · TreeExpr: loops · TreeMay: loops · TreeTwo: loops · TreeFind: loops · TreeFirst: loops · TreeEq: loops · TreeTurned: loops · TreeSwap: loops · TreeNumber: loops · TreeOwn: loops.
  DERIVED. THE GIVEN ROWS OF THIS SEAT. 15 by the template 'for every input the law returns true; each argument reads behind the call as it read before'; 0 by the template 'total and deterministic' (their statements: YtnbclbphggmenaaTotals.lean).
  GIVEN WITH THE SEED: the statements are not yours to turn. If you find one false, say at which input.
  Laid BY PROGRAM, IN A SANDBOX (cutbox-rows.mjs): the forced cells as the released guide's own fill.sh prints them over the translation 4030f12a6e342852… (all of the seat's roots in one cut). By AI agents, Wed Nov 11 2026. No macro, syntax, notation, axiom, sorry.
-/
import Derived.Test.YtnbclbphggmenaaChecked
import GoSem.Claim
import GoSem.ClaimJoined
import GoSem.ClaimMapViews
import Derived.JoinedTies
import Derived.KernelRfl
namespace Go.Proofs.Ytnbclbphggmenaa
/- THE CELL 'sum', in the pinned program and in every row, IS THE sha256 OF THE DUMP (.gsa) THAT YtnbclbphggmenaaProg.lean LOADS. Nothing in Lean hashes anything: it is a label: what it is worth is what the hold of that sum in a sandbox is worth. -/
noncomputable def Try.pinned : Pinned := { name := "ytnbclbphggmenaa", sum := "4030f12a6e342852d9e0f9cc3c2706a9e6aa6bd23f1748bdcf7aa6ffa5bb724f", checked := Try.checked }
namespace Rows
def none {H : Type} : Left H := { results := [], args := [] }

/-- 'whittlerlaw12.EvalAll': WHATEVER THE INPUT: true; the input reads as it did. -/
def evalAllSpec : ChangeSpec := { name := "evalAll", fn := fun _ => fun
  | [d1, d2, d3] => { results := [.lit (.bool true)], args := [d1, d2, d3] }
  | _ => none }
def evalAllRow : OpenClaim := { program := "ytnbclbphggmenaa", sum := "4030f12a6e342852d9e0f9cc3c2706a9e6aa6bd23f1748bdcf7aa6ffa5bb724f", func := "whittler/whittlerlaw12.EvalAll", spec := "evalAll", recurses := true, loops := true, apart := false }
def EvalAllSaid : Prop := evalAllRow.holds Try.pinned (OpenSpec.ofChange evalAllSpec)

/-- ITS FALSE NEIGHBOUR: 'it returns false'. Refute it at one input. -/
def evalAllWrong : ChangeSpec := { name := "evalAll", fn := fun _ => fun
  | [d1, d2, d3] => { results := [.lit (.bool false)], args := [d1, d2, d3] }
  | _ => none }
def EvalAllWrongFalsely : Prop := evalAllRow.holds Try.pinned (OpenSpec.ofChange evalAllWrong)

/-- 'whittlerlaw12.EvalTwo': WHATEVER THE INPUT: true; the input reads as it did. -/
def evalTwoSpec : ChangeSpec := { name := "evalTwo", fn := fun _ => fun
  | [d1, d2, d3, d4, d5] => { results := [.lit (.bool true)], args := [d1, d2, d3, d4, d5] }
  | _ => none }
def evalTwoRow : OpenClaim := { program := "ytnbclbphggmenaa", sum := "4030f12a6e342852d9e0f9cc3c2706a9e6aa6bd23f1748bdcf7aa6ffa5bb724f", func := "whittler/whittlerlaw12.EvalTwo", spec := "evalTwo", recurses := true, loops := true, apart := false }
def EvalTwoSaid : Prop := evalTwoRow.holds Try.pinned (OpenSpec.ofChange evalTwoSpec)

/-- ITS FALSE NEIGHBOUR: 'it returns false'. Refute it at one input. -/
def evalTwoWrong : ChangeSpec := { name := "evalTwo", fn := fun _ => fun
  | [d1, d2, d3, d4, d5] => { results := [.lit (.bool false)], args := [d1, d2, d3, d4, d5] }
  | _ => none }
def EvalTwoWrongFalsely : Prop := evalTwoRow.holds Try.pinned (OpenSpec.ofChange evalTwoWrong)

/-- 'whittlerlaw12.EvalSwap': WHATEVER THE INPUT: true; the input reads as it did. -/
def evalSwapSpec : ChangeSpec := { name := "evalSwap", fn := fun _ => fun
  | [d1, d2, d3, d4, d5] => { results := [.lit (.bool true)], args := [d1, d2, d3, d4, d5] }
  | _ => none }
def evalSwapRow : OpenClaim := { program := "ytnbclbphggmenaa", sum := "4030f12a6e342852d9e0f9cc3c2706a9e6aa6bd23f1748bdcf7aa6ffa5bb724f", func := "whittler/whittlerlaw12.EvalSwap", spec := "evalSwap", recurses := true, loops := true, apart := false }
def EvalSwapSaid : Prop := evalSwapRow.holds Try.pinned (OpenSpec.ofChange evalSwapSpec)

/-- ITS FALSE NEIGHBOUR: 'it returns false'. Refute it at one input. -/
def evalSwapWrong : ChangeSpec := { name := "evalSwap", fn := fun _ => fun
  | [d1, d2, d3, d4, d5] => { results := [.lit (.bool false)], args := [d1, d2, d3, d4, d5] }
  | _ => none }
def EvalSwapWrongFalsely : Prop := evalSwapRow.holds Try.pinned (OpenSpec.ofChange evalSwapWrong)

/-- 'whittlerlaw12.EvalNames': WHATEVER THE INPUT: true; the input reads as it did. -/
def evalNamesSpec : ChangeSpec := { name := "evalNames", fn := fun _ => fun
  | [d1, d2, d3] => { results := [.lit (.bool true)], args := [d1, d2, d3] }
  | _ => none }
def evalNamesRow : OpenClaim := { program := "ytnbclbphggmenaa", sum := "4030f12a6e342852d9e0f9cc3c2706a9e6aa6bd23f1748bdcf7aa6ffa5bb724f", func := "whittler/whittlerlaw12.EvalNames", spec := "evalNames", recurses := true, loops := true, apart := false }
def EvalNamesSaid : Prop := evalNamesRow.holds Try.pinned (OpenSpec.ofChange evalNamesSpec)

/-- ITS FALSE NEIGHBOUR: 'it returns false'. Refute it at one input. -/
def evalNamesWrong : ChangeSpec := { name := "evalNames", fn := fun _ => fun
  | [d1, d2, d3] => { results := [.lit (.bool false)], args := [d1, d2, d3] }
  | _ => none }
def EvalNamesWrongFalsely : Prop := evalNamesRow.holds Try.pinned (OpenSpec.ofChange evalNamesWrong)

/-- 'whittlerlaw12.EvalSubst': WHATEVER THE INPUT: true; the input reads as it did. -/
def evalSubstSpec : ChangeSpec := { name := "evalSubst", fn := fun _ => fun
  | [d1, d2, d3, d4, d5] => { results := [.lit (.bool true)], args := [d1, d2, d3, d4, d5] }
  | _ => none }
def evalSubstRow : OpenClaim := { program := "ytnbclbphggmenaa", sum := "4030f12a6e342852d9e0f9cc3c2706a9e6aa6bd23f1748bdcf7aa6ffa5bb724f", func := "whittler/whittlerlaw12.EvalSubst", spec := "evalSubst", recurses := true, loops := true, apart := false }
def EvalSubstSaid : Prop := evalSubstRow.holds Try.pinned (OpenSpec.ofChange evalSubstSpec)

/-- ITS FALSE NEIGHBOUR: 'it returns false'. Refute it at one input. -/
def evalSubstWrong : ChangeSpec := { name := "evalSubst", fn := fun _ => fun
  | [d1, d2, d3, d4, d5] => { results := [.lit (.bool false)], args := [d1, d2, d3, d4, d5] }
  | _ => none }
def EvalSubstWrongFalsely : Prop := evalSubstRow.holds Try.pinned (OpenSpec.ofChange evalSubstWrong)

/-- 'whittlerlaw3.TreeExpr': WHATEVER THE INPUT: true; the input reads as it did. -/
def treeExprSpec : ChangeSpec := { name := "treeExpr", fn := fun _ => fun
  | [d] => { results := [.lit (.bool true)], args := [d] }
  | _ => none }
def treeExprRow : OpenClaim := { program := "ytnbclbphggmenaa", sum := "4030f12a6e342852d9e0f9cc3c2706a9e6aa6bd23f1748bdcf7aa6ffa5bb724f", func := "whittler/whittlerlaw3.TreeExpr", spec := "treeExpr", unfollowed := true, recurses := true, loops := true, apart := false }
def TreeExprSaid : Prop := treeExprRow.holds Try.pinned (OpenSpec.ofChange treeExprSpec)

/-- ITS FALSE NEIGHBOUR: 'it returns false'. Refute it at one input. -/
def treeExprWrong : ChangeSpec := { name := "treeExpr", fn := fun _ => fun
  | [d] => { results := [.lit (.bool false)], args := [d] }
  | _ => none }
def TreeExprWrongFalsely : Prop := treeExprRow.holds Try.pinned (OpenSpec.ofChange treeExprWrong)

/-- 'whittlerlaw3.TreeMay': WHATEVER THE INPUT: true; the input reads as it did. -/
def treeMaySpec : ChangeSpec := { name := "treeMay", fn := fun _ => fun
  | [d] => { results := [.lit (.bool true)], args := [d] }
  | _ => none }
def treeMayRow : OpenClaim := { program := "ytnbclbphggmenaa", sum := "4030f12a6e342852d9e0f9cc3c2706a9e6aa6bd23f1748bdcf7aa6ffa5bb724f", func := "whittler/whittlerlaw3.TreeMay", spec := "treeMay", unfollowed := true, recurses := true, loops := true, apart := false }
def TreeMaySaid : Prop := treeMayRow.holds Try.pinned (OpenSpec.ofChange treeMaySpec)

/-- ITS FALSE NEIGHBOUR: 'it returns false'. Refute it at one input. -/
def treeMayWrong : ChangeSpec := { name := "treeMay", fn := fun _ => fun
  | [d] => { results := [.lit (.bool false)], args := [d] }
  | _ => none }
def TreeMayWrongFalsely : Prop := treeMayRow.holds Try.pinned (OpenSpec.ofChange treeMayWrong)

/-- 'whittlerlaw3.TreeTwo': WHATEVER THE INPUT: true; the input reads as it did. -/
def treeTwoSpec : ChangeSpec := { name := "treeTwo", fn := fun _ => fun
  | [d1, d2, d3] => { results := [.lit (.bool true)], args := [d1, d2, d3] }
  | _ => none }
def treeTwoRow : OpenClaim := { program := "ytnbclbphggmenaa", sum := "4030f12a6e342852d9e0f9cc3c2706a9e6aa6bd23f1748bdcf7aa6ffa5bb724f", func := "whittler/whittlerlaw3.TreeTwo", spec := "treeTwo", unfollowed := true, recurses := true, loops := true, apart := false }
def TreeTwoSaid : Prop := treeTwoRow.holds Try.pinned (OpenSpec.ofChange treeTwoSpec)

/-- ITS FALSE NEIGHBOUR: 'it returns false'. Refute it at one input. -/
def treeTwoWrong : ChangeSpec := { name := "treeTwo", fn := fun _ => fun
  | [d1, d2, d3] => { results := [.lit (.bool false)], args := [d1, d2, d3] }
  | _ => none }
def TreeTwoWrongFalsely : Prop := treeTwoRow.holds Try.pinned (OpenSpec.ofChange treeTwoWrong)

/-- 'whittlerlaw3.TreeFind': WHATEVER THE INPUT: true; the input reads as it did. -/
def treeFindSpec : ChangeSpec := { name := "treeFind", fn := fun _ => fun
  | [d1, d2] => { results := [.lit (.bool true)], args := [d1, d2] }
  | _ => none }
def treeFindRow : OpenClaim := { program := "ytnbclbphggmenaa", sum := "4030f12a6e342852d9e0f9cc3c2706a9e6aa6bd23f1748bdcf7aa6ffa5bb724f", func := "whittler/whittlerlaw3.TreeFind", spec := "treeFind", unfollowed := true, recurses := true, loops := true, apart := false }
def TreeFindSaid : Prop := treeFindRow.holds Try.pinned (OpenSpec.ofChange treeFindSpec)

/-- ITS FALSE NEIGHBOUR: 'it returns false'. Refute it at one input. -/
def treeFindWrong : ChangeSpec := { name := "treeFind", fn := fun _ => fun
  | [d1, d2] => { results := [.lit (.bool false)], args := [d1, d2] }
  | _ => none }
def TreeFindWrongFalsely : Prop := treeFindRow.holds Try.pinned (OpenSpec.ofChange treeFindWrong)

/-- 'whittlerlaw3.TreeFirst': WHATEVER THE INPUT: true; the input reads as it did. -/
def treeFirstSpec : ChangeSpec := { name := "treeFirst", fn := fun _ => fun
  | [d1, d2] => { results := [.lit (.bool true)], args := [d1, d2] }
  | _ => none }
def treeFirstRow : OpenClaim := { program := "ytnbclbphggmenaa", sum := "4030f12a6e342852d9e0f9cc3c2706a9e6aa6bd23f1748bdcf7aa6ffa5bb724f", func := "whittler/whittlerlaw3.TreeFirst", spec := "treeFirst", unfollowed := true, recurses := true, loops := true, apart := false }
def TreeFirstSaid : Prop := treeFirstRow.holds Try.pinned (OpenSpec.ofChange treeFirstSpec)

/-- ITS FALSE NEIGHBOUR: 'it returns false'. Refute it at one input. -/
def treeFirstWrong : ChangeSpec := { name := "treeFirst", fn := fun _ => fun
  | [d1, d2] => { results := [.lit (.bool false)], args := [d1, d2] }
  | _ => none }
def TreeFirstWrongFalsely : Prop := treeFirstRow.holds Try.pinned (OpenSpec.ofChange treeFirstWrong)

/-- 'whittlerlaw3.TreeEq': WHATEVER THE INPUT: true; the input reads as it did. -/
def treeEqSpec : ChangeSpec := { name := "treeEq", fn := fun _ => fun
  | [d1, d2] => { results := [.lit (.bool true)], args := [d1, d2] }
  | _ => none }
def treeEqRow : OpenClaim := { program := "ytnbclbphggmenaa", sum := "4030f12a6e342852d9e0f9cc3c2706a9e6aa6bd23f1748bdcf7aa6ffa5bb724f", func := "whittler/whittlerlaw3.TreeEq", spec := "treeEq", unfollowed := true, recurses := true, loops := true, apart := false }
def TreeEqSaid : Prop := treeEqRow.holds Try.pinned (OpenSpec.ofChange treeEqSpec)

/-- ITS FALSE NEIGHBOUR: 'it returns false'. Refute it at one input. -/
def treeEqWrong : ChangeSpec := { name := "treeEq", fn := fun _ => fun
  | [d1, d2] => { results := [.lit (.bool false)], args := [d1, d2] }
  | _ => none }
def TreeEqWrongFalsely : Prop := treeEqRow.holds Try.pinned (OpenSpec.ofChange treeEqWrong)

/-- 'whittlerlaw3.TreeTurned': WHATEVER THE INPUT: true; the input reads as it did. -/
def treeTurnedSpec : ChangeSpec := { name := "treeTurned", fn := fun _ => fun
  | [d1, d2, d3, d4] => { results := [.lit (.bool true)], args := [d1, d2, d3, d4] }
  | _ => none }
def treeTurnedRow : OpenClaim := { program := "ytnbclbphggmenaa", sum := "4030f12a6e342852d9e0f9cc3c2706a9e6aa6bd23f1748bdcf7aa6ffa5bb724f", func := "whittler/whittlerlaw3.TreeTurned", spec := "treeTurned", unfollowed := true, recurses := true, loops := true, apart := false }
def TreeTurnedSaid : Prop := treeTurnedRow.holds Try.pinned (OpenSpec.ofChange treeTurnedSpec)

/-- ITS FALSE NEIGHBOUR: 'it returns false'. Refute it at one input. -/
def treeTurnedWrong : ChangeSpec := { name := "treeTurned", fn := fun _ => fun
  | [d1, d2, d3, d4] => { results := [.lit (.bool false)], args := [d1, d2, d3, d4] }
  | _ => none }
def TreeTurnedWrongFalsely : Prop := treeTurnedRow.holds Try.pinned (OpenSpec.ofChange treeTurnedWrong)

/-- 'whittlerlaw3.TreeSwap': WHATEVER THE INPUT: true; the input reads as it did. -/
def treeSwapSpec : ChangeSpec := { name := "treeSwap", fn := fun _ => fun
  | [d1, d2, d3] => { results := [.lit (.bool true)], args := [d1, d2, d3] }
  | _ => none }
def treeSwapRow : OpenClaim := { program := "ytnbclbphggmenaa", sum := "4030f12a6e342852d9e0f9cc3c2706a9e6aa6bd23f1748bdcf7aa6ffa5bb724f", func := "whittler/whittlerlaw3.TreeSwap", spec := "treeSwap", unfollowed := true, recurses := true, loops := true, apart := false }
def TreeSwapSaid : Prop := treeSwapRow.holds Try.pinned (OpenSpec.ofChange treeSwapSpec)

/-- ITS FALSE NEIGHBOUR: 'it returns false'. Refute it at one input. -/
def treeSwapWrong : ChangeSpec := { name := "treeSwap", fn := fun _ => fun
  | [d1, d2, d3] => { results := [.lit (.bool false)], args := [d1, d2, d3] }
  | _ => none }
def TreeSwapWrongFalsely : Prop := treeSwapRow.holds Try.pinned (OpenSpec.ofChange treeSwapWrong)

/-- 'whittlerlaw3.TreeNumber': WHATEVER THE INPUT: true; the input reads as it did. -/
def treeNumberSpec : ChangeSpec := { name := "treeNumber", fn := fun _ => fun
  | [d1, d2, d3] => { results := [.lit (.bool true)], args := [d1, d2, d3] }
  | _ => none }
def treeNumberRow : OpenClaim := { program := "ytnbclbphggmenaa", sum := "4030f12a6e342852d9e0f9cc3c2706a9e6aa6bd23f1748bdcf7aa6ffa5bb724f", func := "whittler/whittlerlaw3.TreeNumber", spec := "treeNumber", unfollowed := true, recurses := true, loops := true, apart := false }
def TreeNumberSaid : Prop := treeNumberRow.holds Try.pinned (OpenSpec.ofChange treeNumberSpec)

/-- ITS FALSE NEIGHBOUR: 'it returns false'. Refute it at one input. -/
def treeNumberWrong : ChangeSpec := { name := "treeNumber", fn := fun _ => fun
  | [d1, d2, d3] => { results := [.lit (.bool false)], args := [d1, d2, d3] }
  | _ => none }
def TreeNumberWrongFalsely : Prop := treeNumberRow.holds Try.pinned (OpenSpec.ofChange treeNumberWrong)

/-- 'whittlerlaw3.TreeOwn': WHATEVER THE INPUT: true; the input reads as it did. -/
def treeOwnSpec : ChangeSpec := { name := "treeOwn", fn := fun _ => fun
  | [d] => { results := [.lit (.bool true)], args := [d] }
  | _ => none }
def treeOwnRow : OpenClaim := { program := "ytnbclbphggmenaa", sum := "4030f12a6e342852d9e0f9cc3c2706a9e6aa6bd23f1748bdcf7aa6ffa5bb724f", func := "whittler/whittlerlaw3.TreeOwn", spec := "treeOwn", unfollowed := true, recurses := true, loops := true, apart := false }
def TreeOwnSaid : Prop := treeOwnRow.holds Try.pinned (OpenSpec.ofChange treeOwnSpec)

/-- ITS FALSE NEIGHBOUR: 'it returns false'. Refute it at one input. -/
def treeOwnWrong : ChangeSpec := { name := "treeOwn", fn := fun _ => fun
  | [d] => { results := [.lit (.bool false)], args := [d] }
  | _ => none }
def TreeOwnWrongFalsely : Prop := treeOwnRow.holds Try.pinned (OpenSpec.ofChange treeOwnWrong)

/- THE SECOND FORM. 'bulk': how many values and letters a reading holds, each counted each time it is reached (what is shared counts as often as it is met; a slice's spare places count too). A statement '..UptoSaid' is the law's where the arguments, and the package variables that the reading takes, are together of bulk at most 1048576: NARROWER than '..Said'. Prove '..Said' where nothing that the law and all that it calls make is longer than what came in: it says more and counts as full. Else prove '..UptoSaid'. A law counts once. -/
mutual
def uptoBulk {H : Type} : DataW H → Nat
  | .lit (.string bytes) => bytes.length + 1
  | .lit _ => 1
  | .nil => 1
  | .ptr d => uptoBulk d + 1
  | .slice elems spare => uptoBulkAll elems + uptoBulkAll spare + 1
  | .agg parts => uptoBulkAll parts + 1
  | .iface _ d => uptoBulk d + 1
  | .map entries => uptoBulkEntries entries + 1
  | .held _ => 1
def uptoBulkAll {H : Type} : List (DataW H) → Nat
  | [] => 0
  | d :: r => uptoBulk d + uptoBulkAll r
def uptoBulkEntries {H : Type} : List (Lit × DataW H) → Nat
  | [] => 0
  | x :: r => uptoBulkEntry x + uptoBulkEntries r
def uptoBulkEntry {H : Type} : Lit × DataW H → Nat
  | (.string bytes, d) => bytes.length + uptoBulk d + 1
  | (_, d) => uptoBulk d + 1
 end
def uptoSmall : (H : Type) → List (DataW H) → Bool := fun _ ds => decide (uptoBulkAll ds ≤ 1048576)
def OpenSpec.upto (s : _root_.Go.ChangeSpec) : _root_.Go.OpenSpec := { _root_.Go.OpenSpec.ofChange s with cond := some uptoSmall }

/-- 'whittlerlaw12.EvalAll', WHERE WHAT IT READS IS OF BULK AT MOST 1048576: true; the input reads as it did. -/
def evalAllUptoRow : OpenClaim := { program := "ytnbclbphggmenaa", sum := "4030f12a6e342852d9e0f9cc3c2706a9e6aa6bd23f1748bdcf7aa6ffa5bb724f", func := "whittler/whittlerlaw12.EvalAll", spec := "evalAll", recurses := true, loops := true, apart := false, narrowed := true }
def EvalAllUptoSaid : Prop := evalAllUptoRow.holds Try.pinned (OpenSpec.upto evalAllSpec)

/-- 'whittlerlaw12.EvalTwo', WHERE WHAT IT READS IS OF BULK AT MOST 1048576: true; the input reads as it did. -/
def evalTwoUptoRow : OpenClaim := { program := "ytnbclbphggmenaa", sum := "4030f12a6e342852d9e0f9cc3c2706a9e6aa6bd23f1748bdcf7aa6ffa5bb724f", func := "whittler/whittlerlaw12.EvalTwo", spec := "evalTwo", recurses := true, loops := true, apart := false, narrowed := true }
def EvalTwoUptoSaid : Prop := evalTwoUptoRow.holds Try.pinned (OpenSpec.upto evalTwoSpec)

/-- 'whittlerlaw12.EvalSwap', WHERE WHAT IT READS IS OF BULK AT MOST 1048576: true; the input reads as it did. -/
def evalSwapUptoRow : OpenClaim := { program := "ytnbclbphggmenaa", sum := "4030f12a6e342852d9e0f9cc3c2706a9e6aa6bd23f1748bdcf7aa6ffa5bb724f", func := "whittler/whittlerlaw12.EvalSwap", spec := "evalSwap", recurses := true, loops := true, apart := false, narrowed := true }
def EvalSwapUptoSaid : Prop := evalSwapUptoRow.holds Try.pinned (OpenSpec.upto evalSwapSpec)

/-- 'whittlerlaw12.EvalNames', WHERE WHAT IT READS IS OF BULK AT MOST 1048576: true; the input reads as it did. -/
def evalNamesUptoRow : OpenClaim := { program := "ytnbclbphggmenaa", sum := "4030f12a6e342852d9e0f9cc3c2706a9e6aa6bd23f1748bdcf7aa6ffa5bb724f", func := "whittler/whittlerlaw12.EvalNames", spec := "evalNames", recurses := true, loops := true, apart := false, narrowed := true }
def EvalNamesUptoSaid : Prop := evalNamesUptoRow.holds Try.pinned (OpenSpec.upto evalNamesSpec)

/-- 'whittlerlaw12.EvalSubst', WHERE WHAT IT READS IS OF BULK AT MOST 1048576: true; the input reads as it did. -/
def evalSubstUptoRow : OpenClaim := { program := "ytnbclbphggmenaa", sum := "4030f12a6e342852d9e0f9cc3c2706a9e6aa6bd23f1748bdcf7aa6ffa5bb724f", func := "whittler/whittlerlaw12.EvalSubst", spec := "evalSubst", recurses := true, loops := true, apart := false, narrowed := true }
def EvalSubstUptoSaid : Prop := evalSubstUptoRow.holds Try.pinned (OpenSpec.upto evalSubstSpec)

/-- 'whittlerlaw3.TreeExpr', WHERE WHAT IT READS IS OF BULK AT MOST 1048576: true; the input reads as it did. -/
def treeExprUptoRow : OpenClaim := { program := "ytnbclbphggmenaa", sum := "4030f12a6e342852d9e0f9cc3c2706a9e6aa6bd23f1748bdcf7aa6ffa5bb724f", func := "whittler/whittlerlaw3.TreeExpr", spec := "treeExpr", unfollowed := true, recurses := true, loops := true, apart := false, narrowed := true }
def TreeExprUptoSaid : Prop := treeExprUptoRow.holds Try.pinned (OpenSpec.upto treeExprSpec)

/-- 'whittlerlaw3.TreeMay', WHERE WHAT IT READS IS OF BULK AT MOST 1048576: true; the input reads as it did. -/
def treeMayUptoRow : OpenClaim := { program := "ytnbclbphggmenaa", sum := "4030f12a6e342852d9e0f9cc3c2706a9e6aa6bd23f1748bdcf7aa6ffa5bb724f", func := "whittler/whittlerlaw3.TreeMay", spec := "treeMay", unfollowed := true, recurses := true, loops := true, apart := false, narrowed := true }
def TreeMayUptoSaid : Prop := treeMayUptoRow.holds Try.pinned (OpenSpec.upto treeMaySpec)

/-- 'whittlerlaw3.TreeTwo', WHERE WHAT IT READS IS OF BULK AT MOST 1048576: true; the input reads as it did. -/
def treeTwoUptoRow : OpenClaim := { program := "ytnbclbphggmenaa", sum := "4030f12a6e342852d9e0f9cc3c2706a9e6aa6bd23f1748bdcf7aa6ffa5bb724f", func := "whittler/whittlerlaw3.TreeTwo", spec := "treeTwo", unfollowed := true, recurses := true, loops := true, apart := false, narrowed := true }
def TreeTwoUptoSaid : Prop := treeTwoUptoRow.holds Try.pinned (OpenSpec.upto treeTwoSpec)

/-- 'whittlerlaw3.TreeFind', WHERE WHAT IT READS IS OF BULK AT MOST 1048576: true; the input reads as it did. -/
def treeFindUptoRow : OpenClaim := { program := "ytnbclbphggmenaa", sum := "4030f12a6e342852d9e0f9cc3c2706a9e6aa6bd23f1748bdcf7aa6ffa5bb724f", func := "whittler/whittlerlaw3.TreeFind", spec := "treeFind", unfollowed := true, recurses := true, loops := true, apart := false, narrowed := true }
def TreeFindUptoSaid : Prop := treeFindUptoRow.holds Try.pinned (OpenSpec.upto treeFindSpec)

/-- 'whittlerlaw3.TreeFirst', WHERE WHAT IT READS IS OF BULK AT MOST 1048576: true; the input reads as it did. -/
def treeFirstUptoRow : OpenClaim := { program := "ytnbclbphggmenaa", sum := "4030f12a6e342852d9e0f9cc3c2706a9e6aa6bd23f1748bdcf7aa6ffa5bb724f", func := "whittler/whittlerlaw3.TreeFirst", spec := "treeFirst", unfollowed := true, recurses := true, loops := true, apart := false, narrowed := true }
def TreeFirstUptoSaid : Prop := treeFirstUptoRow.holds Try.pinned (OpenSpec.upto treeFirstSpec)

/-- 'whittlerlaw3.TreeEq', WHERE WHAT IT READS IS OF BULK AT MOST 1048576: true; the input reads as it did. -/
def treeEqUptoRow : OpenClaim := { program := "ytnbclbphggmenaa", sum := "4030f12a6e342852d9e0f9cc3c2706a9e6aa6bd23f1748bdcf7aa6ffa5bb724f", func := "whittler/whittlerlaw3.TreeEq", spec := "treeEq", unfollowed := true, recurses := true, loops := true, apart := false, narrowed := true }
def TreeEqUptoSaid : Prop := treeEqUptoRow.holds Try.pinned (OpenSpec.upto treeEqSpec)

/-- 'whittlerlaw3.TreeTurned', WHERE WHAT IT READS IS OF BULK AT MOST 1048576: true; the input reads as it did. -/
def treeTurnedUptoRow : OpenClaim := { program := "ytnbclbphggmenaa", sum := "4030f12a6e342852d9e0f9cc3c2706a9e6aa6bd23f1748bdcf7aa6ffa5bb724f", func := "whittler/whittlerlaw3.TreeTurned", spec := "treeTurned", unfollowed := true, recurses := true, loops := true, apart := false, narrowed := true }
def TreeTurnedUptoSaid : Prop := treeTurnedUptoRow.holds Try.pinned (OpenSpec.upto treeTurnedSpec)

/-- 'whittlerlaw3.TreeSwap', WHERE WHAT IT READS IS OF BULK AT MOST 1048576: true; the input reads as it did. -/
def treeSwapUptoRow : OpenClaim := { program := "ytnbclbphggmenaa", sum := "4030f12a6e342852d9e0f9cc3c2706a9e6aa6bd23f1748bdcf7aa6ffa5bb724f", func := "whittler/whittlerlaw3.TreeSwap", spec := "treeSwap", unfollowed := true, recurses := true, loops := true, apart := false, narrowed := true }
def TreeSwapUptoSaid : Prop := treeSwapUptoRow.holds Try.pinned (OpenSpec.upto treeSwapSpec)

/-- 'whittlerlaw3.TreeNumber', WHERE WHAT IT READS IS OF BULK AT MOST 1048576: true; the input reads as it did. -/
def treeNumberUptoRow : OpenClaim := { program := "ytnbclbphggmenaa", sum := "4030f12a6e342852d9e0f9cc3c2706a9e6aa6bd23f1748bdcf7aa6ffa5bb724f", func := "whittler/whittlerlaw3.TreeNumber", spec := "treeNumber", unfollowed := true, recurses := true, loops := true, apart := false, narrowed := true }
def TreeNumberUptoSaid : Prop := treeNumberUptoRow.holds Try.pinned (OpenSpec.upto treeNumberSpec)

/-- 'whittlerlaw3.TreeOwn', WHERE WHAT IT READS IS OF BULK AT MOST 1048576: true; the input reads as it did. -/
def treeOwnUptoRow : OpenClaim := { program := "ytnbclbphggmenaa", sum := "4030f12a6e342852d9e0f9cc3c2706a9e6aa6bd23f1748bdcf7aa6ffa5bb724f", func := "whittler/whittlerlaw3.TreeOwn", spec := "treeOwn", unfollowed := true, recurses := true, loops := true, apart := false, narrowed := true }
def TreeOwnUptoSaid : Prop := treeOwnUptoRow.holds Try.pinned (OpenSpec.upto treeOwnSpec)

end Rows
end Go.Proofs.Ytnbclbphggmenaa
