/-
  No cell of these rows narrows 'for every input' (looked for: loops, veiled, ifaces, maps, wideKeys, modest, calm, conditions, laid).
  DERIVED. THE GIVEN ROWS OF THIS SEAT. 6 by the template 'for every input the law returns true; each argument reads behind the call as it read before'; 0 by the template 'total and deterministic' (their statements: YtfmhcgjmgaefcaaTotals.lean).
  GIVEN WITH THE SEED: the statements are not yours to turn. If you find one false, say at which input.
  Laid BY PROGRAM, IN A SANDBOX (cutbox-rows.mjs): the forced cells as the released guide's own fill.sh prints them over the translation c812d6953eaac54e… (all of the seat's roots in one cut). By AI agents, Wed Nov 11 2026. No macro, syntax, notation, axiom, sorry.
-/
import Derived.Test.YtfmhcgjmgaefcaaChecked
import GoSem.Claim
import GoSem.ClaimJoined
import GoSem.ClaimMapViews
import Derived.JoinedTies
import Derived.KernelRfl
namespace Go.Proofs.Ytfmhcgjmgaefcaa
/- THE CELL 'sum', in the pinned program and in every row, IS THE sha256 OF THE DUMP (.gsa) THAT YtfmhcgjmgaefcaaProg.lean LOADS. Nothing in Lean hashes anything: it is a label: what it is worth is what the hold of that sum in a sandbox is worth. -/
noncomputable def Try.pinned : Pinned := { name := "ytfmhcgjmgaefcaa", sum := "c812d6953eaac54ea93f016f86c303c83d959630fb5f83eb950dffe811542288", checked := Try.checked }
namespace Rows
def none {H : Type} : Left H := { results := [], args := [] }

/-- 'laws.FnExactRatioOfCut': WHATEVER THE INPUT: true; the input reads as it did. -/
def fnExactRatioOfCutSpec : ChangeSpec := { name := "fnExactRatioOfCut", fn := fun _ => fun
  | [d] => { results := [.lit (.bool true)], args := [d] }
  | _ => none }
def fnExactRatioOfCutRow : OpenClaim := { program := "ytfmhcgjmgaefcaa", sum := "c812d6953eaac54ea93f016f86c303c83d959630fb5f83eb950dffe811542288", func := "loop.example/g01296/laws.FnExactRatioOfCut", spec := "fnExactRatioOfCut", unfollowed := true, recurses := true, apart := false }
def FnExactRatioOfCutSaid : Prop := fnExactRatioOfCutRow.holds Try.pinned (OpenSpec.ofChange fnExactRatioOfCutSpec)

/-- ITS FALSE NEIGHBOUR: 'it returns false'. Refute it at one input. -/
def fnExactRatioOfCutWrong : ChangeSpec := { name := "fnExactRatioOfCut", fn := fun _ => fun
  | [d] => { results := [.lit (.bool false)], args := [d] }
  | _ => none }
def FnExactRatioOfCutWrongFalsely : Prop := fnExactRatioOfCutRow.holds Try.pinned (OpenSpec.ofChange fnExactRatioOfCutWrong)

/-- 'laws.FnExactCutsWithMost': WHATEVER THE INPUT: true; the input reads as it did. -/
def fnExactCutsWithMostSpec : ChangeSpec := { name := "fnExactCutsWithMost", fn := fun _ => fun
  | [d1, d2, d3] => { results := [.lit (.bool true)], args := [d1, d2, d3] }
  | _ => none }
def fnExactCutsWithMostRow : OpenClaim := { program := "ytfmhcgjmgaefcaa", sum := "c812d6953eaac54ea93f016f86c303c83d959630fb5f83eb950dffe811542288", func := "loop.example/g01296/laws.FnExactCutsWithMost", spec := "fnExactCutsWithMost", unfollowed := true, recurses := true, apart := false }
def FnExactCutsWithMostSaid : Prop := fnExactCutsWithMostRow.holds Try.pinned (OpenSpec.ofChange fnExactCutsWithMostSpec)

/-- ITS FALSE NEIGHBOUR: 'it returns false'. Refute it at one input. -/
def fnExactCutsWithMostWrong : ChangeSpec := { name := "fnExactCutsWithMost", fn := fun _ => fun
  | [d1, d2, d3] => { results := [.lit (.bool false)], args := [d1, d2, d3] }
  | _ => none }
def FnExactCutsWithMostWrongFalsely : Prop := fnExactCutsWithMostRow.holds Try.pinned (OpenSpec.ofChange fnExactCutsWithMostWrong)

/-- 'laws.FnExactCountCuts': WHATEVER THE INPUT: true; the input reads as it did. -/
def fnExactCountCutsSpec : ChangeSpec := { name := "fnExactCountCuts", fn := fun _ => fun
  | [d1, d2] => { results := [.lit (.bool true)], args := [d1, d2] }
  | _ => none }
def fnExactCountCutsRow : OpenClaim := { program := "ytfmhcgjmgaefcaa", sum := "c812d6953eaac54ea93f016f86c303c83d959630fb5f83eb950dffe811542288", func := "loop.example/g01296/laws.FnExactCountCuts", spec := "fnExactCountCuts", unfollowed := true, recurses := true, apart := false }
def FnExactCountCutsSaid : Prop := fnExactCountCutsRow.holds Try.pinned (OpenSpec.ofChange fnExactCountCutsSpec)

/-- ITS FALSE NEIGHBOUR: 'it returns false'. Refute it at one input. -/
def fnExactCountCutsWrong : ChangeSpec := { name := "fnExactCountCuts", fn := fun _ => fun
  | [d1, d2] => { results := [.lit (.bool false)], args := [d1, d2] }
  | _ => none }
def FnExactCountCutsWrongFalsely : Prop := fnExactCountCutsRow.holds Try.pinned (OpenSpec.ofChange fnExactCountCutsWrong)

/-- 'laws.FnExactFewestSquares': WHATEVER THE INPUT: true; the input reads as it did. -/
def fnExactFewestSquaresSpec : ChangeSpec := { name := "fnExactFewestSquares", fn := fun _ => fun
  | [d1, d2] => { results := [.lit (.bool true)], args := [d1, d2] }
  | _ => none }
def fnExactFewestSquaresRow : OpenClaim := { program := "ytfmhcgjmgaefcaa", sum := "c812d6953eaac54ea93f016f86c303c83d959630fb5f83eb950dffe811542288", func := "loop.example/g01296/laws.FnExactFewestSquares", spec := "fnExactFewestSquares", unfollowed := true, recurses := true, apart := false }
def FnExactFewestSquaresSaid : Prop := fnExactFewestSquaresRow.holds Try.pinned (OpenSpec.ofChange fnExactFewestSquaresSpec)

/-- ITS FALSE NEIGHBOUR: 'it returns false'. Refute it at one input. -/
def fnExactFewestSquaresWrong : ChangeSpec := { name := "fnExactFewestSquares", fn := fun _ => fun
  | [d1, d2] => { results := [.lit (.bool false)], args := [d1, d2] }
  | _ => none }
def FnExactFewestSquaresWrongFalsely : Prop := fnExactFewestSquaresRow.holds Try.pinned (OpenSpec.ofChange fnExactFewestSquaresWrong)

/-- 'laws.FnExactCutsBySquares': WHATEVER THE INPUT: true; the input reads as it did. -/
def fnExactCutsBySquaresSpec : ChangeSpec := { name := "fnExactCutsBySquares", fn := fun _ => fun
  | [d1, d2] => { results := [.lit (.bool true)], args := [d1, d2] }
  | _ => none }
def fnExactCutsBySquaresRow : OpenClaim := { program := "ytfmhcgjmgaefcaa", sum := "c812d6953eaac54ea93f016f86c303c83d959630fb5f83eb950dffe811542288", func := "loop.example/g01296/laws.FnExactCutsBySquares", spec := "fnExactCutsBySquares", unfollowed := true, recurses := true, apart := false }
def FnExactCutsBySquaresSaid : Prop := fnExactCutsBySquaresRow.holds Try.pinned (OpenSpec.ofChange fnExactCutsBySquaresSpec)

/-- ITS FALSE NEIGHBOUR: 'it returns false'. Refute it at one input. -/
def fnExactCutsBySquaresWrong : ChangeSpec := { name := "fnExactCutsBySquares", fn := fun _ => fun
  | [d1, d2] => { results := [.lit (.bool false)], args := [d1, d2] }
  | _ => none }
def FnExactCutsBySquaresWrongFalsely : Prop := fnExactCutsBySquaresRow.holds Try.pinned (OpenSpec.ofChange fnExactCutsBySquaresWrong)

/-- 'laws.FnExactMeanOfCuts': WHATEVER THE INPUT: true; the input reads as it did. -/
def fnExactMeanOfCutsSpec : ChangeSpec := { name := "fnExactMeanOfCuts", fn := fun _ => fun
  | [d1, d2] => { results := [.lit (.bool true)], args := [d1, d2] }
  | _ => none }
def fnExactMeanOfCutsRow : OpenClaim := { program := "ytfmhcgjmgaefcaa", sum := "c812d6953eaac54ea93f016f86c303c83d959630fb5f83eb950dffe811542288", func := "loop.example/g01296/laws.FnExactMeanOfCuts", spec := "fnExactMeanOfCuts", unfollowed := true, recurses := true, apart := false }
def FnExactMeanOfCutsSaid : Prop := fnExactMeanOfCutsRow.holds Try.pinned (OpenSpec.ofChange fnExactMeanOfCutsSpec)

/-- ITS FALSE NEIGHBOUR: 'it returns false'. Refute it at one input. -/
def fnExactMeanOfCutsWrong : ChangeSpec := { name := "fnExactMeanOfCuts", fn := fun _ => fun
  | [d1, d2] => { results := [.lit (.bool false)], args := [d1, d2] }
  | _ => none }
def FnExactMeanOfCutsWrongFalsely : Prop := fnExactMeanOfCutsRow.holds Try.pinned (OpenSpec.ofChange fnExactMeanOfCutsWrong)

/- THE SECOND FORM. 'bulk': how many values and letters a reading holds, each counted each time it is reached (what is shared counts as often as it is met; a slice's spare places count too). A statement '..UptoSaid' is the law's where the arguments, and the package variables that the reading takes, are together of bulk at most 1048576: NARROWER than '..Said'. Prove '..Said' where nothing that the law and all that it calls make is longer than what came in: it says more and counts as full. Else prove '..UptoSaid'. A law counts once. -/
mutual
def uptoBulk {H : Type} : DataW H → Nat
  | .lit (.string bytes) => bytes.length + 1
  | .lit _ => 1
  | .nil => 1
  | .ptr d => uptoBulk d + 1
  | .slice elems spare => uptoBulkAll elems + uptoBulkAll spare + 1
  | .agg parts => uptoBulkAll parts + 1
  | .iface _ d => uptoBulk d + 1
  | .map entries => uptoBulkEntries entries + 1
  | .held _ => 1
def uptoBulkAll {H : Type} : List (DataW H) → Nat
  | [] => 0
  | d :: r => uptoBulk d + uptoBulkAll r
def uptoBulkEntries {H : Type} : List (Lit × DataW H) → Nat
  | [] => 0
  | x :: r => uptoBulkEntry x + uptoBulkEntries r
def uptoBulkEntry {H : Type} : Lit × DataW H → Nat
  | (.string bytes, d) => bytes.length + uptoBulk d + 1
  | (_, d) => uptoBulk d + 1
 end
def uptoSmall : (H : Type) → List (DataW H) → Bool := fun _ ds => decide (uptoBulkAll ds ≤ 1048576)
def OpenSpec.upto (s : _root_.Go.ChangeSpec) : _root_.Go.OpenSpec := { _root_.Go.OpenSpec.ofChange s with cond := some uptoSmall }

/-- 'laws.FnExactRatioOfCut', WHERE WHAT IT READS IS OF BULK AT MOST 1048576: true; the input reads as it did. -/
def fnExactRatioOfCutUptoRow : OpenClaim := { program := "ytfmhcgjmgaefcaa", sum := "c812d6953eaac54ea93f016f86c303c83d959630fb5f83eb950dffe811542288", func := "loop.example/g01296/laws.FnExactRatioOfCut", spec := "fnExactRatioOfCut", unfollowed := true, recurses := true, apart := false, narrowed := true }
def FnExactRatioOfCutUptoSaid : Prop := fnExactRatioOfCutUptoRow.holds Try.pinned (OpenSpec.upto fnExactRatioOfCutSpec)

/-- 'laws.FnExactCutsWithMost', WHERE WHAT IT READS IS OF BULK AT MOST 1048576: true; the input reads as it did. -/
def fnExactCutsWithMostUptoRow : OpenClaim := { program := "ytfmhcgjmgaefcaa", sum := "c812d6953eaac54ea93f016f86c303c83d959630fb5f83eb950dffe811542288", func := "loop.example/g01296/laws.FnExactCutsWithMost", spec := "fnExactCutsWithMost", unfollowed := true, recurses := true, apart := false, narrowed := true }
def FnExactCutsWithMostUptoSaid : Prop := fnExactCutsWithMostUptoRow.holds Try.pinned (OpenSpec.upto fnExactCutsWithMostSpec)

/-- 'laws.FnExactCountCuts', WHERE WHAT IT READS IS OF BULK AT MOST 1048576: true; the input reads as it did. -/
def fnExactCountCutsUptoRow : OpenClaim := { program := "ytfmhcgjmgaefcaa", sum := "c812d6953eaac54ea93f016f86c303c83d959630fb5f83eb950dffe811542288", func := "loop.example/g01296/laws.FnExactCountCuts", spec := "fnExactCountCuts", unfollowed := true, recurses := true, apart := false, narrowed := true }
def FnExactCountCutsUptoSaid : Prop := fnExactCountCutsUptoRow.holds Try.pinned (OpenSpec.upto fnExactCountCutsSpec)

/-- 'laws.FnExactFewestSquares', WHERE WHAT IT READS IS OF BULK AT MOST 1048576: true; the input reads as it did. -/
def fnExactFewestSquaresUptoRow : OpenClaim := { program := "ytfmhcgjmgaefcaa", sum := "c812d6953eaac54ea93f016f86c303c83d959630fb5f83eb950dffe811542288", func := "loop.example/g01296/laws.FnExactFewestSquares", spec := "fnExactFewestSquares", unfollowed := true, recurses := true, apart := false, narrowed := true }
def FnExactFewestSquaresUptoSaid : Prop := fnExactFewestSquaresUptoRow.holds Try.pinned (OpenSpec.upto fnExactFewestSquaresSpec)

/-- 'laws.FnExactCutsBySquares', WHERE WHAT IT READS IS OF BULK AT MOST 1048576: true; the input reads as it did. -/
def fnExactCutsBySquaresUptoRow : OpenClaim := { program := "ytfmhcgjmgaefcaa", sum := "c812d6953eaac54ea93f016f86c303c83d959630fb5f83eb950dffe811542288", func := "loop.example/g01296/laws.FnExactCutsBySquares", spec := "fnExactCutsBySquares", unfollowed := true, recurses := true, apart := false, narrowed := true }
def FnExactCutsBySquaresUptoSaid : Prop := fnExactCutsBySquaresUptoRow.holds Try.pinned (OpenSpec.upto fnExactCutsBySquaresSpec)

/-- 'laws.FnExactMeanOfCuts', WHERE WHAT IT READS IS OF BULK AT MOST 1048576: true; the input reads as it did. -/
def fnExactMeanOfCutsUptoRow : OpenClaim := { program := "ytfmhcgjmgaefcaa", sum := "c812d6953eaac54ea93f016f86c303c83d959630fb5f83eb950dffe811542288", func := "loop.example/g01296/laws.FnExactMeanOfCuts", spec := "fnExactMeanOfCuts", unfollowed := true, recurses := true, apart := false, narrowed := true }
def FnExactMeanOfCutsUptoSaid : Prop := fnExactMeanOfCutsUptoRow.holds Try.pinned (OpenSpec.upto fnExactMeanOfCutsSpec)

end Rows
end Go.Proofs.Ytfmhcgjmgaefcaa
