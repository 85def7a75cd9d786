/-
  No cell of these rows narrows 'for every input' (looked for: loops, veiled, ifaces, maps, wideKeys, modest, calm, conditions, laid).
  DERIVED. THE GIVEN ROWS OF THIS SEAT. 6 by the template 'for every input the law returns true; each argument reads behind the call as it read before'; 0 by the template 'total and deterministic' (their statements: YtfmhcgjmgaefcabTotals.lean).
  GIVEN WITH THE SEED: the statements are not yours to turn. If you find one false, say at which input.
  Laid BY PROGRAM, IN A SANDBOX (cutbox-rows.mjs): the forced cells as the released guide's own fill.sh prints them over the translation f9c3ca16c22f6373… (all of the seat's roots in one cut). By AI agents, Wed Nov 11 2026. No macro, syntax, notation, axiom, sorry.
-/
import Derived.Test.YtfmhcgjmgaefcabChecked
import GoSem.Claim
import GoSem.ClaimJoined
import GoSem.ClaimMapViews
import Derived.JoinedTies
import Derived.KernelRfl
namespace Go.Proofs.Ytfmhcgjmgaefcab
/- THE CELL 'sum', in the pinned program and in every row, IS THE sha256 OF THE DUMP (.gsa) THAT YtfmhcgjmgaefcabProg.lean LOADS. Nothing in Lean hashes anything: it is a label: what it is worth is what the hold of that sum in a sandbox is worth. -/
noncomputable def Try.pinned : Pinned := { name := "ytfmhcgjmgaefcab", sum := "f9c3ca16c22f6373b3cf08c12eb0cd7a5ee410d9ffc2fc08c9606d36123ea8ed", checked := Try.checked }
namespace Rows
def none {H : Type} : Left H := { results := [], args := [] }

/-- 'laws.FnExactCountFewest': WHATEVER THE INPUT: true; the input reads as it did. -/
def fnExactCountFewestSpec : ChangeSpec := { name := "fnExactCountFewest", fn := fun _ => fun
  | [d1, d2] => { results := [.lit (.bool true)], args := [d1, d2] }
  | _ => none }
def fnExactCountFewestRow : OpenClaim := { program := "ytfmhcgjmgaefcab", sum := "f9c3ca16c22f6373b3cf08c12eb0cd7a5ee410d9ffc2fc08c9606d36123ea8ed", func := "loop.example/g01296/laws.FnExactCountFewest", spec := "fnExactCountFewest", unfollowed := true, recurses := true, apart := false }
def FnExactCountFewestSaid : Prop := fnExactCountFewestRow.holds Try.pinned (OpenSpec.ofChange fnExactCountFewestSpec)

/-- ITS FALSE NEIGHBOUR: 'it returns false'. Refute it at one input. -/
def fnExactCountFewestWrong : ChangeSpec := { name := "fnExactCountFewest", fn := fun _ => fun
  | [d1, d2] => { results := [.lit (.bool false)], args := [d1, d2] }
  | _ => none }
def FnExactCountFewestWrongFalsely : Prop := fnExactCountFewestRow.holds Try.pinned (OpenSpec.ofChange fnExactCountFewestWrong)

/-- 'laws.FnExactFewestTable': WHATEVER THE INPUT: true; the input reads as it did. -/
def fnExactFewestTableSpec : ChangeSpec := { name := "fnExactFewestTable", fn := fun _ => fun
  | [d] => { results := [.lit (.bool true)], args := [d] }
  | _ => none }
def fnExactFewestTableRow : OpenClaim := { program := "ytfmhcgjmgaefcab", sum := "f9c3ca16c22f6373b3cf08c12eb0cd7a5ee410d9ffc2fc08c9606d36123ea8ed", func := "loop.example/g01296/laws.FnExactFewestTable", spec := "fnExactFewestTable", unfollowed := true, recurses := true, apart := false }
def FnExactFewestTableSaid : Prop := fnExactFewestTableRow.holds Try.pinned (OpenSpec.ofChange fnExactFewestTableSpec)

/-- ITS FALSE NEIGHBOUR: 'it returns false'. Refute it at one input. -/
def fnExactFewestTableWrong : ChangeSpec := { name := "fnExactFewestTable", fn := fun _ => fun
  | [d] => { results := [.lit (.bool false)], args := [d] }
  | _ => none }
def FnExactFewestTableWrongFalsely : Prop := fnExactFewestTableRow.holds Try.pinned (OpenSpec.ofChange fnExactFewestTableWrong)

/-- 'laws.FnExactLinesDown': WHATEVER THE INPUT: true; the input reads as it did. -/
def fnExactLinesDownSpec : ChangeSpec := { name := "fnExactLinesDown", fn := fun _ => fun
  | [d] => { results := [.lit (.bool true)], args := [d] }
  | _ => none }
def fnExactLinesDownRow : OpenClaim := { program := "ytfmhcgjmgaefcab", sum := "f9c3ca16c22f6373b3cf08c12eb0cd7a5ee410d9ffc2fc08c9606d36123ea8ed", func := "loop.example/g01296/laws.FnExactLinesDown", spec := "fnExactLinesDown", unfollowed := true, recurses := true, apart := false }
def FnExactLinesDownSaid : Prop := fnExactLinesDownRow.holds Try.pinned (OpenSpec.ofChange fnExactLinesDownSpec)

/-- ITS FALSE NEIGHBOUR: 'it returns false'. Refute it at one input. -/
def fnExactLinesDownWrong : ChangeSpec := { name := "fnExactLinesDown", fn := fun _ => fun
  | [d] => { results := [.lit (.bool false)], args := [d] }
  | _ => none }
def FnExactLinesDownWrongFalsely : Prop := fnExactLinesDownRow.holds Try.pinned (OpenSpec.ofChange fnExactLinesDownWrong)

/-- 'laws.FnExactLinesLose': WHATEVER THE INPUT: true; the input reads as it did. -/
def fnExactLinesLoseSpec : ChangeSpec := { name := "fnExactLinesLose", fn := fun _ => fun
  | [d1, d2] => { results := [.lit (.bool true)], args := [d1, d2] }
  | _ => none }
def fnExactLinesLoseRow : OpenClaim := { program := "ytfmhcgjmgaefcab", sum := "f9c3ca16c22f6373b3cf08c12eb0cd7a5ee410d9ffc2fc08c9606d36123ea8ed", func := "loop.example/g01296/laws.FnExactLinesLose", spec := "fnExactLinesLose", unfollowed := true, recurses := true, apart := false }
def FnExactLinesLoseSaid : Prop := fnExactLinesLoseRow.holds Try.pinned (OpenSpec.ofChange fnExactLinesLoseSpec)

/-- ITS FALSE NEIGHBOUR: 'it returns false'. Refute it at one input. -/
def fnExactLinesLoseWrong : ChangeSpec := { name := "fnExactLinesLose", fn := fun _ => fun
  | [d1, d2] => { results := [.lit (.bool false)], args := [d1, d2] }
  | _ => none }
def FnExactLinesLoseWrongFalsely : Prop := fnExactLinesLoseRow.holds Try.pinned (OpenSpec.ofChange fnExactLinesLoseWrong)

/-- 'laws.FnExactGreedyLose': WHATEVER THE INPUT: true; the input reads as it did. -/
def fnExactGreedyLoseSpec : ChangeSpec := { name := "fnExactGreedyLose", fn := fun _ => fun
  | [d1, d2] => { results := [.lit (.bool true)], args := [d1, d2] }
  | _ => none }
def fnExactGreedyLoseRow : OpenClaim := { program := "ytfmhcgjmgaefcab", sum := "f9c3ca16c22f6373b3cf08c12eb0cd7a5ee410d9ffc2fc08c9606d36123ea8ed", func := "loop.example/g01296/laws.FnExactGreedyLose", spec := "fnExactGreedyLose", unfollowed := true, recurses := true, apart := false }
def FnExactGreedyLoseSaid : Prop := fnExactGreedyLoseRow.holds Try.pinned (OpenSpec.ofChange fnExactGreedyLoseSpec)

/-- ITS FALSE NEIGHBOUR: 'it returns false'. Refute it at one input. -/
def fnExactGreedyLoseWrong : ChangeSpec := { name := "fnExactGreedyLose", fn := fun _ => fun
  | [d1, d2] => { results := [.lit (.bool false)], args := [d1, d2] }
  | _ => none }
def FnExactGreedyLoseWrongFalsely : Prop := fnExactGreedyLoseRow.holds Try.pinned (OpenSpec.ofChange fnExactGreedyLoseWrong)

/-- 'laws.FnExactCountWithoutCross': WHATEVER THE INPUT: true; the input reads as it did. -/
def fnExactCountWithoutCrossSpec : ChangeSpec := { name := "fnExactCountWithoutCross", fn := fun _ => fun
  | [d1, d2] => { results := [.lit (.bool true)], args := [d1, d2] }
  | _ => none }
def fnExactCountWithoutCrossRow : OpenClaim := { program := "ytfmhcgjmgaefcab", sum := "f9c3ca16c22f6373b3cf08c12eb0cd7a5ee410d9ffc2fc08c9606d36123ea8ed", func := "loop.example/g01296/laws.FnExactCountWithoutCross", spec := "fnExactCountWithoutCross", unfollowed := true, recurses := true, apart := false }
def FnExactCountWithoutCrossSaid : Prop := fnExactCountWithoutCrossRow.holds Try.pinned (OpenSpec.ofChange fnExactCountWithoutCrossSpec)

/-- ITS FALSE NEIGHBOUR: 'it returns false'. Refute it at one input. -/
def fnExactCountWithoutCrossWrong : ChangeSpec := { name := "fnExactCountWithoutCross", fn := fun _ => fun
  | [d1, d2] => { results := [.lit (.bool false)], args := [d1, d2] }
  | _ => none }
def FnExactCountWithoutCrossWrongFalsely : Prop := fnExactCountWithoutCrossRow.holds Try.pinned (OpenSpec.ofChange fnExactCountWithoutCrossWrong)

/- THE SECOND FORM. 'bulk': how many values and letters a reading holds, each counted each time it is reached (what is shared counts as often as it is met; a slice's spare places count too). A statement '..UptoSaid' is the law's where the arguments, and the package variables that the reading takes, are together of bulk at most 1048576: NARROWER than '..Said'. Prove '..Said' where nothing that the law and all that it calls make is longer than what came in: it says more and counts as full. Else prove '..UptoSaid'. A law counts once. -/
mutual
def uptoBulk {H : Type} : DataW H → Nat
  | .lit (.string bytes) => bytes.length + 1
  | .lit _ => 1
  | .nil => 1
  | .ptr d => uptoBulk d + 1
  | .slice elems spare => uptoBulkAll elems + uptoBulkAll spare + 1
  | .agg parts => uptoBulkAll parts + 1
  | .iface _ d => uptoBulk d + 1
  | .map entries => uptoBulkEntries entries + 1
  | .held _ => 1
def uptoBulkAll {H : Type} : List (DataW H) → Nat
  | [] => 0
  | d :: r => uptoBulk d + uptoBulkAll r
def uptoBulkEntries {H : Type} : List (Lit × DataW H) → Nat
  | [] => 0
  | x :: r => uptoBulkEntry x + uptoBulkEntries r
def uptoBulkEntry {H : Type} : Lit × DataW H → Nat
  | (.string bytes, d) => bytes.length + uptoBulk d + 1
  | (_, d) => uptoBulk d + 1
 end
def uptoSmall : (H : Type) → List (DataW H) → Bool := fun _ ds => decide (uptoBulkAll ds ≤ 1048576)
def OpenSpec.upto (s : _root_.Go.ChangeSpec) : _root_.Go.OpenSpec := { _root_.Go.OpenSpec.ofChange s with cond := some uptoSmall }

/-- 'laws.FnExactCountFewest', WHERE WHAT IT READS IS OF BULK AT MOST 1048576: true; the input reads as it did. -/
def fnExactCountFewestUptoRow : OpenClaim := { program := "ytfmhcgjmgaefcab", sum := "f9c3ca16c22f6373b3cf08c12eb0cd7a5ee410d9ffc2fc08c9606d36123ea8ed", func := "loop.example/g01296/laws.FnExactCountFewest", spec := "fnExactCountFewest", unfollowed := true, recurses := true, apart := false, narrowed := true }
def FnExactCountFewestUptoSaid : Prop := fnExactCountFewestUptoRow.holds Try.pinned (OpenSpec.upto fnExactCountFewestSpec)

/-- 'laws.FnExactFewestTable', WHERE WHAT IT READS IS OF BULK AT MOST 1048576: true; the input reads as it did. -/
def fnExactFewestTableUptoRow : OpenClaim := { program := "ytfmhcgjmgaefcab", sum := "f9c3ca16c22f6373b3cf08c12eb0cd7a5ee410d9ffc2fc08c9606d36123ea8ed", func := "loop.example/g01296/laws.FnExactFewestTable", spec := "fnExactFewestTable", unfollowed := true, recurses := true, apart := false, narrowed := true }
def FnExactFewestTableUptoSaid : Prop := fnExactFewestTableUptoRow.holds Try.pinned (OpenSpec.upto fnExactFewestTableSpec)

/-- 'laws.FnExactLinesDown', WHERE WHAT IT READS IS OF BULK AT MOST 1048576: true; the input reads as it did. -/
def fnExactLinesDownUptoRow : OpenClaim := { program := "ytfmhcgjmgaefcab", sum := "f9c3ca16c22f6373b3cf08c12eb0cd7a5ee410d9ffc2fc08c9606d36123ea8ed", func := "loop.example/g01296/laws.FnExactLinesDown", spec := "fnExactLinesDown", unfollowed := true, recurses := true, apart := false, narrowed := true }
def FnExactLinesDownUptoSaid : Prop := fnExactLinesDownUptoRow.holds Try.pinned (OpenSpec.upto fnExactLinesDownSpec)

/-- 'laws.FnExactLinesLose', WHERE WHAT IT READS IS OF BULK AT MOST 1048576: true; the input reads as it did. -/
def fnExactLinesLoseUptoRow : OpenClaim := { program := "ytfmhcgjmgaefcab", sum := "f9c3ca16c22f6373b3cf08c12eb0cd7a5ee410d9ffc2fc08c9606d36123ea8ed", func := "loop.example/g01296/laws.FnExactLinesLose", spec := "fnExactLinesLose", unfollowed := true, recurses := true, apart := false, narrowed := true }
def FnExactLinesLoseUptoSaid : Prop := fnExactLinesLoseUptoRow.holds Try.pinned (OpenSpec.upto fnExactLinesLoseSpec)

/-- 'laws.FnExactGreedyLose', WHERE WHAT IT READS IS OF BULK AT MOST 1048576: true; the input reads as it did. -/
def fnExactGreedyLoseUptoRow : OpenClaim := { program := "ytfmhcgjmgaefcab", sum := "f9c3ca16c22f6373b3cf08c12eb0cd7a5ee410d9ffc2fc08c9606d36123ea8ed", func := "loop.example/g01296/laws.FnExactGreedyLose", spec := "fnExactGreedyLose", unfollowed := true, recurses := true, apart := false, narrowed := true }
def FnExactGreedyLoseUptoSaid : Prop := fnExactGreedyLoseUptoRow.holds Try.pinned (OpenSpec.upto fnExactGreedyLoseSpec)

/-- 'laws.FnExactCountWithoutCross', WHERE WHAT IT READS IS OF BULK AT MOST 1048576: true; the input reads as it did. -/
def fnExactCountWithoutCrossUptoRow : OpenClaim := { program := "ytfmhcgjmgaefcab", sum := "f9c3ca16c22f6373b3cf08c12eb0cd7a5ee410d9ffc2fc08c9606d36123ea8ed", func := "loop.example/g01296/laws.FnExactCountWithoutCross", spec := "fnExactCountWithoutCross", unfollowed := true, recurses := true, apart := false, narrowed := true }
def FnExactCountWithoutCrossUptoSaid : Prop := fnExactCountWithoutCrossUptoRow.holds Try.pinned (OpenSpec.upto fnExactCountWithoutCrossSpec)

end Rows
end Go.Proofs.Ytfmhcgjmgaefcab
