/-
  No cell of these rows narrows 'for every input' (looked for: loops, veiled, ifaces, maps, wideKeys, modest, calm, conditions, laid).
  DERIVED. THE GIVEN ROWS OF THIS SEAT. 4 by the template 'for every input the law returns true; each argument reads behind the call as it read before'; 0 by the template 'total and deterministic' (their statements: YtfmhcgjmgaefcadTotals.lean).
  GIVEN WITH THE SEED: the statements are not yours to turn. If you find one false, say at which input.
  Laid BY PROGRAM, IN A SANDBOX (cutbox-rows.mjs): the forced cells as the released guide's own fill.sh prints them over the translation 662f56c29dceff0a… (all of the seat's roots in one cut). By AI agents, Wed Nov 11 2026. No macro, syntax, notation, axiom, sorry.
-/
import Derived.Test.YtfmhcgjmgaefcadChecked
import GoSem.Claim
import GoSem.ClaimJoined
import GoSem.ClaimMapViews
import Derived.JoinedTies
import Derived.KernelRfl
namespace Go.Proofs.Ytfmhcgjmgaefcad
/- THE CELL 'sum', in the pinned program and in every row, IS THE sha256 OF THE DUMP (.gsa) THAT YtfmhcgjmgaefcadProg.lean LOADS. Nothing in Lean hashes anything: it is a label: what it is worth is what the hold of that sum in a sandbox is worth. -/
noncomputable def Try.pinned : Pinned := { name := "ytfmhcgjmgaefcad", sum := "662f56c29dceff0ac3beb099e64e6db6803f3f10d672e84b8e5bc2f764f0700d", checked := Try.checked }
namespace Rows
def none {H : Type} : Left H := { results := [], args := [] }

/-- 'laws.FnExactTakePart': WHATEVER THE INPUT: true; the input reads as it did. -/
def fnExactTakePartSpec : ChangeSpec := { name := "fnExactTakePart", fn := fun _ => fun
  | [d1, d2] => { results := [.lit (.bool true)], args := [d1, d2] }
  | _ => none }
def fnExactTakePartRow : OpenClaim := { program := "ytfmhcgjmgaefcad", sum := "662f56c29dceff0ac3beb099e64e6db6803f3f10d672e84b8e5bc2f764f0700d", func := "loop.example/g01296/laws.FnExactTakePart", spec := "fnExactTakePart", unfollowed := true, recurses := true, apart := false }
def FnExactTakePartSaid : Prop := fnExactTakePartRow.holds Try.pinned (OpenSpec.ofChange fnExactTakePartSpec)

/-- ITS FALSE NEIGHBOUR: 'it returns false'. Refute it at one input. -/
def fnExactTakePartWrong : ChangeSpec := { name := "fnExactTakePart", fn := fun _ => fun
  | [d1, d2] => { results := [.lit (.bool false)], args := [d1, d2] }
  | _ => none }
def FnExactTakePartWrongFalsely : Prop := fnExactTakePartRow.holds Try.pinned (OpenSpec.ofChange fnExactTakePartWrong)

/-- 'laws.FnExactRankOfCut': WHATEVER THE INPUT: true; the input reads as it did. -/
def fnExactRankOfCutSpec : ChangeSpec := { name := "fnExactRankOfCut", fn := fun _ => fun
  | [d] => { results := [.lit (.bool true)], args := [d] }
  | _ => none }
def fnExactRankOfCutRow : OpenClaim := { program := "ytfmhcgjmgaefcad", sum := "662f56c29dceff0ac3beb099e64e6db6803f3f10d672e84b8e5bc2f764f0700d", func := "loop.example/g01296/laws.FnExactRankOfCut", spec := "fnExactRankOfCut", unfollowed := true, recurses := true, apart := false }
def FnExactRankOfCutSaid : Prop := fnExactRankOfCutRow.holds Try.pinned (OpenSpec.ofChange fnExactRankOfCutSpec)

/-- ITS FALSE NEIGHBOUR: 'it returns false'. Refute it at one input. -/
def fnExactRankOfCutWrong : ChangeSpec := { name := "fnExactRankOfCut", fn := fun _ => fun
  | [d] => { results := [.lit (.bool false)], args := [d] }
  | _ => none }
def FnExactRankOfCutWrongFalsely : Prop := fnExactRankOfCutRow.holds Try.pinned (OpenSpec.ofChange fnExactRankOfCutWrong)

/-- 'laws.FnExactGreedyCut': WHATEVER THE INPUT: true; the input reads as it did. -/
def fnExactGreedyCutSpec : ChangeSpec := { name := "fnExactGreedyCut", fn := fun _ => fun
  | [d1, d2] => { results := [.lit (.bool true)], args := [d1, d2] }
  | _ => none }
def fnExactGreedyCutRow : OpenClaim := { program := "ytfmhcgjmgaefcad", sum := "662f56c29dceff0ac3beb099e64e6db6803f3f10d672e84b8e5bc2f764f0700d", func := "loop.example/g01296/laws.FnExactGreedyCut", spec := "fnExactGreedyCut", unfollowed := true, recurses := true, apart := false }
def FnExactGreedyCutSaid : Prop := fnExactGreedyCutRow.holds Try.pinned (OpenSpec.ofChange fnExactGreedyCutSpec)

/-- ITS FALSE NEIGHBOUR: 'it returns false'. Refute it at one input. -/
def fnExactGreedyCutWrong : ChangeSpec := { name := "fnExactGreedyCut", fn := fun _ => fun
  | [d1, d2] => { results := [.lit (.bool false)], args := [d1, d2] }
  | _ => none }
def FnExactGreedyCutWrongFalsely : Prop := fnExactGreedyCutRow.holds Try.pinned (OpenSpec.ofChange fnExactGreedyCutWrong)

/-- 'laws.FnExactCutByLines': WHATEVER THE INPUT: true; the input reads as it did. -/
def fnExactCutByLinesSpec : ChangeSpec := { name := "fnExactCutByLines", fn := fun _ => fun
  | [d1, d2] => { results := [.lit (.bool true)], args := [d1, d2] }
  | _ => none }
def fnExactCutByLinesRow : OpenClaim := { program := "ytfmhcgjmgaefcad", sum := "662f56c29dceff0ac3beb099e64e6db6803f3f10d672e84b8e5bc2f764f0700d", func := "loop.example/g01296/laws.FnExactCutByLines", spec := "fnExactCutByLines", unfollowed := true, recurses := true, apart := false }
def FnExactCutByLinesSaid : Prop := fnExactCutByLinesRow.holds Try.pinned (OpenSpec.ofChange fnExactCutByLinesSpec)

/-- ITS FALSE NEIGHBOUR: 'it returns false'. Refute it at one input. -/
def fnExactCutByLinesWrong : ChangeSpec := { name := "fnExactCutByLines", fn := fun _ => fun
  | [d1, d2] => { results := [.lit (.bool false)], args := [d1, d2] }
  | _ => none }
def FnExactCutByLinesWrongFalsely : Prop := fnExactCutByLinesRow.holds Try.pinned (OpenSpec.ofChange fnExactCutByLinesWrong)

/- THE SECOND FORM. 'bulk': how many values and letters a reading holds, each counted each time it is reached (what is shared counts as often as it is met; a slice's spare places count too). A statement '..UptoSaid' is the law's where the arguments, and the package variables that the reading takes, are together of bulk at most 1048576: NARROWER than '..Said'. Prove '..Said' where nothing that the law and all that it calls make is longer than what came in: it says more and counts as full. Else prove '..UptoSaid'. A law counts once. -/
mutual
def uptoBulk {H : Type} : DataW H → Nat
  | .lit (.string bytes) => bytes.length + 1
  | .lit _ => 1
  | .nil => 1
  | .ptr d => uptoBulk d + 1
  | .slice elems spare => uptoBulkAll elems + uptoBulkAll spare + 1
  | .agg parts => uptoBulkAll parts + 1
  | .iface _ d => uptoBulk d + 1
  | .map entries => uptoBulkEntries entries + 1
  | .held _ => 1
def uptoBulkAll {H : Type} : List (DataW H) → Nat
  | [] => 0
  | d :: r => uptoBulk d + uptoBulkAll r
def uptoBulkEntries {H : Type} : List (Lit × DataW H) → Nat
  | [] => 0
  | x :: r => uptoBulkEntry x + uptoBulkEntries r
def uptoBulkEntry {H : Type} : Lit × DataW H → Nat
  | (.string bytes, d) => bytes.length + uptoBulk d + 1
  | (_, d) => uptoBulk d + 1
 end
def uptoSmall : (H : Type) → List (DataW H) → Bool := fun _ ds => decide (uptoBulkAll ds ≤ 1048576)
def OpenSpec.upto (s : _root_.Go.ChangeSpec) : _root_.Go.OpenSpec := { _root_.Go.OpenSpec.ofChange s with cond := some uptoSmall }

/-- 'laws.FnExactTakePart', WHERE WHAT IT READS IS OF BULK AT MOST 1048576: true; the input reads as it did. -/
def fnExactTakePartUptoRow : OpenClaim := { program := "ytfmhcgjmgaefcad", sum := "662f56c29dceff0ac3beb099e64e6db6803f3f10d672e84b8e5bc2f764f0700d", func := "loop.example/g01296/laws.FnExactTakePart", spec := "fnExactTakePart", unfollowed := true, recurses := true, apart := false, narrowed := true }
def FnExactTakePartUptoSaid : Prop := fnExactTakePartUptoRow.holds Try.pinned (OpenSpec.upto fnExactTakePartSpec)

/-- 'laws.FnExactRankOfCut', WHERE WHAT IT READS IS OF BULK AT MOST 1048576: true; the input reads as it did. -/
def fnExactRankOfCutUptoRow : OpenClaim := { program := "ytfmhcgjmgaefcad", sum := "662f56c29dceff0ac3beb099e64e6db6803f3f10d672e84b8e5bc2f764f0700d", func := "loop.example/g01296/laws.FnExactRankOfCut", spec := "fnExactRankOfCut", unfollowed := true, recurses := true, apart := false, narrowed := true }
def FnExactRankOfCutUptoSaid : Prop := fnExactRankOfCutUptoRow.holds Try.pinned (OpenSpec.upto fnExactRankOfCutSpec)

/-- 'laws.FnExactGreedyCut', WHERE WHAT IT READS IS OF BULK AT MOST 1048576: true; the input reads as it did. -/
def fnExactGreedyCutUptoRow : OpenClaim := { program := "ytfmhcgjmgaefcad", sum := "662f56c29dceff0ac3beb099e64e6db6803f3f10d672e84b8e5bc2f764f0700d", func := "loop.example/g01296/laws.FnExactGreedyCut", spec := "fnExactGreedyCut", unfollowed := true, recurses := true, apart := false, narrowed := true }
def FnExactGreedyCutUptoSaid : Prop := fnExactGreedyCutUptoRow.holds Try.pinned (OpenSpec.upto fnExactGreedyCutSpec)

/-- 'laws.FnExactCutByLines', WHERE WHAT IT READS IS OF BULK AT MOST 1048576: true; the input reads as it did. -/
def fnExactCutByLinesUptoRow : OpenClaim := { program := "ytfmhcgjmgaefcad", sum := "662f56c29dceff0ac3beb099e64e6db6803f3f10d672e84b8e5bc2f764f0700d", func := "loop.example/g01296/laws.FnExactCutByLines", spec := "fnExactCutByLines", unfollowed := true, recurses := true, apart := false, narrowed := true }
def FnExactCutByLinesUptoSaid : Prop := fnExactCutByLinesUptoRow.holds Try.pinned (OpenSpec.upto fnExactCutByLinesSpec)

end Rows
end Go.Proofs.Ytfmhcgjmgaefcad
