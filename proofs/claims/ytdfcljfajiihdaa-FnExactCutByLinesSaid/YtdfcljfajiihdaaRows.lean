/-
  No cell of these rows narrows 'for every input' (looked for: loops, veiled, ifaces, maps, wideKeys, modest, calm, conditions, laid).
  DERIVED. THE GIVEN ROWS OF THIS SEAT. 6 by the template 'for every input the law returns true; each argument reads behind the call as it read before'; 0 by the template 'total and deterministic' (their statements: YtdfcljfajiihdaaTotals.lean).
  GIVEN WITH THE SEED: the statements are not yours to turn. If you find one false, say at which input.
  Laid BY PROGRAM, IN A SANDBOX (cutbox-rows.mjs): the forced cells as the released guide's own fill.sh prints them over the translation 3cdfb3a3c8d46c3d… (all of the seat's roots in one cut). By AI agents, Wed Nov 11 2026. No macro, syntax, notation, axiom, sorry.
-/
import Derived.Test.YtdfcljfajiihdaaChecked
import GoSem.Claim
import GoSem.ClaimJoined
import GoSem.ClaimMapViews
import Derived.JoinedTies
import Derived.KernelRfl
namespace Go.Proofs.Ytdfcljfajiihdaa
/- THE CELL 'sum', in the pinned program and in every row, IS THE sha256 OF THE DUMP (.gsa) THAT YtdfcljfajiihdaaProg.lean LOADS. Nothing in Lean hashes anything: it is a label: what it is worth is what the hold of that sum in a sandbox is worth. -/
noncomputable def Try.pinned : Pinned := { name := "ytdfcljfajiihdaa", sum := "3cdfb3a3c8d46c3d1c2da89f9ee631828cf2fa9995c79ea46a0941ea721cdd19", checked := Try.checked }
namespace Rows
def none {H : Type} : Left H := { results := [], args := [] }

/-- 'laws.FnExactLinedTable': WHATEVER THE INPUT: true; the input reads as it did. -/
def fnExactLinedTableSpec : ChangeSpec := { name := "fnExactLinedTable", fn := fun _ => fun
  | [d] => { results := [.lit (.bool true)], args := [d] }
  | _ => none }
def fnExactLinedTableRow : OpenClaim := { program := "ytdfcljfajiihdaa", sum := "3cdfb3a3c8d46c3d1c2da89f9ee631828cf2fa9995c79ea46a0941ea721cdd19", func := "loop.example/g01296/laws.FnExactLinedTable", spec := "fnExactLinedTable", apart := false }
def FnExactLinedTableSaid : Prop := fnExactLinedTableRow.holds Try.pinned (OpenSpec.ofChange fnExactLinedTableSpec)

/-- ITS FALSE NEIGHBOUR: 'it returns false'. Refute it at one input. -/
def fnExactLinedTableWrong : ChangeSpec := { name := "fnExactLinedTable", fn := fun _ => fun
  | [d] => { results := [.lit (.bool false)], args := [d] }
  | _ => none }
def FnExactLinedTableWrongFalsely : Prop := fnExactLinedTableRow.holds Try.pinned (OpenSpec.ofChange fnExactLinedTableWrong)

/-- 'laws.FnExactCountWithoutCross': WHATEVER THE INPUT: true; the input reads as it did. -/
def fnExactCountWithoutCrossSpec : ChangeSpec := { name := "fnExactCountWithoutCross", fn := fun _ => fun
  | [d1, d2] => { results := [.lit (.bool true)], args := [d1, d2] }
  | _ => none }
def fnExactCountWithoutCrossRow : OpenClaim := { program := "ytdfcljfajiihdaa", sum := "3cdfb3a3c8d46c3d1c2da89f9ee631828cf2fa9995c79ea46a0941ea721cdd19", func := "loop.example/g01296/laws.FnExactCountWithoutCross", spec := "fnExactCountWithoutCross", unfollowed := true, recurses := true, apart := false }
def FnExactCountWithoutCrossSaid : Prop := fnExactCountWithoutCrossRow.holds Try.pinned (OpenSpec.ofChange fnExactCountWithoutCrossSpec)

/-- ITS FALSE NEIGHBOUR: 'it returns false'. Refute it at one input. -/
def fnExactCountWithoutCrossWrong : ChangeSpec := { name := "fnExactCountWithoutCross", fn := fun _ => fun
  | [d1, d2] => { results := [.lit (.bool false)], args := [d1, d2] }
  | _ => none }
def FnExactCountWithoutCrossWrongFalsely : Prop := fnExactCountWithoutCrossRow.holds Try.pinned (OpenSpec.ofChange fnExactCountWithoutCrossWrong)

/-- 'laws.FnExactPartDown': WHATEVER THE INPUT: true; the input reads as it did. -/
def fnExactPartDownSpec : ChangeSpec := { name := "fnExactPartDown", fn := fun _ => fun
  | [d] => { results := [.lit (.bool true)], args := [d] }
  | _ => none }
def fnExactPartDownRow : OpenClaim := { program := "ytdfcljfajiihdaa", sum := "3cdfb3a3c8d46c3d1c2da89f9ee631828cf2fa9995c79ea46a0941ea721cdd19", func := "loop.example/g01296/laws.FnExactPartDown", spec := "fnExactPartDown", unfollowed := true, recurses := true, apart := false }
def FnExactPartDownSaid : Prop := fnExactPartDownRow.holds Try.pinned (OpenSpec.ofChange fnExactPartDownSpec)

/-- ITS FALSE NEIGHBOUR: 'it returns false'. Refute it at one input. -/
def fnExactPartDownWrong : ChangeSpec := { name := "fnExactPartDown", fn := fun _ => fun
  | [d] => { results := [.lit (.bool false)], args := [d] }
  | _ => none }
def FnExactPartDownWrongFalsely : Prop := fnExactPartDownRow.holds Try.pinned (OpenSpec.ofChange fnExactPartDownWrong)

/-- 'laws.FnExactTakePart': WHATEVER THE INPUT: true; the input reads as it did. -/
def fnExactTakePartSpec : ChangeSpec := { name := "fnExactTakePart", fn := fun _ => fun
  | [d1, d2] => { results := [.lit (.bool true)], args := [d1, d2] }
  | _ => none }
def fnExactTakePartRow : OpenClaim := { program := "ytdfcljfajiihdaa", sum := "3cdfb3a3c8d46c3d1c2da89f9ee631828cf2fa9995c79ea46a0941ea721cdd19", func := "loop.example/g01296/laws.FnExactTakePart", spec := "fnExactTakePart", unfollowed := true, recurses := true, apart := false }
def FnExactTakePartSaid : Prop := fnExactTakePartRow.holds Try.pinned (OpenSpec.ofChange fnExactTakePartSpec)

/-- ITS FALSE NEIGHBOUR: 'it returns false'. Refute it at one input. -/
def fnExactTakePartWrong : ChangeSpec := { name := "fnExactTakePart", fn := fun _ => fun
  | [d1, d2] => { results := [.lit (.bool false)], args := [d1, d2] }
  | _ => none }
def FnExactTakePartWrongFalsely : Prop := fnExactTakePartRow.holds Try.pinned (OpenSpec.ofChange fnExactTakePartWrong)

/-- 'laws.FnExactRankOfCut': WHATEVER THE INPUT: true; the input reads as it did. -/
def fnExactRankOfCutSpec : ChangeSpec := { name := "fnExactRankOfCut", fn := fun _ => fun
  | [d] => { results := [.lit (.bool true)], args := [d] }
  | _ => none }
def fnExactRankOfCutRow : OpenClaim := { program := "ytdfcljfajiihdaa", sum := "3cdfb3a3c8d46c3d1c2da89f9ee631828cf2fa9995c79ea46a0941ea721cdd19", func := "loop.example/g01296/laws.FnExactRankOfCut", spec := "fnExactRankOfCut", unfollowed := true, recurses := true, apart := false }
def FnExactRankOfCutSaid : Prop := fnExactRankOfCutRow.holds Try.pinned (OpenSpec.ofChange fnExactRankOfCutSpec)

/-- ITS FALSE NEIGHBOUR: 'it returns false'. Refute it at one input. -/
def fnExactRankOfCutWrong : ChangeSpec := { name := "fnExactRankOfCut", fn := fun _ => fun
  | [d] => { results := [.lit (.bool false)], args := [d] }
  | _ => none }
def FnExactRankOfCutWrongFalsely : Prop := fnExactRankOfCutRow.holds Try.pinned (OpenSpec.ofChange fnExactRankOfCutWrong)

/-- 'laws.FnExactCutByLines': WHATEVER THE INPUT: true; the input reads as it did. -/
def fnExactCutByLinesSpec : ChangeSpec := { name := "fnExactCutByLines", fn := fun _ => fun
  | [d1, d2] => { results := [.lit (.bool true)], args := [d1, d2] }
  | _ => none }
def fnExactCutByLinesRow : OpenClaim := { program := "ytdfcljfajiihdaa", sum := "3cdfb3a3c8d46c3d1c2da89f9ee631828cf2fa9995c79ea46a0941ea721cdd19", func := "loop.example/g01296/laws.FnExactCutByLines", spec := "fnExactCutByLines", unfollowed := true, recurses := true, apart := false }
def FnExactCutByLinesSaid : Prop := fnExactCutByLinesRow.holds Try.pinned (OpenSpec.ofChange fnExactCutByLinesSpec)

/-- ITS FALSE NEIGHBOUR: 'it returns false'. Refute it at one input. -/
def fnExactCutByLinesWrong : ChangeSpec := { name := "fnExactCutByLines", fn := fun _ => fun
  | [d1, d2] => { results := [.lit (.bool false)], args := [d1, d2] }
  | _ => none }
def FnExactCutByLinesWrongFalsely : Prop := fnExactCutByLinesRow.holds Try.pinned (OpenSpec.ofChange fnExactCutByLinesWrong)

/- THE SECOND FORM. 'bulk': how many values and letters a reading holds, each counted each time it is reached (what is shared counts as often as it is met; a slice's spare places count too). A statement '..UptoSaid' is the law's where the arguments, and the package variables that the reading takes, are together of bulk at most 1048576: NARROWER than '..Said'. Prove '..Said' where nothing that the law and all that it calls make is longer than what came in: it says more and counts as full. Else prove '..UptoSaid'. A law counts once. -/
mutual
def uptoBulk {H : Type} : DataW H → Nat
  | .lit (.string bytes) => bytes.length + 1
  | .lit _ => 1
  | .nil => 1
  | .ptr d => uptoBulk d + 1
  | .slice elems spare => uptoBulkAll elems + uptoBulkAll spare + 1
  | .agg parts => uptoBulkAll parts + 1
  | .iface _ d => uptoBulk d + 1
  | .map entries => uptoBulkEntries entries + 1
  | .held _ => 1
def uptoBulkAll {H : Type} : List (DataW H) → Nat
  | [] => 0
  | d :: r => uptoBulk d + uptoBulkAll r
def uptoBulkEntries {H : Type} : List (Lit × DataW H) → Nat
  | [] => 0
  | x :: r => uptoBulkEntry x + uptoBulkEntries r
def uptoBulkEntry {H : Type} : Lit × DataW H → Nat
  | (.string bytes, d) => bytes.length + uptoBulk d + 1
  | (_, d) => uptoBulk d + 1
 end
def uptoSmall : (H : Type) → List (DataW H) → Bool := fun _ ds => decide (uptoBulkAll ds ≤ 1048576)
def OpenSpec.upto (s : _root_.Go.ChangeSpec) : _root_.Go.OpenSpec := { _root_.Go.OpenSpec.ofChange s with cond := some uptoSmall }

/-- 'laws.FnExactLinedTable', WHERE WHAT IT READS IS OF BULK AT MOST 1048576: true; the input reads as it did. -/
def fnExactLinedTableUptoRow : OpenClaim := { program := "ytdfcljfajiihdaa", sum := "3cdfb3a3c8d46c3d1c2da89f9ee631828cf2fa9995c79ea46a0941ea721cdd19", func := "loop.example/g01296/laws.FnExactLinedTable", spec := "fnExactLinedTable", apart := false, narrowed := true }
def FnExactLinedTableUptoSaid : Prop := fnExactLinedTableUptoRow.holds Try.pinned (OpenSpec.upto fnExactLinedTableSpec)

/-- 'laws.FnExactCountWithoutCross', WHERE WHAT IT READS IS OF BULK AT MOST 1048576: true; the input reads as it did. -/
def fnExactCountWithoutCrossUptoRow : OpenClaim := { program := "ytdfcljfajiihdaa", sum := "3cdfb3a3c8d46c3d1c2da89f9ee631828cf2fa9995c79ea46a0941ea721cdd19", func := "loop.example/g01296/laws.FnExactCountWithoutCross", spec := "fnExactCountWithoutCross", unfollowed := true, recurses := true, apart := false, narrowed := true }
def FnExactCountWithoutCrossUptoSaid : Prop := fnExactCountWithoutCrossUptoRow.holds Try.pinned (OpenSpec.upto fnExactCountWithoutCrossSpec)

/-- 'laws.FnExactPartDown', WHERE WHAT IT READS IS OF BULK AT MOST 1048576: true; the input reads as it did. -/
def fnExactPartDownUptoRow : OpenClaim := { program := "ytdfcljfajiihdaa", sum := "3cdfb3a3c8d46c3d1c2da89f9ee631828cf2fa9995c79ea46a0941ea721cdd19", func := "loop.example/g01296/laws.FnExactPartDown", spec := "fnExactPartDown", unfollowed := true, recurses := true, apart := false, narrowed := true }
def FnExactPartDownUptoSaid : Prop := fnExactPartDownUptoRow.holds Try.pinned (OpenSpec.upto fnExactPartDownSpec)

/-- 'laws.FnExactTakePart', WHERE WHAT IT READS IS OF BULK AT MOST 1048576: true; the input reads as it did. -/
def fnExactTakePartUptoRow : OpenClaim := { program := "ytdfcljfajiihdaa", sum := "3cdfb3a3c8d46c3d1c2da89f9ee631828cf2fa9995c79ea46a0941ea721cdd19", func := "loop.example/g01296/laws.FnExactTakePart", spec := "fnExactTakePart", unfollowed := true, recurses := true, apart := false, narrowed := true }
def FnExactTakePartUptoSaid : Prop := fnExactTakePartUptoRow.holds Try.pinned (OpenSpec.upto fnExactTakePartSpec)

/-- 'laws.FnExactRankOfCut', WHERE WHAT IT READS IS OF BULK AT MOST 1048576: true; the input reads as it did. -/
def fnExactRankOfCutUptoRow : OpenClaim := { program := "ytdfcljfajiihdaa", sum := "3cdfb3a3c8d46c3d1c2da89f9ee631828cf2fa9995c79ea46a0941ea721cdd19", func := "loop.example/g01296/laws.FnExactRankOfCut", spec := "fnExactRankOfCut", unfollowed := true, recurses := true, apart := false, narrowed := true }
def FnExactRankOfCutUptoSaid : Prop := fnExactRankOfCutUptoRow.holds Try.pinned (OpenSpec.upto fnExactRankOfCutSpec)

/-- 'laws.FnExactCutByLines', WHERE WHAT IT READS IS OF BULK AT MOST 1048576: true; the input reads as it did. -/
def fnExactCutByLinesUptoRow : OpenClaim := { program := "ytdfcljfajiihdaa", sum := "3cdfb3a3c8d46c3d1c2da89f9ee631828cf2fa9995c79ea46a0941ea721cdd19", func := "loop.example/g01296/laws.FnExactCutByLines", spec := "fnExactCutByLines", unfollowed := true, recurses := true, apart := false, narrowed := true }
def FnExactCutByLinesUptoSaid : Prop := fnExactCutByLinesUptoRow.holds Try.pinned (OpenSpec.upto fnExactCutByLinesSpec)

end Rows
end Go.Proofs.Ytdfcljfajiihdaa
