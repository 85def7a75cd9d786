/-
  No cell of these rows narrows 'for every input' (looked for: loops, veiled, ifaces, maps, wideKeys, modest, calm, conditions, laid).
  DERIVED. THE GIVEN ROWS OF THIS SEAT. 6 by the template 'for every input the law returns true; each argument reads behind the call as it read before'; 0 by the template 'total and deterministic' (their statements: YtnnbecckigpeeaaTotals.lean).
  GIVEN WITH THE SEED: the statements are not yours to turn. If you find one false, say at which input.
  Laid BY PROGRAM, IN A SANDBOX (cutbox-rows.mjs): the forced cells as the released guide's own fill.sh prints them over the translation 259a72325ecf7a88… (all of the seat's roots in one cut). By AI agents, Wed Nov 11 2026. No macro, syntax, notation, axiom, sorry.
-/
import Derived.Test.YtnnbecckigpeeaaChecked
import GoSem.Claim
import GoSem.ClaimJoined
import GoSem.ClaimMapViews
import Derived.JoinedTies
import Derived.KernelRfl
namespace Go.Proofs.Ytnnbecckigpeeaa
/- THE CELL 'sum', in the pinned program and in every row, IS THE sha256 OF THE DUMP (.gsa) THAT YtnnbecckigpeeaaProg.lean LOADS. Nothing in Lean hashes anything: it is a label: what it is worth is what the hold of that sum in a sandbox is worth. -/
noncomputable def Try.pinned : Pinned := { name := "ytnnbecckigpeeaa", sum := "259a72325ecf7a889cd69b282a6b2452067dc8eee394ea7c36e1bcd747c6f8c2", checked := Try.checked }
namespace Rows
def none {H : Type} : Left H := { results := [], args := [] }

/-- 'laws.FnExactFewestByLines': WHATEVER THE INPUT: true; the input reads as it did. -/
def fnExactFewestByLinesSpec : ChangeSpec := { name := "fnExactFewestByLines", fn := fun _ => fun
  | [d1, d2] => { results := [.lit (.bool true)], args := [d1, d2] }
  | _ => none }
def fnExactFewestByLinesRow : OpenClaim := { program := "ytnnbecckigpeeaa", sum := "259a72325ecf7a889cd69b282a6b2452067dc8eee394ea7c36e1bcd747c6f8c2", func := "loop.example/g01296/laws.FnExactFewestByLines", spec := "fnExactFewestByLines", apart := false }
def FnExactFewestByLinesSaid : Prop := fnExactFewestByLinesRow.holds Try.pinned (OpenSpec.ofChange fnExactFewestByLinesSpec)

/-- ITS FALSE NEIGHBOUR: 'it returns false'. Refute it at one input. -/
def fnExactFewestByLinesWrong : ChangeSpec := { name := "fnExactFewestByLines", fn := fun _ => fun
  | [d1, d2] => { results := [.lit (.bool false)], args := [d1, d2] }
  | _ => none }
def FnExactFewestByLinesWrongFalsely : Prop := fnExactFewestByLinesRow.holds Try.pinned (OpenSpec.ofChange fnExactFewestByLinesWrong)

/-- 'laws.FnExactQuotientsOf': WHATEVER THE INPUT: true; the input reads as it did. -/
def fnExactQuotientsOfSpec : ChangeSpec := { name := "fnExactQuotientsOf", fn := fun _ => fun
  | [d1, d2] => { results := [.lit (.bool true)], args := [d1, d2] }
  | _ => none }
def fnExactQuotientsOfRow : OpenClaim := { program := "ytnnbecckigpeeaa", sum := "259a72325ecf7a889cd69b282a6b2452067dc8eee394ea7c36e1bcd747c6f8c2", func := "loop.example/g01296/laws.FnExactQuotientsOf", spec := "fnExactQuotientsOf", apart := false }
def FnExactQuotientsOfSaid : Prop := fnExactQuotientsOfRow.holds Try.pinned (OpenSpec.ofChange fnExactQuotientsOfSpec)

/-- ITS FALSE NEIGHBOUR: 'it returns false'. Refute it at one input. -/
def fnExactQuotientsOfWrong : ChangeSpec := { name := "fnExactQuotientsOf", fn := fun _ => fun
  | [d1, d2] => { results := [.lit (.bool false)], args := [d1, d2] }
  | _ => none }
def FnExactQuotientsOfWrongFalsely : Prop := fnExactQuotientsOfRow.holds Try.pinned (OpenSpec.ofChange fnExactQuotientsOfWrong)

/-- 'laws.FnExactRatioOfQuotients': WHATEVER THE INPUT: true; the input reads as it did. -/
def fnExactRatioOfQuotientsSpec : ChangeSpec := { name := "fnExactRatioOfQuotients", fn := fun _ => fun
  | [d] => { results := [.lit (.bool true)], args := [d] }
  | _ => none }
def fnExactRatioOfQuotientsRow : OpenClaim := { program := "ytnnbecckigpeeaa", sum := "259a72325ecf7a889cd69b282a6b2452067dc8eee394ea7c36e1bcd747c6f8c2", func := "loop.example/g01296/laws.FnExactRatioOfQuotients", spec := "fnExactRatioOfQuotients", unfollowed := true, recurses := true, apart := false }
def FnExactRatioOfQuotientsSaid : Prop := fnExactRatioOfQuotientsRow.holds Try.pinned (OpenSpec.ofChange fnExactRatioOfQuotientsSpec)

/-- ITS FALSE NEIGHBOUR: 'it returns false'. Refute it at one input. -/
def fnExactRatioOfQuotientsWrong : ChangeSpec := { name := "fnExactRatioOfQuotients", fn := fun _ => fun
  | [d] => { results := [.lit (.bool false)], args := [d] }
  | _ => none }
def FnExactRatioOfQuotientsWrongFalsely : Prop := fnExactRatioOfQuotientsRow.holds Try.pinned (OpenSpec.ofChange fnExactRatioOfQuotientsWrong)

/-- 'laws.FnExactLinedTable': WHATEVER THE INPUT: true; the input reads as it did. -/
def fnExactLinedTableSpec : ChangeSpec := { name := "fnExactLinedTable", fn := fun _ => fun
  | [d] => { results := [.lit (.bool true)], args := [d] }
  | _ => none }
def fnExactLinedTableRow : OpenClaim := { program := "ytnnbecckigpeeaa", sum := "259a72325ecf7a889cd69b282a6b2452067dc8eee394ea7c36e1bcd747c6f8c2", func := "loop.example/g01296/laws.FnExactLinedTable", spec := "fnExactLinedTable", apart := false }
def FnExactLinedTableSaid : Prop := fnExactLinedTableRow.holds Try.pinned (OpenSpec.ofChange fnExactLinedTableSpec)

/-- ITS FALSE NEIGHBOUR: 'it returns false'. Refute it at one input. -/
def fnExactLinedTableWrong : ChangeSpec := { name := "fnExactLinedTable", fn := fun _ => fun
  | [d] => { results := [.lit (.bool false)], args := [d] }
  | _ => none }
def FnExactLinedTableWrongFalsely : Prop := fnExactLinedTableRow.holds Try.pinned (OpenSpec.ofChange fnExactLinedTableWrong)

/-- 'laws.FnExactRankOfRatio': WHATEVER THE INPUT: true; the input reads as it did. -/
def fnExactRankOfRatioSpec : ChangeSpec := { name := "fnExactRankOfRatio", fn := fun _ => fun
  | [d1, d2] => { results := [.lit (.bool true)], args := [d1, d2] }
  | _ => none }
def fnExactRankOfRatioRow : OpenClaim := { program := "ytnnbecckigpeeaa", sum := "259a72325ecf7a889cd69b282a6b2452067dc8eee394ea7c36e1bcd747c6f8c2", func := "loop.example/g01296/laws.FnExactRankOfRatio", spec := "fnExactRankOfRatio", apart := false }
def FnExactRankOfRatioSaid : Prop := fnExactRankOfRatioRow.holds Try.pinned (OpenSpec.ofChange fnExactRankOfRatioSpec)

/-- ITS FALSE NEIGHBOUR: 'it returns false'. Refute it at one input. -/
def fnExactRankOfRatioWrong : ChangeSpec := { name := "fnExactRankOfRatio", fn := fun _ => fun
  | [d1, d2] => { results := [.lit (.bool false)], args := [d1, d2] }
  | _ => none }
def FnExactRankOfRatioWrongFalsely : Prop := fnExactRankOfRatioRow.holds Try.pinned (OpenSpec.ofChange fnExactRankOfRatioWrong)

/-- 'laws.FnExactRowOfSquares': WHATEVER THE INPUT: true; the input reads as it did. -/
def fnExactRowOfSquaresSpec : ChangeSpec := { name := "fnExactRowOfSquares", fn := fun _ => fun
  | [d] => { results := [.lit (.bool true)], args := [d] }
  | _ => none }
def fnExactRowOfSquaresRow : OpenClaim := { program := "ytnnbecckigpeeaa", sum := "259a72325ecf7a889cd69b282a6b2452067dc8eee394ea7c36e1bcd747c6f8c2", func := "loop.example/g01296/laws.FnExactRowOfSquares", spec := "fnExactRowOfSquares", apart := false }
def FnExactRowOfSquaresSaid : Prop := fnExactRowOfSquaresRow.holds Try.pinned (OpenSpec.ofChange fnExactRowOfSquaresSpec)

/-- ITS FALSE NEIGHBOUR: 'it returns false'. Refute it at one input. -/
def fnExactRowOfSquaresWrong : ChangeSpec := { name := "fnExactRowOfSquares", fn := fun _ => fun
  | [d] => { results := [.lit (.bool false)], args := [d] }
  | _ => none }
def FnExactRowOfSquaresWrongFalsely : Prop := fnExactRowOfSquaresRow.holds Try.pinned (OpenSpec.ofChange fnExactRowOfSquaresWrong)

/- THE SECOND FORM. 'bulk': how many values and letters a reading holds, each counted each time it is reached (what is shared counts as often as it is met; a slice's spare places count too). A statement '..UptoSaid' is the law's where the arguments, and the package variables that the reading takes, are together of bulk at most 1048576: NARROWER than '..Said'. Prove '..Said' where nothing that the law and all that it calls make is longer than what came in: it says more and counts as full. Else prove '..UptoSaid'. A law counts once. -/
mutual
def uptoBulk {H : Type} : DataW H → Nat
  | .lit (.string bytes) => bytes.length + 1
  | .lit _ => 1
  | .nil => 1
  | .ptr d => uptoBulk d + 1
  | .slice elems spare => uptoBulkAll elems + uptoBulkAll spare + 1
  | .agg parts => uptoBulkAll parts + 1
  | .iface _ d => uptoBulk d + 1
  | .map entries => uptoBulkEntries entries + 1
  | .held _ => 1
def uptoBulkAll {H : Type} : List (DataW H) → Nat
  | [] => 0
  | d :: r => uptoBulk d + uptoBulkAll r
def uptoBulkEntries {H : Type} : List (Lit × DataW H) → Nat
  | [] => 0
  | x :: r => uptoBulkEntry x + uptoBulkEntries r
def uptoBulkEntry {H : Type} : Lit × DataW H → Nat
  | (.string bytes, d) => bytes.length + uptoBulk d + 1
  | (_, d) => uptoBulk d + 1
 end
def uptoSmall : (H : Type) → List (DataW H) → Bool := fun _ ds => decide (uptoBulkAll ds ≤ 1048576)
def OpenSpec.upto (s : _root_.Go.ChangeSpec) : _root_.Go.OpenSpec := { _root_.Go.OpenSpec.ofChange s with cond := some uptoSmall }

/-- 'laws.FnExactFewestByLines', WHERE WHAT IT READS IS OF BULK AT MOST 1048576: true; the input reads as it did. -/
def fnExactFewestByLinesUptoRow : OpenClaim := { program := "ytnnbecckigpeeaa", sum := "259a72325ecf7a889cd69b282a6b2452067dc8eee394ea7c36e1bcd747c6f8c2", func := "loop.example/g01296/laws.FnExactFewestByLines", spec := "fnExactFewestByLines", apart := false, narrowed := true }
def FnExactFewestByLinesUptoSaid : Prop := fnExactFewestByLinesUptoRow.holds Try.pinned (OpenSpec.upto fnExactFewestByLinesSpec)

/-- 'laws.FnExactQuotientsOf', WHERE WHAT IT READS IS OF BULK AT MOST 1048576: true; the input reads as it did. -/
def fnExactQuotientsOfUptoRow : OpenClaim := { program := "ytnnbecckigpeeaa", sum := "259a72325ecf7a889cd69b282a6b2452067dc8eee394ea7c36e1bcd747c6f8c2", func := "loop.example/g01296/laws.FnExactQuotientsOf", spec := "fnExactQuotientsOf", apart := false, narrowed := true }
def FnExactQuotientsOfUptoSaid : Prop := fnExactQuotientsOfUptoRow.holds Try.pinned (OpenSpec.upto fnExactQuotientsOfSpec)

/-- 'laws.FnExactRatioOfQuotients', WHERE WHAT IT READS IS OF BULK AT MOST 1048576: true; the input reads as it did. -/
def fnExactRatioOfQuotientsUptoRow : OpenClaim := { program := "ytnnbecckigpeeaa", sum := "259a72325ecf7a889cd69b282a6b2452067dc8eee394ea7c36e1bcd747c6f8c2", func := "loop.example/g01296/laws.FnExactRatioOfQuotients", spec := "fnExactRatioOfQuotients", unfollowed := true, recurses := true, apart := false, narrowed := true }
def FnExactRatioOfQuotientsUptoSaid : Prop := fnExactRatioOfQuotientsUptoRow.holds Try.pinned (OpenSpec.upto fnExactRatioOfQuotientsSpec)

/-- 'laws.FnExactLinedTable', WHERE WHAT IT READS IS OF BULK AT MOST 1048576: true; the input reads as it did. -/
def fnExactLinedTableUptoRow : OpenClaim := { program := "ytnnbecckigpeeaa", sum := "259a72325ecf7a889cd69b282a6b2452067dc8eee394ea7c36e1bcd747c6f8c2", func := "loop.example/g01296/laws.FnExactLinedTable", spec := "fnExactLinedTable", apart := false, narrowed := true }
def FnExactLinedTableUptoSaid : Prop := fnExactLinedTableUptoRow.holds Try.pinned (OpenSpec.upto fnExactLinedTableSpec)

/-- 'laws.FnExactRankOfRatio', WHERE WHAT IT READS IS OF BULK AT MOST 1048576: true; the input reads as it did. -/
def fnExactRankOfRatioUptoRow : OpenClaim := { program := "ytnnbecckigpeeaa", sum := "259a72325ecf7a889cd69b282a6b2452067dc8eee394ea7c36e1bcd747c6f8c2", func := "loop.example/g01296/laws.FnExactRankOfRatio", spec := "fnExactRankOfRatio", apart := false, narrowed := true }
def FnExactRankOfRatioUptoSaid : Prop := fnExactRankOfRatioUptoRow.holds Try.pinned (OpenSpec.upto fnExactRankOfRatioSpec)

/-- 'laws.FnExactRowOfSquares', WHERE WHAT IT READS IS OF BULK AT MOST 1048576: true; the input reads as it did. -/
def fnExactRowOfSquaresUptoRow : OpenClaim := { program := "ytnnbecckigpeeaa", sum := "259a72325ecf7a889cd69b282a6b2452067dc8eee394ea7c36e1bcd747c6f8c2", func := "loop.example/g01296/laws.FnExactRowOfSquares", spec := "fnExactRowOfSquares", apart := false, narrowed := true }
def FnExactRowOfSquaresUptoSaid : Prop := fnExactRowOfSquaresUptoRow.holds Try.pinned (OpenSpec.upto fnExactRowOfSquaresSpec)

end Rows
end Go.Proofs.Ytnnbecckigpeeaa
