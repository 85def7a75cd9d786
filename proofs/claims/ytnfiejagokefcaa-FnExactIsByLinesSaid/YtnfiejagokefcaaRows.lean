/-
  No cell of these rows narrows 'for every input' (looked for: loops, veiled, ifaces, maps, wideKeys, modest, calm, conditions, laid).
  DERIVED. THE GIVEN ROWS OF THIS SEAT. 6 by the template 'for every input the law returns true; each argument reads behind the call as it read before'; 0 by the template 'total and deterministic' (their statements: YtnfiejagokefcaaTotals.lean).
  GIVEN WITH THE SEED: the statements are not yours to turn. If you find one false, say at which input.
  Laid BY PROGRAM, IN A SANDBOX (cutbox-rows.mjs): the forced cells as the released guide's own fill.sh prints them over the translation d0a5035cfffaea76… (all of the seat's roots in one cut). By AI agents, Wed Nov 11 2026. No macro, syntax, notation, axiom, sorry.
-/
import Derived.Test.YtnfiejagokefcaaChecked
import GoSem.Claim
import GoSem.ClaimJoined
import GoSem.ClaimMapViews
import Derived.JoinedTies
import Derived.KernelRfl
namespace Go.Proofs.Ytnfiejagokefcaa
/- THE CELL 'sum', in the pinned program and in every row, IS THE sha256 OF THE DUMP (.gsa) THAT YtnfiejagokefcaaProg.lean LOADS. Nothing in Lean hashes anything: it is a label: what it is worth is what the hold of that sum in a sandbox is worth. -/
noncomputable def Try.pinned : Pinned := { name := "ytnfiejagokefcaa", sum := "d0a5035cfffaea7685f8d408eb6226caa0cb2176084c35f7ccc8b70b97491a69", checked := Try.checked }
namespace Rows
def none {H : Type} : Left H := { results := [], args := [] }

/-- 'laws.FnExactLinesAcross': WHATEVER THE INPUT: true; the input reads as it did. -/
def fnExactLinesAcrossSpec : ChangeSpec := { name := "fnExactLinesAcross", fn := fun _ => fun
  | [d] => { results := [.lit (.bool true)], args := [d] }
  | _ => none }
def fnExactLinesAcrossRow : OpenClaim := { program := "ytnfiejagokefcaa", sum := "d0a5035cfffaea7685f8d408eb6226caa0cb2176084c35f7ccc8b70b97491a69", func := "loop.example/g01296/laws.FnExactLinesAcross", spec := "fnExactLinesAcross", unfollowed := true, recurses := true, apart := false }
def FnExactLinesAcrossSaid : Prop := fnExactLinesAcrossRow.holds Try.pinned (OpenSpec.ofChange fnExactLinesAcrossSpec)

/-- ITS FALSE NEIGHBOUR: 'it returns false'. Refute it at one input. -/
def fnExactLinesAcrossWrong : ChangeSpec := { name := "fnExactLinesAcross", fn := fun _ => fun
  | [d] => { results := [.lit (.bool false)], args := [d] }
  | _ => none }
def FnExactLinesAcrossWrongFalsely : Prop := fnExactLinesAcrossRow.holds Try.pinned (OpenSpec.ofChange fnExactLinesAcrossWrong)

/-- 'laws.FnExactPartAcross': WHATEVER THE INPUT: true; the input reads as it did. -/
def fnExactPartAcrossSpec : ChangeSpec := { name := "fnExactPartAcross", fn := fun _ => fun
  | [d] => { results := [.lit (.bool true)], args := [d] }
  | _ => none }
def fnExactPartAcrossRow : OpenClaim := { program := "ytnfiejagokefcaa", sum := "d0a5035cfffaea7685f8d408eb6226caa0cb2176084c35f7ccc8b70b97491a69", func := "loop.example/g01296/laws.FnExactPartAcross", spec := "fnExactPartAcross", unfollowed := true, recurses := true, apart := false }
def FnExactPartAcrossSaid : Prop := fnExactPartAcrossRow.holds Try.pinned (OpenSpec.ofChange fnExactPartAcrossSpec)

/-- ITS FALSE NEIGHBOUR: 'it returns false'. Refute it at one input. -/
def fnExactPartAcrossWrong : ChangeSpec := { name := "fnExactPartAcross", fn := fun _ => fun
  | [d] => { results := [.lit (.bool false)], args := [d] }
  | _ => none }
def FnExactPartAcrossWrongFalsely : Prop := fnExactPartAcrossRow.holds Try.pinned (OpenSpec.ofChange fnExactPartAcrossWrong)

/-- 'laws.FnExactTreeOfCut': WHATEVER THE INPUT: true; the input reads as it did. -/
def fnExactTreeOfCutSpec : ChangeSpec := { name := "fnExactTreeOfCut", fn := fun _ => fun
  | [d] => { results := [.lit (.bool true)], args := [d] }
  | _ => none }
def fnExactTreeOfCutRow : OpenClaim := { program := "ytnfiejagokefcaa", sum := "d0a5035cfffaea7685f8d408eb6226caa0cb2176084c35f7ccc8b70b97491a69", func := "loop.example/g01296/laws.FnExactTreeOfCut", spec := "fnExactTreeOfCut", unfollowed := true, recurses := true, apart := false }
def FnExactTreeOfCutSaid : Prop := fnExactTreeOfCutRow.holds Try.pinned (OpenSpec.ofChange fnExactTreeOfCutSpec)

/-- ITS FALSE NEIGHBOUR: 'it returns false'. Refute it at one input. -/
def fnExactTreeOfCutWrong : ChangeSpec := { name := "fnExactTreeOfCut", fn := fun _ => fun
  | [d] => { results := [.lit (.bool false)], args := [d] }
  | _ => none }
def FnExactTreeOfCutWrongFalsely : Prop := fnExactTreeOfCutRow.holds Try.pinned (OpenSpec.ofChange fnExactTreeOfCutWrong)

/-- 'laws.FnExactIsByLines': WHATEVER THE INPUT: true; the input reads as it did. -/
def fnExactIsByLinesSpec : ChangeSpec := { name := "fnExactIsByLines", fn := fun _ => fun
  | [d] => { results := [.lit (.bool true)], args := [d] }
  | _ => none }
def fnExactIsByLinesRow : OpenClaim := { program := "ytnfiejagokefcaa", sum := "d0a5035cfffaea7685f8d408eb6226caa0cb2176084c35f7ccc8b70b97491a69", func := "loop.example/g01296/laws.FnExactIsByLines", spec := "fnExactIsByLines", unfollowed := true, recurses := true, apart := false }
def FnExactIsByLinesSaid : Prop := fnExactIsByLinesRow.holds Try.pinned (OpenSpec.ofChange fnExactIsByLinesSpec)

/-- ITS FALSE NEIGHBOUR: 'it returns false'. Refute it at one input. -/
def fnExactIsByLinesWrong : ChangeSpec := { name := "fnExactIsByLines", fn := fun _ => fun
  | [d] => { results := [.lit (.bool false)], args := [d] }
  | _ => none }
def FnExactIsByLinesWrongFalsely : Prop := fnExactIsByLinesRow.holds Try.pinned (OpenSpec.ofChange fnExactIsByLinesWrong)

/-- 'laws.FnExactBesideCuts': WHATEVER THE INPUT: true; the input reads as it did. -/
def fnExactBesideCutsSpec : ChangeSpec := { name := "fnExactBesideCuts", fn := fun _ => fun
  | [d1, d2] => { results := [.lit (.bool true)], args := [d1, d2] }
  | _ => none }
def fnExactBesideCutsRow : OpenClaim := { program := "ytnfiejagokefcaa", sum := "d0a5035cfffaea7685f8d408eb6226caa0cb2176084c35f7ccc8b70b97491a69", func := "loop.example/g01296/laws.FnExactBesideCuts", spec := "fnExactBesideCuts", unfollowed := true, recurses := true, apart := false }
def FnExactBesideCutsSaid : Prop := fnExactBesideCutsRow.holds Try.pinned (OpenSpec.ofChange fnExactBesideCutsSpec)

/-- ITS FALSE NEIGHBOUR: 'it returns false'. Refute it at one input. -/
def fnExactBesideCutsWrong : ChangeSpec := { name := "fnExactBesideCuts", fn := fun _ => fun
  | [d1, d2] => { results := [.lit (.bool false)], args := [d1, d2] }
  | _ => none }
def FnExactBesideCutsWrongFalsely : Prop := fnExactBesideCutsRow.holds Try.pinned (OpenSpec.ofChange fnExactBesideCutsWrong)

/-- 'laws.FnExactUnderCuts': WHATEVER THE INPUT: true; the input reads as it did. -/
def fnExactUnderCutsSpec : ChangeSpec := { name := "fnExactUnderCuts", fn := fun _ => fun
  | [d1, d2] => { results := [.lit (.bool true)], args := [d1, d2] }
  | _ => none }
def fnExactUnderCutsRow : OpenClaim := { program := "ytnfiejagokefcaa", sum := "d0a5035cfffaea7685f8d408eb6226caa0cb2176084c35f7ccc8b70b97491a69", func := "loop.example/g01296/laws.FnExactUnderCuts", spec := "fnExactUnderCuts", unfollowed := true, recurses := true, apart := false }
def FnExactUnderCutsSaid : Prop := fnExactUnderCutsRow.holds Try.pinned (OpenSpec.ofChange fnExactUnderCutsSpec)

/-- ITS FALSE NEIGHBOUR: 'it returns false'. Refute it at one input. -/
def fnExactUnderCutsWrong : ChangeSpec := { name := "fnExactUnderCuts", fn := fun _ => fun
  | [d1, d2] => { results := [.lit (.bool false)], args := [d1, d2] }
  | _ => none }
def FnExactUnderCutsWrongFalsely : Prop := fnExactUnderCutsRow.holds Try.pinned (OpenSpec.ofChange fnExactUnderCutsWrong)

/- THE SECOND FORM. 'bulk': how many values and letters a reading holds, each counted each time it is reached (what is shared counts as often as it is met; a slice's spare places count too). A statement '..UptoSaid' is the law's where the arguments, and the package variables that the reading takes, are together of bulk at most 1048576: NARROWER than '..Said'. Prove '..Said' where nothing that the law and all that it calls make is longer than what came in: it says more and counts as full. Else prove '..UptoSaid'. A law counts once. -/
mutual
def uptoBulk {H : Type} : DataW H → Nat
  | .lit (.string bytes) => bytes.length + 1
  | .lit _ => 1
  | .nil => 1
  | .ptr d => uptoBulk d + 1
  | .slice elems spare => uptoBulkAll elems + uptoBulkAll spare + 1
  | .agg parts => uptoBulkAll parts + 1
  | .iface _ d => uptoBulk d + 1
  | .map entries => uptoBulkEntries entries + 1
  | .held _ => 1
def uptoBulkAll {H : Type} : List (DataW H) → Nat
  | [] => 0
  | d :: r => uptoBulk d + uptoBulkAll r
def uptoBulkEntries {H : Type} : List (Lit × DataW H) → Nat
  | [] => 0
  | x :: r => uptoBulkEntry x + uptoBulkEntries r
def uptoBulkEntry {H : Type} : Lit × DataW H → Nat
  | (.string bytes, d) => bytes.length + uptoBulk d + 1
  | (_, d) => uptoBulk d + 1
 end
def uptoSmall : (H : Type) → List (DataW H) → Bool := fun _ ds => decide (uptoBulkAll ds ≤ 1048576)
def OpenSpec.upto (s : _root_.Go.ChangeSpec) : _root_.Go.OpenSpec := { _root_.Go.OpenSpec.ofChange s with cond := some uptoSmall }

/-- 'laws.FnExactLinesAcross', WHERE WHAT IT READS IS OF BULK AT MOST 1048576: true; the input reads as it did. -/
def fnExactLinesAcrossUptoRow : OpenClaim := { program := "ytnfiejagokefcaa", sum := "d0a5035cfffaea7685f8d408eb6226caa0cb2176084c35f7ccc8b70b97491a69", func := "loop.example/g01296/laws.FnExactLinesAcross", spec := "fnExactLinesAcross", unfollowed := true, recurses := true, apart := false, narrowed := true }
def FnExactLinesAcrossUptoSaid : Prop := fnExactLinesAcrossUptoRow.holds Try.pinned (OpenSpec.upto fnExactLinesAcrossSpec)

/-- 'laws.FnExactPartAcross', WHERE WHAT IT READS IS OF BULK AT MOST 1048576: true; the input reads as it did. -/
def fnExactPartAcrossUptoRow : OpenClaim := { program := "ytnfiejagokefcaa", sum := "d0a5035cfffaea7685f8d408eb6226caa0cb2176084c35f7ccc8b70b97491a69", func := "loop.example/g01296/laws.FnExactPartAcross", spec := "fnExactPartAcross", unfollowed := true, recurses := true, apart := false, narrowed := true }
def FnExactPartAcrossUptoSaid : Prop := fnExactPartAcrossUptoRow.holds Try.pinned (OpenSpec.upto fnExactPartAcrossSpec)

/-- 'laws.FnExactTreeOfCut', WHERE WHAT IT READS IS OF BULK AT MOST 1048576: true; the input reads as it did. -/
def fnExactTreeOfCutUptoRow : OpenClaim := { program := "ytnfiejagokefcaa", sum := "d0a5035cfffaea7685f8d408eb6226caa0cb2176084c35f7ccc8b70b97491a69", func := "loop.example/g01296/laws.FnExactTreeOfCut", spec := "fnExactTreeOfCut", unfollowed := true, recurses := true, apart := false, narrowed := true }
def FnExactTreeOfCutUptoSaid : Prop := fnExactTreeOfCutUptoRow.holds Try.pinned (OpenSpec.upto fnExactTreeOfCutSpec)

/-- 'laws.FnExactIsByLines', WHERE WHAT IT READS IS OF BULK AT MOST 1048576: true; the input reads as it did. -/
def fnExactIsByLinesUptoRow : OpenClaim := { program := "ytnfiejagokefcaa", sum := "d0a5035cfffaea7685f8d408eb6226caa0cb2176084c35f7ccc8b70b97491a69", func := "loop.example/g01296/laws.FnExactIsByLines", spec := "fnExactIsByLines", unfollowed := true, recurses := true, apart := false, narrowed := true }
def FnExactIsByLinesUptoSaid : Prop := fnExactIsByLinesUptoRow.holds Try.pinned (OpenSpec.upto fnExactIsByLinesSpec)

/-- 'laws.FnExactBesideCuts', WHERE WHAT IT READS IS OF BULK AT MOST 1048576: true; the input reads as it did. -/
def fnExactBesideCutsUptoRow : OpenClaim := { program := "ytnfiejagokefcaa", sum := "d0a5035cfffaea7685f8d408eb6226caa0cb2176084c35f7ccc8b70b97491a69", func := "loop.example/g01296/laws.FnExactBesideCuts", spec := "fnExactBesideCuts", unfollowed := true, recurses := true, apart := false, narrowed := true }
def FnExactBesideCutsUptoSaid : Prop := fnExactBesideCutsUptoRow.holds Try.pinned (OpenSpec.upto fnExactBesideCutsSpec)

/-- 'laws.FnExactUnderCuts', WHERE WHAT IT READS IS OF BULK AT MOST 1048576: true; the input reads as it did. -/
def fnExactUnderCutsUptoRow : OpenClaim := { program := "ytnfiejagokefcaa", sum := "d0a5035cfffaea7685f8d408eb6226caa0cb2176084c35f7ccc8b70b97491a69", func := "loop.example/g01296/laws.FnExactUnderCuts", spec := "fnExactUnderCuts", unfollowed := true, recurses := true, apart := false, narrowed := true }
def FnExactUnderCutsUptoSaid : Prop := fnExactUnderCutsUptoRow.holds Try.pinned (OpenSpec.upto fnExactUnderCutsSpec)

end Rows
end Go.Proofs.Ytnfiejagokefcaa
