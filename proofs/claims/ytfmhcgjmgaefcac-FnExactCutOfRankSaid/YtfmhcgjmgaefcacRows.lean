/-
  No cell of these rows narrows 'for every input' (looked for: loops, veiled, ifaces, maps, wideKeys, modest, calm, conditions, laid).
  DERIVED. THE GIVEN ROWS OF THIS SEAT. 5 by the template 'for every input the law returns true; each argument reads behind the call as it read before'; 0 by the template 'total and deterministic' (their statements: YtfmhcgjmgaefcacTotals.lean).
  GIVEN WITH THE SEED: the statements are not yours to turn. If you find one false, say at which input.
  Laid BY PROGRAM, IN A SANDBOX (cutbox-rows.mjs): the forced cells as the released guide's own fill.sh prints them over the translation a0ba1c296bb19eaf… (all of the seat's roots in one cut). By AI agents, Wed Nov 11 2026. No macro, syntax, notation, axiom, sorry.
-/
import Derived.Test.YtfmhcgjmgaefcacChecked
import GoSem.Claim
import GoSem.ClaimJoined
import GoSem.ClaimMapViews
import Derived.JoinedTies
import Derived.KernelRfl
namespace Go.Proofs.Ytfmhcgjmgaefcac
/- THE CELL 'sum', in the pinned program and in every row, IS THE sha256 OF THE DUMP (.gsa) THAT YtfmhcgjmgaefcacProg.lean LOADS. Nothing in Lean hashes anything: it is a label: what it is worth is what the hold of that sum in a sandbox is worth. -/
noncomputable def Try.pinned : Pinned := { name := "ytfmhcgjmgaefcac", sum := "a0ba1c296bb19eaf4a40f8282806ffe2dc5503af9262721ca6e79b44ec114bf4", checked := Try.checked }
namespace Rows
def none {H : Type} : Left H := { results := [], args := [] }

/-- 'laws.FnExactPartDown': WHATEVER THE INPUT: true; the input reads as it did. -/
def fnExactPartDownSpec : ChangeSpec := { name := "fnExactPartDown", fn := fun _ => fun
  | [d] => { results := [.lit (.bool true)], args := [d] }
  | _ => none }
def fnExactPartDownRow : OpenClaim := { program := "ytfmhcgjmgaefcac", sum := "a0ba1c296bb19eaf4a40f8282806ffe2dc5503af9262721ca6e79b44ec114bf4", func := "loop.example/g01296/laws.FnExactPartDown", spec := "fnExactPartDown", unfollowed := true, recurses := true, apart := false }
def FnExactPartDownSaid : Prop := fnExactPartDownRow.holds Try.pinned (OpenSpec.ofChange fnExactPartDownSpec)

/-- ITS FALSE NEIGHBOUR: 'it returns false'. Refute it at one input. -/
def fnExactPartDownWrong : ChangeSpec := { name := "fnExactPartDown", fn := fun _ => fun
  | [d] => { results := [.lit (.bool false)], args := [d] }
  | _ => none }
def FnExactPartDownWrongFalsely : Prop := fnExactPartDownRow.holds Try.pinned (OpenSpec.ofChange fnExactPartDownWrong)

/-- 'laws.FnExactFirstFewest': WHATEVER THE INPUT: true; the input reads as it did. -/
def fnExactFirstFewestSpec : ChangeSpec := { name := "fnExactFirstFewest", fn := fun _ => fun
  | [d1, d2] => { results := [.lit (.bool true)], args := [d1, d2] }
  | _ => none }
def fnExactFirstFewestRow : OpenClaim := { program := "ytfmhcgjmgaefcac", sum := "a0ba1c296bb19eaf4a40f8282806ffe2dc5503af9262721ca6e79b44ec114bf4", func := "loop.example/g01296/laws.FnExactFirstFewest", spec := "fnExactFirstFewest", unfollowed := true, recurses := true, apart := false }
def FnExactFirstFewestSaid : Prop := fnExactFirstFewestRow.holds Try.pinned (OpenSpec.ofChange fnExactFirstFewestSpec)

/-- ITS FALSE NEIGHBOUR: 'it returns false'. Refute it at one input. -/
def fnExactFirstFewestWrong : ChangeSpec := { name := "fnExactFirstFewest", fn := fun _ => fun
  | [d1, d2] => { results := [.lit (.bool false)], args := [d1, d2] }
  | _ => none }
def FnExactFirstFewestWrongFalsely : Prop := fnExactFirstFewestRow.holds Try.pinned (OpenSpec.ofChange fnExactFirstFewestWrong)

/-- 'laws.FnExactCutOfRank': WHATEVER THE INPUT: true; the input reads as it did. -/
def fnExactCutOfRankSpec : ChangeSpec := { name := "fnExactCutOfRank", fn := fun _ => fun
  | [d1, d2, d3] => { results := [.lit (.bool true)], args := [d1, d2, d3] }
  | _ => none }
def fnExactCutOfRankRow : OpenClaim := { program := "ytfmhcgjmgaefcac", sum := "a0ba1c296bb19eaf4a40f8282806ffe2dc5503af9262721ca6e79b44ec114bf4", func := "loop.example/g01296/laws.FnExactCutOfRank", spec := "fnExactCutOfRank", unfollowed := true, recurses := true, apart := false }
def FnExactCutOfRankSaid : Prop := fnExactCutOfRankRow.holds Try.pinned (OpenSpec.ofChange fnExactCutOfRankSpec)

/-- ITS FALSE NEIGHBOUR: 'it returns false'. Refute it at one input. -/
def fnExactCutOfRankWrong : ChangeSpec := { name := "fnExactCutOfRank", fn := fun _ => fun
  | [d1, d2, d3] => { results := [.lit (.bool false)], args := [d1, d2, d3] }
  | _ => none }
def FnExactCutOfRankWrongFalsely : Prop := fnExactCutOfRankRow.holds Try.pinned (OpenSpec.ofChange fnExactCutOfRankWrong)

/-- 'laws.FnExactIsFewest': WHATEVER THE INPUT: true; the input reads as it did. -/
def fnExactIsFewestSpec : ChangeSpec := { name := "fnExactIsFewest", fn := fun _ => fun
  | [d] => { results := [.lit (.bool true)], args := [d] }
  | _ => none }
def fnExactIsFewestRow : OpenClaim := { program := "ytfmhcgjmgaefcac", sum := "a0ba1c296bb19eaf4a40f8282806ffe2dc5503af9262721ca6e79b44ec114bf4", func := "loop.example/g01296/laws.FnExactIsFewest", spec := "fnExactIsFewest", unfollowed := true, recurses := true, apart := false }
def FnExactIsFewestSaid : Prop := fnExactIsFewestRow.holds Try.pinned (OpenSpec.ofChange fnExactIsFewestSpec)

/-- ITS FALSE NEIGHBOUR: 'it returns false'. Refute it at one input. -/
def fnExactIsFewestWrong : ChangeSpec := { name := "fnExactIsFewest", fn := fun _ => fun
  | [d] => { results := [.lit (.bool false)], args := [d] }
  | _ => none }
def FnExactIsFewestWrongFalsely : Prop := fnExactIsFewestRow.holds Try.pinned (OpenSpec.ofChange fnExactIsFewestWrong)

/-- 'laws.FnExactAllCuts': WHATEVER THE INPUT: true; the input reads as it did. -/
def fnExactAllCutsSpec : ChangeSpec := { name := "fnExactAllCuts", fn := fun _ => fun
  | [d1, d2] => { results := [.lit (.bool true)], args := [d1, d2] }
  | _ => none }
def fnExactAllCutsRow : OpenClaim := { program := "ytfmhcgjmgaefcac", sum := "a0ba1c296bb19eaf4a40f8282806ffe2dc5503af9262721ca6e79b44ec114bf4", func := "loop.example/g01296/laws.FnExactAllCuts", spec := "fnExactAllCuts", unfollowed := true, recurses := true, apart := false }
def FnExactAllCutsSaid : Prop := fnExactAllCutsRow.holds Try.pinned (OpenSpec.ofChange fnExactAllCutsSpec)

/-- ITS FALSE NEIGHBOUR: 'it returns false'. Refute it at one input. -/
def fnExactAllCutsWrong : ChangeSpec := { name := "fnExactAllCuts", fn := fun _ => fun
  | [d1, d2] => { results := [.lit (.bool false)], args := [d1, d2] }
  | _ => none }
def FnExactAllCutsWrongFalsely : Prop := fnExactAllCutsRow.holds Try.pinned (OpenSpec.ofChange fnExactAllCutsWrong)

/- THE SECOND FORM. 'bulk': how many values and letters a reading holds, each counted each time it is reached (what is shared counts as often as it is met; a slice's spare places count too). A statement '..UptoSaid' is the law's where the arguments, and the package variables that the reading takes, are together of bulk at most 1048576: NARROWER than '..Said'. Prove '..Said' where nothing that the law and all that it calls make is longer than what came in: it says more and counts as full. Else prove '..UptoSaid'. A law counts once. -/
mutual
def uptoBulk {H : Type} : DataW H → Nat
  | .lit (.string bytes) => bytes.length + 1
  | .lit _ => 1
  | .nil => 1
  | .ptr d => uptoBulk d + 1
  | .slice elems spare => uptoBulkAll elems + uptoBulkAll spare + 1
  | .agg parts => uptoBulkAll parts + 1
  | .iface _ d => uptoBulk d + 1
  | .map entries => uptoBulkEntries entries + 1
  | .held _ => 1
def uptoBulkAll {H : Type} : List (DataW H) → Nat
  | [] => 0
  | d :: r => uptoBulk d + uptoBulkAll r
def uptoBulkEntries {H : Type} : List (Lit × DataW H) → Nat
  | [] => 0
  | x :: r => uptoBulkEntry x + uptoBulkEntries r
def uptoBulkEntry {H : Type} : Lit × DataW H → Nat
  | (.string bytes, d) => bytes.length + uptoBulk d + 1
  | (_, d) => uptoBulk d + 1
 end
def uptoSmall : (H : Type) → List (DataW H) → Bool := fun _ ds => decide (uptoBulkAll ds ≤ 1048576)
def OpenSpec.upto (s : _root_.Go.ChangeSpec) : _root_.Go.OpenSpec := { _root_.Go.OpenSpec.ofChange s with cond := some uptoSmall }

/-- 'laws.FnExactPartDown', WHERE WHAT IT READS IS OF BULK AT MOST 1048576: true; the input reads as it did. -/
def fnExactPartDownUptoRow : OpenClaim := { program := "ytfmhcgjmgaefcac", sum := "a0ba1c296bb19eaf4a40f8282806ffe2dc5503af9262721ca6e79b44ec114bf4", func := "loop.example/g01296/laws.FnExactPartDown", spec := "fnExactPartDown", unfollowed := true, recurses := true, apart := false, narrowed := true }
def FnExactPartDownUptoSaid : Prop := fnExactPartDownUptoRow.holds Try.pinned (OpenSpec.upto fnExactPartDownSpec)

/-- 'laws.FnExactFirstFewest', WHERE WHAT IT READS IS OF BULK AT MOST 1048576: true; the input reads as it did. -/
def fnExactFirstFewestUptoRow : OpenClaim := { program := "ytfmhcgjmgaefcac", sum := "a0ba1c296bb19eaf4a40f8282806ffe2dc5503af9262721ca6e79b44ec114bf4", func := "loop.example/g01296/laws.FnExactFirstFewest", spec := "fnExactFirstFewest", unfollowed := true, recurses := true, apart := false, narrowed := true }
def FnExactFirstFewestUptoSaid : Prop := fnExactFirstFewestUptoRow.holds Try.pinned (OpenSpec.upto fnExactFirstFewestSpec)

/-- 'laws.FnExactCutOfRank', WHERE WHAT IT READS IS OF BULK AT MOST 1048576: true; the input reads as it did. -/
def fnExactCutOfRankUptoRow : OpenClaim := { program := "ytfmhcgjmgaefcac", sum := "a0ba1c296bb19eaf4a40f8282806ffe2dc5503af9262721ca6e79b44ec114bf4", func := "loop.example/g01296/laws.FnExactCutOfRank", spec := "fnExactCutOfRank", unfollowed := true, recurses := true, apart := false, narrowed := true }
def FnExactCutOfRankUptoSaid : Prop := fnExactCutOfRankUptoRow.holds Try.pinned (OpenSpec.upto fnExactCutOfRankSpec)

/-- 'laws.FnExactIsFewest', WHERE WHAT IT READS IS OF BULK AT MOST 1048576: true; the input reads as it did. -/
def fnExactIsFewestUptoRow : OpenClaim := { program := "ytfmhcgjmgaefcac", sum := "a0ba1c296bb19eaf4a40f8282806ffe2dc5503af9262721ca6e79b44ec114bf4", func := "loop.example/g01296/laws.FnExactIsFewest", spec := "fnExactIsFewest", unfollowed := true, recurses := true, apart := false, narrowed := true }
def FnExactIsFewestUptoSaid : Prop := fnExactIsFewestUptoRow.holds Try.pinned (OpenSpec.upto fnExactIsFewestSpec)

/-- 'laws.FnExactAllCuts', WHERE WHAT IT READS IS OF BULK AT MOST 1048576: true; the input reads as it did. -/
def fnExactAllCutsUptoRow : OpenClaim := { program := "ytfmhcgjmgaefcac", sum := "a0ba1c296bb19eaf4a40f8282806ffe2dc5503af9262721ca6e79b44ec114bf4", func := "loop.example/g01296/laws.FnExactAllCuts", spec := "fnExactAllCuts", unfollowed := true, recurses := true, apart := false, narrowed := true }
def FnExactAllCutsUptoSaid : Prop := fnExactAllCutsUptoRow.holds Try.pinned (OpenSpec.upto fnExactAllCutsSpec)

end Rows
end Go.Proofs.Ytfmhcgjmgaefcac
