/-
  DERIVED. GIVEN WITH THE SEED: THE CARDS: each row of YtfmhcgjmgaefcadDoorRows.lean that lists a variable, with what it lists TIED to the program's text (the seventh form; the later family's looks); each row that meets fmt, with fmt's text TOLD by the authors' own Lean function (tested against real Go, not proved from fmt's source: count such statements apart). THE CARD IS WHAT COUNTS. Prove the row's statement (the work); the ties are given (YtfmhcgjmgaefcadDoorTie.lean); close each card by the builder's one call (the guide's Derived/Test/ToyasCard.lean, 'card_holds'). Laid BY PROGRAM, IN A SANDBOX (cutbox-door.mjs). By AI agents, Wed Nov 11 2026. No macro, syntax, notation, axiom, sorry.
-/
import Derived.Test.YtfmhcgjmgaefcadDoorRows
import GoSem.ClaimSeven
namespace Go.Proofs.YtfmhcgjmgaefcadDoor
namespace Rows

/-- THE TIED CARD OF 'laws.FnExactRatioOfRank'. -/
def fnExactRatioOfRankCard : Claim7 := { stood := { row := fnExactRatioOfRankRow, standIns := [], harness := (true, "1af3c441eaa73f09a7aa6adaa30b7fea3ff8e6dbd492b56f4ab0fa9ceaafb84b"), looks := false }, kinds := [], alts := [], laidByText := true, laidKinds := [.data, .pinned], laidTests := true, laidLooks := .later }
def FnExactRatioOfRankCardSaid : Prop := Claim7.holds Tryd.pinned (.plain (OpenSpec.ofChange fnExactRatioOfRankSpec)) fnExactRatioOfRankCard

/-- THE TIED CARD OF 'laws.FnExactSidesOfWord'. -/
def fnExactSidesOfWordCard : Claim7 := { stood := { row := fnExactSidesOfWordRow, standIns := [], harness := (true, "1af3c441eaa73f09a7aa6adaa30b7fea3ff8e6dbd492b56f4ab0fa9ceaafb84b"), looks := false }, kinds := [], alts := [], laidByText := true, laidKinds := [.data, .pinned], laidTests := true, laidLooks := .later }
def FnExactSidesOfWordCardSaid : Prop := Claim7.holds Tryd.pinned (.plain (OpenSpec.ofChange fnExactSidesOfWordSpec)) fnExactSidesOfWordCard

/-- THE SECOND FORM's CARD OF 'laws.FnExactRatioOfRank'. -/
def fnExactRatioOfRankUptoCard : Claim7 := { stood := { row := fnExactRatioOfRankUptoRow, standIns := [], harness := (true, "1af3c441eaa73f09a7aa6adaa30b7fea3ff8e6dbd492b56f4ab0fa9ceaafb84b"), looks := false }, kinds := [], alts := [], laidByText := true, laidKinds := [.data, .pinned], laidTests := true, laidLooks := .later }
def FnExactRatioOfRankUptoCardSaid : Prop := Claim7.holds Tryd.pinned (.plain (OpenSpec.upto fnExactRatioOfRankSpec)) fnExactRatioOfRankUptoCard

/-- THE SECOND FORM's CARD OF 'laws.FnExactSidesOfWord'. -/
def fnExactSidesOfWordUptoCard : Claim7 := { stood := { row := fnExactSidesOfWordUptoRow, standIns := [], harness := (true, "1af3c441eaa73f09a7aa6adaa30b7fea3ff8e6dbd492b56f4ab0fa9ceaafb84b"), looks := false }, kinds := [], alts := [], laidByText := true, laidKinds := [.data, .pinned], laidTests := true, laidLooks := .later }
def FnExactSidesOfWordUptoCardSaid : Prop := Claim7.holds Tryd.pinned (.plain (OpenSpec.upto fnExactSidesOfWordSpec)) fnExactSidesOfWordUptoCard
end Rows
end Go.Proofs.YtfmhcgjmgaefcadDoor
