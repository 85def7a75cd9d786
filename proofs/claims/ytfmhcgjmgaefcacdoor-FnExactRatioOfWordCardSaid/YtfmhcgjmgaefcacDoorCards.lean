/-
  DERIVED. GIVEN WITH THE SEED: THE CARDS: each row of YtfmhcgjmgaefcacDoorRows.lean that lists a variable, with what it lists TIED to the program's text (the seventh form; the later family's looks); each row that meets fmt, with fmt's text TOLD by the authors' own Lean function (tested against real Go, not proved from fmt's source: count such statements apart). THE CARD IS WHAT COUNTS. Prove the row's statement (the work); the ties are given (YtfmhcgjmgaefcacDoorTie.lean); close each card by the builder's one call (the guide's Derived/Test/ToyasCard.lean, 'card_holds'). Laid BY PROGRAM, IN A SANDBOX (cutbox-door.mjs). By AI agents, Wed Nov 11 2026. No macro, syntax, notation, axiom, sorry.
-/
import Derived.Test.YtfmhcgjmgaefcacDoorRows
import GoSem.ClaimSeven
namespace Go.Proofs.YtfmhcgjmgaefcacDoor
namespace Rows

/-- THE TIED CARD OF 'laws.FnExactRatioOfWord'. -/
def fnExactRatioOfWordCard : Claim7 := { stood := { row := fnExactRatioOfWordRow, standIns := [], harness := (true, "481d9aac633ed3db2295acb1ec32b752a616aece8f5b074e65429f2b9b5526de"), looks := false }, kinds := [], alts := [], laidByText := true, laidKinds := [.data, .pinned], laidTests := true, laidLooks := .later }
def FnExactRatioOfWordCardSaid : Prop := Claim7.holds Tryd.pinned (.plain (OpenSpec.ofChange fnExactRatioOfWordSpec)) fnExactRatioOfWordCard

/-- THE SECOND FORM's CARD OF 'laws.FnExactRatioOfWord'. -/
def fnExactRatioOfWordUptoCard : Claim7 := { stood := { row := fnExactRatioOfWordUptoRow, standIns := [], harness := (true, "481d9aac633ed3db2295acb1ec32b752a616aece8f5b074e65429f2b9b5526de"), looks := false }, kinds := [], alts := [], laidByText := true, laidKinds := [.data, .pinned], laidTests := true, laidLooks := .later }
def FnExactRatioOfWordUptoCardSaid : Prop := Claim7.holds Tryd.pinned (.plain (OpenSpec.upto fnExactRatioOfWordSpec)) fnExactRatioOfWordUptoCard
end Rows
end Go.Proofs.YtfmhcgjmgaefcacDoor
