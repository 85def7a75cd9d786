/-
  DERIVED. GIVEN WITH THE SEED: THE CARDS: each row of YtomfebfjkcdjpabDoorRows.lean that lists a variable, with what it lists TIED to the program's text (the seventh form; the later family's looks); each row that meets fmt, with fmt's text TOLD by the authors' own Lean function (tested against real Go, not proved from fmt's source: count such statements apart). THE CARD IS WHAT COUNTS. Prove the row's statement (the work); the ties are given (YtomfebfjkcdjpabDoorTie.lean); close each card by the builder's one call (the guide's Derived/Test/ToyasCard.lean, 'card_holds'). Laid BY PROGRAM, IN A SANDBOX (cutbox-door.mjs). By AI agents, Wed Nov 11 2026. No macro, syntax, notation, axiom, sorry.
-/
import Derived.Test.YtomfebfjkcdjpabDoorRows
import GoSem.ClaimSeven
namespace Go.Proofs.YtomfebfjkcdjpabDoor
namespace Rows

/-- THE TIED CARD OF 'laws.FnExactCutOfWord'. -/
def fnExactCutOfWordCard : Claim7 := { stood := { row := fnExactCutOfWordRow, standIns := [], harness := (true, "f1096aad6c969512b35e5320cf8a570c8b1fafb6e4abd76449ce7e4172d0be3a"), looks := false }, kinds := [], alts := [], laidByText := true, laidKinds := [.data, .pinned], laidTests := true, laidLooks := .later }
def FnExactCutOfWordCardSaid : Prop := Claim7.holds Tryd.pinned (.plain (OpenSpec.ofChange fnExactCutOfWordSpec)) fnExactCutOfWordCard

/-- THE SECOND FORM's CARD OF 'laws.FnExactCutOfWord'. -/
def fnExactCutOfWordUptoCard : Claim7 := { stood := { row := fnExactCutOfWordUptoRow, standIns := [], harness := (true, "f1096aad6c969512b35e5320cf8a570c8b1fafb6e4abd76449ce7e4172d0be3a"), looks := false }, kinds := [], alts := [], laidByText := true, laidKinds := [.data, .pinned], laidTests := true, laidLooks := .later }
def FnExactCutOfWordUptoCardSaid : Prop := Claim7.holds Tryd.pinned (.plain (OpenSpec.upto fnExactCutOfWordSpec)) fnExactCutOfWordUptoCard
end Rows
end Go.Proofs.YtomfebfjkcdjpabDoor
