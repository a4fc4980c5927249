/-
  DERIVED. GIVEN WITH THE SEED: THE CARDS: each row of YtpkpkojmaebflaaGreatDoorRows.lean that lists a variable, with what it lists TIED to the program's text (the seventh form; the later family's looks); each row that meets fmt, with fmt's text TOLD by the authors' own Lean function (tested against real Go, not proved from fmt's source: count such statements apart). THE CARD IS WHAT COUNTS. Prove the row's statement (the work); the ties are given (YtpkpkojmaebflaaGreatDoorTie.lean); close each card by the builder's one call (the guide's Derived/Test/ToyasCard.lean, 'card_holds'). Laid BY PROGRAM, IN A SANDBOX (cutbox-door.mjs). By AI agents, Wed Nov 11 2026. No macro, syntax, notation, axiom, sorry.
-/
import Derived.Test.YtpkpkojmaebflaaGreatDoorRows
import GoSem.ClaimSeven
namespace Go.Proofs.YtpkpkojmaebflaaGreatDoor
namespace Rows

/-- THE TIED CARD OF 'laws.FnExactEngineLines'. -/
def fnExactEngineLinesCard : Claim7 := { stood := { row := fnExactEngineLinesRow, standIns := [], harness := (true, "7df5bbab53e0b010d3d93a8d3d41dbd6a32b0b45a9d9b783034f636a1342abf8"), looks := false }, kinds := [], alts := [], laidByText := true, laidKinds := [.data, .data, .data], laidTests := true, laidLooks := .later }
def FnExactEngineLinesCardSaid : Prop := Claim7.holds Tryz.pinned (.plain (OpenSpec.ofChange fnExactEngineLinesSpec)) fnExactEngineLinesCard

/-- THE SECOND FORM's CARD OF 'laws.FnExactEngineLines'. -/
def fnExactEngineLinesUptoCard : Claim7 := { stood := { row := fnExactEngineLinesUptoRow, standIns := [], harness := (true, "7df5bbab53e0b010d3d93a8d3d41dbd6a32b0b45a9d9b783034f636a1342abf8"), looks := false }, kinds := [], alts := [], laidByText := true, laidKinds := [.data, .data, .data], laidTests := true, laidLooks := .later }
def FnExactEngineLinesUptoCardSaid : Prop := Claim7.holds Tryz.pinned (.plain (OpenSpec.upto fnExactEngineLinesSpec)) fnExactEngineLinesUptoCard
end Rows
end Go.Proofs.YtpkpkojmaebflaaGreatDoor
