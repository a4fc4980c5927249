/-
  DERIVED. GIVEN WITH THE SEED: THE CARDS: each row of YthffgbhphjkdeaaGreatDoorRows.lean that lists a variable, with what it lists TIED to the program's text (the seventh form; the later family's looks); each row that meets fmt, with fmt's text TOLD by the authors' own Lean function (tested against real Go, not proved from fmt's source: count such statements apart). THE CARD IS WHAT COUNTS. Prove the row's statement (the work); the ties are given (YthffgbhphjkdeaaGreatDoorTie.lean); close each card by the builder's one call (the guide's Derived/Test/ToyasCard.lean, 'card_holds'). Laid BY PROGRAM, IN A SANDBOX (cutbox-door.mjs). By AI agents, Wed Nov 11 2026. No macro, syntax, notation, axiom, sorry.
-/
import Derived.Test.YthffgbhphjkdeaaGreatDoorRows
import GoSem.ClaimSeven
namespace Go.Proofs.YthffgbhphjkdeaaGreatDoor
namespace Rows

/-- THE TIED CARD OF 'laws.FnKeysBack'. -/
def fnKeysBackCard : Claim7 := { stood := { row := fnKeysBackRow, standIns := [], harness := (true, "8eac551d0c4f638b2cc4a181d392cf29a8086d94bda84c217085d87343ba0cb2"), looks := true }, kinds := [], alts := [], laidByText := true, laidKinds := [.data, .data, .data, .data, .sentinel, .sentinel, .pinned], laidTests := true, laidLooks := .later }
def FnKeysBackCardSaid : Prop := Claim7.holds Tryz.pinned (.plain (OpenSpec.ofChange fnKeysBackSpec)) fnKeysBackCard

/-- THE SECOND FORM's CARD OF 'laws.FnKeysBack'. -/
def fnKeysBackUptoCard : Claim7 := { stood := { row := fnKeysBackUptoRow, standIns := [], harness := (true, "8eac551d0c4f638b2cc4a181d392cf29a8086d94bda84c217085d87343ba0cb2"), looks := true }, kinds := [], alts := [], laidByText := true, laidKinds := [.data, .data, .data, .data, .sentinel, .sentinel, .pinned], laidTests := true, laidLooks := .later }
def FnKeysBackUptoCardSaid : Prop := Claim7.holds Tryz.pinned (.plain (OpenSpec.upto fnKeysBackSpec)) fnKeysBackUptoCard
end Rows
end Go.Proofs.YthffgbhphjkdeaaGreatDoor
