/-
  DERIVED. GIVEN WITH THE SEED: THE CARDS: each row of YtcolkidnjojlmaaDoorRows.lean that lists a variable, with what it lists TIED to the program's text (the seventh form; the later family's looks); each row that meets fmt, with fmt's text TOLD by the authors' own Lean function (tested against real Go, not proved from fmt's source: count such statements apart). THE CARD IS WHAT COUNTS. Prove the row's statement (the work); the ties are given (YtcolkidnjojlmaaDoorTie.lean); close each card by the builder's one call (the guide's Derived/Test/ToyasCard.lean, 'card_holds'). Laid BY PROGRAM, IN A SANDBOX (cutbox-door.mjs). By AI agents, Wed Nov 11 2026. No macro, syntax, notation, axiom, sorry.
-/
import Derived.Test.YtcolkidnjojlmaaDoorRows
import GoSem.ClaimSeven
namespace Go.Proofs.YtcolkidnjojlmaaDoor
namespace Rows

/-- THE TIED CARD OF 'laws.FnExactKeyNames'. -/
def fnExactKeyNamesCard : Claim7 := { stood := { row := fnExactKeyNamesRow, standIns := [], harness := (true, "f3eff8721536af0879b92b02f7f3054ab2f4461e486ab3493eeb4492b8d09f42"), looks := true }, kinds := [], alts := [], laidByText := true, laidKinds := [.data, .pinned], laidTests := true, laidLooks := .later }
def FnExactKeyNamesCardSaid : Prop := Claim7.holds Tryd.pinned (.plain (OpenSpec.ofChange fnExactKeyNamesSpec)) fnExactKeyNamesCard

/-- THE TIED CARD OF 'laws.FnExactKeyOf'. -/
def fnExactKeyOfCard : Claim7 := { stood := { row := fnExactKeyOfRow, standIns := [], harness := (true, "f3eff8721536af0879b92b02f7f3054ab2f4461e486ab3493eeb4492b8d09f42"), looks := true }, kinds := [], alts := [], laidByText := true, laidKinds := [.data, .pinned], laidTests := true, laidLooks := .later }
def FnExactKeyOfCardSaid : Prop := Claim7.holds Tryd.pinned (.plain (OpenSpec.ofChange fnExactKeyOfSpec)) fnExactKeyOfCard

/-- THE TIED CARD OF 'laws.FnExactReadValue'. -/
def fnExactReadValueCard : Claim7 := { stood := { row := fnExactReadValueRow, standIns := [], harness := (true, "f3eff8721536af0879b92b02f7f3054ab2f4461e486ab3493eeb4492b8d09f42"), looks := true }, kinds := [], alts := [], laidByText := true, laidKinds := [.data, .data, .data, .sentinel, .sentinel], laidTests := true, laidLooks := .later }
def FnExactReadValueCardSaid : Prop := Claim7.holds Tryd.pinned (.plain (OpenSpec.ofChange fnExactReadValueSpec)) fnExactReadValueCard

/-- THE TIED CARD OF 'laws.FnExactSetKey'. -/
def fnExactSetKeyCard : Claim7 := { stood := { row := fnExactSetKeyRow, standIns := [], harness := (true, "f3eff8721536af0879b92b02f7f3054ab2f4461e486ab3493eeb4492b8d09f42"), looks := true }, kinds := [], alts := [], laidByText := true, laidKinds := [.data, .pinned], laidTests := true, laidLooks := .later }
def FnExactSetKeyCardSaid : Prop := Claim7.holds Tryd.pinned (.plain (OpenSpec.ofChange fnExactSetKeySpec)) fnExactSetKeyCard

/-- THE TIED CARD OF 'laws.FnExactKeptLines'. -/
def fnExactKeptLinesCard : Claim7 := { stood := { row := fnExactKeptLinesRow, standIns := [], harness := (true, "f3eff8721536af0879b92b02f7f3054ab2f4461e486ab3493eeb4492b8d09f42"), looks := true }, kinds := [], alts := [], laidByText := true, laidKinds := [.data, .data, .data], laidTests := true, laidLooks := .later }
def FnExactKeptLinesCardSaid : Prop := Claim7.holds Tryd.pinned (.plain (OpenSpec.ofChange fnExactKeptLinesSpec)) fnExactKeptLinesCard

/-- THE TIED CARD OF 'laws.FnExactStyleLines'. -/
def fnExactStyleLinesCard : Claim7 := { stood := { row := fnExactStyleLinesRow, standIns := [], harness := (true, "f3eff8721536af0879b92b02f7f3054ab2f4461e486ab3493eeb4492b8d09f42"), looks := true }, kinds := [], alts := [], laidByText := true, laidKinds := [.data, .data, .data, .data, .pinned], laidTests := true, laidLooks := .later }
def FnExactStyleLinesCardSaid : Prop := Claim7.holds Tryd.pinned (.plain (OpenSpec.ofChange fnExactStyleLinesSpec)) fnExactStyleLinesCard

/-- THE SECOND FORM's CARD OF 'laws.FnExactKeyNames'. -/
def fnExactKeyNamesUptoCard : Claim7 := { stood := { row := fnExactKeyNamesUptoRow, standIns := [], harness := (true, "f3eff8721536af0879b92b02f7f3054ab2f4461e486ab3493eeb4492b8d09f42"), looks := true }, kinds := [], alts := [], laidByText := true, laidKinds := [.data, .pinned], laidTests := true, laidLooks := .later }
def FnExactKeyNamesUptoCardSaid : Prop := Claim7.holds Tryd.pinned (.plain (OpenSpec.upto fnExactKeyNamesSpec)) fnExactKeyNamesUptoCard

/-- THE SECOND FORM's CARD OF 'laws.FnExactKeyOf'. -/
def fnExactKeyOfUptoCard : Claim7 := { stood := { row := fnExactKeyOfUptoRow, standIns := [], harness := (true, "f3eff8721536af0879b92b02f7f3054ab2f4461e486ab3493eeb4492b8d09f42"), looks := true }, kinds := [], alts := [], laidByText := true, laidKinds := [.data, .pinned], laidTests := true, laidLooks := .later }
def FnExactKeyOfUptoCardSaid : Prop := Claim7.holds Tryd.pinned (.plain (OpenSpec.upto fnExactKeyOfSpec)) fnExactKeyOfUptoCard

/-- THE SECOND FORM's CARD OF 'laws.FnExactReadValue'. -/
def fnExactReadValueUptoCard : Claim7 := { stood := { row := fnExactReadValueUptoRow, standIns := [], harness := (true, "f3eff8721536af0879b92b02f7f3054ab2f4461e486ab3493eeb4492b8d09f42"), looks := true }, kinds := [], alts := [], laidByText := true, laidKinds := [.data, .data, .data, .sentinel, .sentinel], laidTests := true, laidLooks := .later }
def FnExactReadValueUptoCardSaid : Prop := Claim7.holds Tryd.pinned (.plain (OpenSpec.upto fnExactReadValueSpec)) fnExactReadValueUptoCard

/-- THE SECOND FORM's CARD OF 'laws.FnExactSetKey'. -/
def fnExactSetKeyUptoCard : Claim7 := { stood := { row := fnExactSetKeyUptoRow, standIns := [], harness := (true, "f3eff8721536af0879b92b02f7f3054ab2f4461e486ab3493eeb4492b8d09f42"), looks := true }, kinds := [], alts := [], laidByText := true, laidKinds := [.data, .pinned], laidTests := true, laidLooks := .later }
def FnExactSetKeyUptoCardSaid : Prop := Claim7.holds Tryd.pinned (.plain (OpenSpec.upto fnExactSetKeySpec)) fnExactSetKeyUptoCard

/-- THE SECOND FORM's CARD OF 'laws.FnExactKeptLines'. -/
def fnExactKeptLinesUptoCard : Claim7 := { stood := { row := fnExactKeptLinesUptoRow, standIns := [], harness := (true, "f3eff8721536af0879b92b02f7f3054ab2f4461e486ab3493eeb4492b8d09f42"), looks := true }, kinds := [], alts := [], laidByText := true, laidKinds := [.data, .data, .data], laidTests := true, laidLooks := .later }
def FnExactKeptLinesUptoCardSaid : Prop := Claim7.holds Tryd.pinned (.plain (OpenSpec.upto fnExactKeptLinesSpec)) fnExactKeptLinesUptoCard

/-- THE SECOND FORM's CARD OF 'laws.FnExactStyleLines'. -/
def fnExactStyleLinesUptoCard : Claim7 := { stood := { row := fnExactStyleLinesUptoRow, standIns := [], harness := (true, "f3eff8721536af0879b92b02f7f3054ab2f4461e486ab3493eeb4492b8d09f42"), looks := true }, kinds := [], alts := [], laidByText := true, laidKinds := [.data, .data, .data, .data, .pinned], laidTests := true, laidLooks := .later }
def FnExactStyleLinesUptoCardSaid : Prop := Claim7.holds Tryd.pinned (.plain (OpenSpec.upto fnExactStyleLinesSpec)) fnExactStyleLinesUptoCard
end Rows
end Go.Proofs.YtcolkidnjojlmaaDoor
