/-
  DERIVED. GIVEN WITH THE SEED: THE CARDS: each row of YthffgbhphjkdeaaDoorRows.lean that lists a variable, with what it lists TIED to the program's text (the seventh form; the later family's looks); each row that meets fmt, with fmt's text TOLD by the authors' own Lean function (tested against real Go, not proved from fmt's source: count such statements apart). THE CARD IS WHAT COUNTS. Prove the row's statement (the work); the ties are given (YthffgbhphjkdeaaDoorTie.lean); close each card by the builder's one call (the guide's Derived/Test/ToyasCard.lean, 'card_holds'). Laid BY PROGRAM, IN A SANDBOX (cutbox-door.mjs). By AI agents, Wed Nov 11 2026. No macro, syntax, notation, axiom, sorry.
-/
import Derived.Test.YthffgbhphjkdeaaDoorRows
import GoSem.ClaimSeven
namespace Go.Proofs.YthffgbhphjkdeaaDoor
namespace Rows

/-- THE TIED CARD OF 'laws.FnExactStyleLines'. -/
def fnExactStyleLinesCard : Claim7 := { stood := { row := fnExactStyleLinesRow, standIns := [], harness := (true, "cfc6c1cf917ce3b6e9c18aedc7441012a1a2f043c771b34ea38ed431c219914b"), looks := true }, kinds := [], alts := [], laidByText := true, laidKinds := [.data, .data, .data, .data, .pinned], laidTests := true, laidLooks := .later }
def FnExactStyleLinesCardSaid : Prop := Claim7.holds Tryd.pinned (.plain (OpenSpec.ofChange fnExactStyleLinesSpec)) fnExactStyleLinesCard

/-- THE TIED CARD OF 'laws.FnExactSetKey'. -/
def fnExactSetKeyCard : Claim7 := { stood := { row := fnExactSetKeyRow, standIns := [], harness := (true, "cfc6c1cf917ce3b6e9c18aedc7441012a1a2f043c771b34ea38ed431c219914b"), looks := true }, kinds := [], alts := [], laidByText := true, laidKinds := [.data, .pinned], laidTests := true, laidLooks := .later }
def FnExactSetKeyCardSaid : Prop := Claim7.holds Tryd.pinned (.plain (OpenSpec.ofChange fnExactSetKeySpec)) fnExactSetKeyCard

/-- THE TIED CARD OF 'laws.FnKeys'. -/
def fnKeysCard : Claim7 := { stood := { row := fnKeysRow, standIns := [], harness := (true, "cfc6c1cf917ce3b6e9c18aedc7441012a1a2f043c771b34ea38ed431c219914b"), looks := true }, kinds := [], alts := [], laidByText := true, laidKinds := [.data, .data, .data, .data, .pinned], laidTests := true, laidLooks := .later }
def FnKeysCardSaid : Prop := Claim7.holds Tryd.pinned (.plain (OpenSpec.ofChange fnKeysSpec)) fnKeysCard

/-- THE TIED CARD OF 'laws.FnExactReadRules'. -/
def fnExactReadRulesCard : Claim7 := { stood := { row := fnExactReadRulesRow, standIns := [], harness := (true, "cfc6c1cf917ce3b6e9c18aedc7441012a1a2f043c771b34ea38ed431c219914b"), looks := true }, kinds := [], alts := [], laidByText := true, laidKinds := [.data, .data, .data, .data, .sentinel, .sentinel, .pinned], laidTests := true, laidLooks := .later }
def FnExactReadRulesCardSaid : Prop := Claim7.holds Tryd.pinned (.plain (OpenSpec.ofChange fnExactReadRulesSpec)) fnExactReadRulesCard

/-- THE TIED CARD OF 'laws.FnExactActLine'. -/
def fnExactActLineCard : Claim7 := { stood := { row := fnExactActLineRow, standIns := [], harness := (true, "cfc6c1cf917ce3b6e9c18aedc7441012a1a2f043c771b34ea38ed431c219914b"), looks := true }, kinds := [], alts := [], laidByText := true, laidKinds := [.data, .data, .data, .data, .pinned], laidTests := true, laidLooks := .later }
def FnExactActLineCardSaid : Prop := Claim7.holds Tryd.pinned (.plain (OpenSpec.ofChange fnExactActLineSpec)) fnExactActLineCard

/-- THE TIED CARD OF 'laws.FnExactTreeLines'. -/
def fnExactTreeLinesCard : Claim7 := { stood := { row := fnExactTreeLinesRow, standIns := [], harness := (true, "cfc6c1cf917ce3b6e9c18aedc7441012a1a2f043c771b34ea38ed431c219914b"), looks := true }, kinds := [], alts := [], laidByText := true, laidKinds := [.data, .data, .data], laidTests := true, laidLooks := .later }
def FnExactTreeLinesCardSaid : Prop := Claim7.holds Tryd.pinned (.plain (OpenSpec.ofChange fnExactTreeLinesSpec)) fnExactTreeLinesCard

/-- THE SECOND FORM's CARD OF 'laws.FnExactStyleLines'. -/
def fnExactStyleLinesUptoCard : Claim7 := { stood := { row := fnExactStyleLinesUptoRow, standIns := [], harness := (true, "cfc6c1cf917ce3b6e9c18aedc7441012a1a2f043c771b34ea38ed431c219914b"), looks := true }, kinds := [], alts := [], laidByText := true, laidKinds := [.data, .data, .data, .data, .pinned], laidTests := true, laidLooks := .later }
def FnExactStyleLinesUptoCardSaid : Prop := Claim7.holds Tryd.pinned (.plain (OpenSpec.upto fnExactStyleLinesSpec)) fnExactStyleLinesUptoCard

/-- THE SECOND FORM's CARD OF 'laws.FnExactSetKey'. -/
def fnExactSetKeyUptoCard : Claim7 := { stood := { row := fnExactSetKeyUptoRow, standIns := [], harness := (true, "cfc6c1cf917ce3b6e9c18aedc7441012a1a2f043c771b34ea38ed431c219914b"), looks := true }, kinds := [], alts := [], laidByText := true, laidKinds := [.data, .pinned], laidTests := true, laidLooks := .later }
def FnExactSetKeyUptoCardSaid : Prop := Claim7.holds Tryd.pinned (.plain (OpenSpec.upto fnExactSetKeySpec)) fnExactSetKeyUptoCard

/-- THE SECOND FORM's CARD OF 'laws.FnKeys'. -/
def fnKeysUptoCard : Claim7 := { stood := { row := fnKeysUptoRow, standIns := [], harness := (true, "cfc6c1cf917ce3b6e9c18aedc7441012a1a2f043c771b34ea38ed431c219914b"), looks := true }, kinds := [], alts := [], laidByText := true, laidKinds := [.data, .data, .data, .data, .pinned], laidTests := true, laidLooks := .later }
def FnKeysUptoCardSaid : Prop := Claim7.holds Tryd.pinned (.plain (OpenSpec.upto fnKeysSpec)) fnKeysUptoCard

/-- THE SECOND FORM's CARD OF 'laws.FnExactReadRules'. -/
def fnExactReadRulesUptoCard : Claim7 := { stood := { row := fnExactReadRulesUptoRow, standIns := [], harness := (true, "cfc6c1cf917ce3b6e9c18aedc7441012a1a2f043c771b34ea38ed431c219914b"), looks := true }, kinds := [], alts := [], laidByText := true, laidKinds := [.data, .data, .data, .data, .sentinel, .sentinel, .pinned], laidTests := true, laidLooks := .later }
def FnExactReadRulesUptoCardSaid : Prop := Claim7.holds Tryd.pinned (.plain (OpenSpec.upto fnExactReadRulesSpec)) fnExactReadRulesUptoCard

/-- THE SECOND FORM's CARD OF 'laws.FnExactActLine'. -/
def fnExactActLineUptoCard : Claim7 := { stood := { row := fnExactActLineUptoRow, standIns := [], harness := (true, "cfc6c1cf917ce3b6e9c18aedc7441012a1a2f043c771b34ea38ed431c219914b"), looks := true }, kinds := [], alts := [], laidByText := true, laidKinds := [.data, .data, .data, .data, .pinned], laidTests := true, laidLooks := .later }
def FnExactActLineUptoCardSaid : Prop := Claim7.holds Tryd.pinned (.plain (OpenSpec.upto fnExactActLineSpec)) fnExactActLineUptoCard

/-- THE SECOND FORM's CARD OF 'laws.FnExactTreeLines'. -/
def fnExactTreeLinesUptoCard : Claim7 := { stood := { row := fnExactTreeLinesUptoRow, standIns := [], harness := (true, "cfc6c1cf917ce3b6e9c18aedc7441012a1a2f043c771b34ea38ed431c219914b"), looks := true }, kinds := [], alts := [], laidByText := true, laidKinds := [.data, .data, .data], laidTests := true, laidLooks := .later }
def FnExactTreeLinesUptoCardSaid : Prop := Claim7.holds Tryd.pinned (.plain (OpenSpec.upto fnExactTreeLinesSpec)) fnExactTreeLinesUptoCard
end Rows
end Go.Proofs.YthffgbhphjkdeaaDoor
