/-
  DERIVED. GIVEN WITH THE SEED: THE CARDS: each row of YtefgjjmnjanleaaDoorRows.lean that lists a variable, with what it lists TIED to the program's text (the seventh form; the later family's looks); each row that meets fmt, with fmt's text TOLD by the authors' own Lean function (tested against real Go, not proved from fmt's source: count such statements apart). THE CARD IS WHAT COUNTS. Prove the row's statement (the work); the ties are given (YtefgjjmnjanleaaDoorTie.lean); close each card by the builder's one call (the guide's Derived/Test/ToyasCard.lean, 'card_holds'). Laid BY PROGRAM, IN A SANDBOX (cutbox-door.mjs). By AI agents, Wed Nov 11 2026. No macro, syntax, notation, axiom, sorry.
-/
import Derived.Test.YtefgjjmnjanleaaDoorRows
import GoSem.ClaimSeven
namespace Go.Proofs.YtefgjjmnjanleaaDoor
namespace Rows

/-- THE TIED CARD OF 'laws.FnExactKeyNames'. -/
def fnExactKeyNamesCard : Claim7 := { stood := { row := fnExactKeyNamesRow, standIns := [], harness := (true, "b41c997df20e0f9293f332067e759604644ac6b5ea6057bb5a6a867ea87b31be"), looks := false }, kinds := [], alts := [], laidByText := true, laidKinds := [.data, .pinned], laidTests := true, laidLooks := .later }
def FnExactKeyNamesCardSaid : Prop := Claim7.holds Tryd.pinned (.plain (OpenSpec.ofChange fnExactKeyNamesSpec)) fnExactKeyNamesCard

/-- THE TIED CARD OF 'laws.FnExactFrameLine'. -/
def fnExactFrameLineCard : Claim7 := { stood := { row := fnExactFrameLineRow, standIns := [], harness := (true, "b41c997df20e0f9293f332067e759604644ac6b5ea6057bb5a6a867ea87b31be"), looks := false }, kinds := [], alts := [], laidByText := true, laidKinds := [.data, .data, .data], laidTests := true, laidLooks := .later }
def FnExactFrameLineCardSaid : Prop := Claim7.holds Tryd.pinned (.plain (OpenSpec.ofChange fnExactFrameLineSpec)) fnExactFrameLineCard

/-- THE TIED CARD OF 'laws.FnExactRuleText'. -/
def fnExactRuleTextCard : Claim7 := { stood := { row := fnExactRuleTextRow, standIns := [], harness := (true, "b41c997df20e0f9293f332067e759604644ac6b5ea6057bb5a6a867ea87b31be"), looks := false }, kinds := [], alts := [], laidByText := true, laidKinds := [.data, .data, .data], laidTests := true, laidLooks := .later }
def FnExactRuleTextCardSaid : Prop := Claim7.holds Tryd.pinned (.plain (OpenSpec.ofChange fnExactRuleTextSpec)) fnExactRuleTextCard

/-- THE TIED CARD OF 'laws.FnExactFrameLines'. -/
def fnExactFrameLinesCard : Claim7 := { stood := { row := fnExactFrameLinesRow, standIns := [], harness := (true, "b41c997df20e0f9293f332067e759604644ac6b5ea6057bb5a6a867ea87b31be"), looks := false }, kinds := [], alts := [], laidByText := true, laidKinds := [.data, .data, .data], laidTests := true, laidLooks := .later }
def FnExactFrameLinesCardSaid : Prop := Claim7.holds Tryd.pinned (.plain (OpenSpec.ofChange fnExactFrameLinesSpec)) fnExactFrameLinesCard

/-- THE TIED CARD OF 'laws.FnExactKeyOf'. -/
def fnExactKeyOfCard : Claim7 := { stood := { row := fnExactKeyOfRow, standIns := [], harness := (true, "b41c997df20e0f9293f332067e759604644ac6b5ea6057bb5a6a867ea87b31be"), looks := false }, kinds := [], alts := [], laidByText := true, laidKinds := [.data, .pinned], laidTests := true, laidLooks := .later }
def FnExactKeyOfCardSaid : Prop := Claim7.holds Tryd.pinned (.plain (OpenSpec.ofChange fnExactKeyOfSpec)) fnExactKeyOfCard

/-- THE TIED CARD OF 'laws.FnExactMemoLine'. -/
def fnExactMemoLineCard : Claim7 := { stood := { row := fnExactMemoLineRow, standIns := [], harness := (true, "b41c997df20e0f9293f332067e759604644ac6b5ea6057bb5a6a867ea87b31be"), looks := false }, kinds := [], alts := [], laidByText := true, laidKinds := [.data, .data, .data], laidTests := true, laidLooks := .later }
def FnExactMemoLineCardSaid : Prop := Claim7.holds Tryd.pinned (.plain (OpenSpec.ofChange fnExactMemoLineSpec)) fnExactMemoLineCard

/-- THE SECOND FORM's CARD OF 'laws.FnExactKeyNames'. -/
def fnExactKeyNamesUptoCard : Claim7 := { stood := { row := fnExactKeyNamesUptoRow, standIns := [], harness := (true, "b41c997df20e0f9293f332067e759604644ac6b5ea6057bb5a6a867ea87b31be"), looks := false }, kinds := [], alts := [], laidByText := true, laidKinds := [.data, .pinned], laidTests := true, laidLooks := .later }
def FnExactKeyNamesUptoCardSaid : Prop := Claim7.holds Tryd.pinned (.plain (OpenSpec.upto fnExactKeyNamesSpec)) fnExactKeyNamesUptoCard

/-- THE SECOND FORM's CARD OF 'laws.FnExactFrameLine'. -/
def fnExactFrameLineUptoCard : Claim7 := { stood := { row := fnExactFrameLineUptoRow, standIns := [], harness := (true, "b41c997df20e0f9293f332067e759604644ac6b5ea6057bb5a6a867ea87b31be"), looks := false }, kinds := [], alts := [], laidByText := true, laidKinds := [.data, .data, .data], laidTests := true, laidLooks := .later }
def FnExactFrameLineUptoCardSaid : Prop := Claim7.holds Tryd.pinned (.plain (OpenSpec.upto fnExactFrameLineSpec)) fnExactFrameLineUptoCard

/-- THE SECOND FORM's CARD OF 'laws.FnExactRuleText'. -/
def fnExactRuleTextUptoCard : Claim7 := { stood := { row := fnExactRuleTextUptoRow, standIns := [], harness := (true, "b41c997df20e0f9293f332067e759604644ac6b5ea6057bb5a6a867ea87b31be"), looks := false }, kinds := [], alts := [], laidByText := true, laidKinds := [.data, .data, .data], laidTests := true, laidLooks := .later }
def FnExactRuleTextUptoCardSaid : Prop := Claim7.holds Tryd.pinned (.plain (OpenSpec.upto fnExactRuleTextSpec)) fnExactRuleTextUptoCard

/-- THE SECOND FORM's CARD OF 'laws.FnExactFrameLines'. -/
def fnExactFrameLinesUptoCard : Claim7 := { stood := { row := fnExactFrameLinesUptoRow, standIns := [], harness := (true, "b41c997df20e0f9293f332067e759604644ac6b5ea6057bb5a6a867ea87b31be"), looks := false }, kinds := [], alts := [], laidByText := true, laidKinds := [.data, .data, .data], laidTests := true, laidLooks := .later }
def FnExactFrameLinesUptoCardSaid : Prop := Claim7.holds Tryd.pinned (.plain (OpenSpec.upto fnExactFrameLinesSpec)) fnExactFrameLinesUptoCard

/-- THE SECOND FORM's CARD OF 'laws.FnExactKeyOf'. -/
def fnExactKeyOfUptoCard : Claim7 := { stood := { row := fnExactKeyOfUptoRow, standIns := [], harness := (true, "b41c997df20e0f9293f332067e759604644ac6b5ea6057bb5a6a867ea87b31be"), looks := false }, kinds := [], alts := [], laidByText := true, laidKinds := [.data, .pinned], laidTests := true, laidLooks := .later }
def FnExactKeyOfUptoCardSaid : Prop := Claim7.holds Tryd.pinned (.plain (OpenSpec.upto fnExactKeyOfSpec)) fnExactKeyOfUptoCard

/-- THE SECOND FORM's CARD OF 'laws.FnExactMemoLine'. -/
def fnExactMemoLineUptoCard : Claim7 := { stood := { row := fnExactMemoLineUptoRow, standIns := [], harness := (true, "b41c997df20e0f9293f332067e759604644ac6b5ea6057bb5a6a867ea87b31be"), looks := false }, kinds := [], alts := [], laidByText := true, laidKinds := [.data, .data, .data], laidTests := true, laidLooks := .later }
def FnExactMemoLineUptoCardSaid : Prop := Claim7.holds Tryd.pinned (.plain (OpenSpec.upto fnExactMemoLineSpec)) fnExactMemoLineUptoCard
end Rows
end Go.Proofs.YtefgjjmnjanleaaDoor
