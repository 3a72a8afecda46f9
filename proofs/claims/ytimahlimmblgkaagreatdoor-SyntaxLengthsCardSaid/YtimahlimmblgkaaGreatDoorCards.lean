/-
  DERIVED. GIVEN WITH THE SEED: THE CARDS: each row of YtimahlimmblgkaaGreatDoorRows.lean that lists a variable, with what it lists TIED to the program's text (the seventh form; the later family's looks); each row that meets fmt, with fmt's text TOLD by the authors' own Lean function (tested against real Go, not proved from fmt's source: count such statements apart). THE CARD IS WHAT COUNTS. Prove the row's statement (the work); the ties are given (YtimahlimmblgkaaGreatDoorTie.lean); close each card by the builder's one call (the guide's Derived/Test/ToyasCard.lean, 'card_holds'). Laid BY PROGRAM, IN A SANDBOX (cutbox-door.mjs). By AI agents, Wed Nov 11 2026. No macro, syntax, notation, axiom, sorry.
-/
import Derived.Test.YtimahlimmblgkaaGreatDoorRows
import GoSem.ClaimSeven
namespace Go.Proofs.YtimahlimmblgkaaGreatDoor
namespace Rows

/-- THE TIED CARD OF 'gaugerlaw07.SyntaxLengths'. -/
def syntaxLengthsCard : Claim7 := { stood := { row := syntaxLengthsRow, standIns := [], harness := (true, "a8c6990e70033c5fffa0c3e67ce75aa806edbd015ab9c23705f508562b5d2207"), looks := true }, kinds := [], alts := [], laidByText := true, laidKinds := [.data, .data, .data, .data, .sentinel, .sentinel, .pinned, .pinned], laidTests := true, laidLooks := .later }
def SyntaxLengthsCardSaid : Prop := Claim7.holds Tryz.pinned (.plain (OpenSpec.ofChange syntaxLengthsSpec)) syntaxLengthsCard

/-- THE TIED CARD OF 'gaugerlaw07.SyntaxBrackets'. -/
def syntaxBracketsCard : Claim7 := { stood := { row := syntaxBracketsRow, standIns := [], harness := (true, "a8c6990e70033c5fffa0c3e67ce75aa806edbd015ab9c23705f508562b5d2207"), looks := true }, kinds := [], alts := [], laidByText := true, laidKinds := [.data, .data, .data, .data, .sentinel, .sentinel, .pinned, .pinned], laidTests := true, laidLooks := .later }
def SyntaxBracketsCardSaid : Prop := Claim7.holds Tryz.pinned (.plain (OpenSpec.ofChange syntaxBracketsSpec)) syntaxBracketsCard

/-- THE TIED CARD OF 'gaugerlaw11.TemplateWrong'. -/
def templateWrongCard : Claim7 := { stood := { row := templateWrongRow, standIns := [], harness := (true, "a8c6990e70033c5fffa0c3e67ce75aa806edbd015ab9c23705f508562b5d2207"), looks := true }, kinds := [], alts := [], laidByText := true, laidKinds := [.data, .data, .data, .data, .sentinel, .sentinel, .data, .pinned], laidTests := true, laidLooks := .later }
def TemplateWrongCardSaid : Prop := Claim7.holds Tryz.pinned (.plain (OpenSpec.ofChange templateWrongSpec)) templateWrongCard

/-- THE TIED CARD OF 'gaugerlaw11.TemplateJoins'. -/
def templateJoinsCard : Claim7 := { stood := { row := templateJoinsRow, standIns := [], harness := (true, "a8c6990e70033c5fffa0c3e67ce75aa806edbd015ab9c23705f508562b5d2207"), looks := true }, kinds := [], alts := [], laidByText := true, laidKinds := [.data, .data, .data, .data, .sentinel, .sentinel, .data, .pinned], laidTests := true, laidLooks := .later }
def TemplateJoinsCardSaid : Prop := Claim7.holds Tryz.pinned (.plain (OpenSpec.ofChange templateJoinsSpec)) templateJoinsCard

/-- THE TIED CARD OF 'gaugerlaw11.TemplateWords'. -/
def templateWordsCard : Claim7 := { stood := { row := templateWordsRow, standIns := [], harness := (true, "a8c6990e70033c5fffa0c3e67ce75aa806edbd015ab9c23705f508562b5d2207"), looks := true }, kinds := [], alts := [], laidByText := true, laidKinds := [.data, .data, .data, .data, .sentinel, .sentinel, .data, .pinned], laidTests := true, laidLooks := .later }
def TemplateWordsCardSaid : Prop := Claim7.holds Tryz.pinned (.plain (OpenSpec.ofChange templateWordsSpec)) templateWordsCard

/-- THE TIED CARD OF 'gaugerlaw11.TemplateMost'. -/
def templateMostCard : Claim7 := { stood := { row := templateMostRow, standIns := [], harness := (true, "a8c6990e70033c5fffa0c3e67ce75aa806edbd015ab9c23705f508562b5d2207"), looks := true }, kinds := [], alts := [], laidByText := true, laidKinds := [.data, .data, .data, .data, .sentinel, .sentinel, .data, .pinned], laidTests := true, laidLooks := .later }
def TemplateMostCardSaid : Prop := Claim7.holds Tryz.pinned (.plain (OpenSpec.ofChange templateMostSpec)) templateMostCard

/-- THE TIED CARD OF 'gaugerlaw11.TemplatePlain'. -/
def templatePlainCard : Claim7 := { stood := { row := templatePlainRow, standIns := [], harness := (true, "a8c6990e70033c5fffa0c3e67ce75aa806edbd015ab9c23705f508562b5d2207"), looks := true }, kinds := [], alts := [], laidByText := true, laidKinds := [.data, .data, .data, .data, .sentinel, .sentinel, .data, .pinned], laidTests := true, laidLooks := .later }
def TemplatePlainCardSaid : Prop := Claim7.holds Tryz.pinned (.plain (OpenSpec.ofChange templatePlainSpec)) templatePlainCard

/-- THE TIED CARD OF 'gaugerlaw11.TemplateBack'. -/
def templateBackCard : Claim7 := { stood := { row := templateBackRow, standIns := [], harness := (true, "a8c6990e70033c5fffa0c3e67ce75aa806edbd015ab9c23705f508562b5d2207"), looks := true }, kinds := [], alts := [], laidByText := true, laidKinds := [.data, .data, .data, .data, .sentinel, .sentinel, .data, .pinned], laidTests := true, laidLooks := .later }
def TemplateBackCardSaid : Prop := Claim7.holds Tryz.pinned (.plain (OpenSpec.ofChange templateBackSpec)) templateBackCard

/-- THE SECOND FORM's CARD OF 'gaugerlaw07.SyntaxLengths'. -/
def syntaxLengthsUptoCard : Claim7 := { stood := { row := syntaxLengthsUptoRow, standIns := [], harness := (true, "a8c6990e70033c5fffa0c3e67ce75aa806edbd015ab9c23705f508562b5d2207"), looks := true }, kinds := [], alts := [], laidByText := true, laidKinds := [.data, .data, .data, .data, .sentinel, .sentinel, .pinned, .pinned], laidTests := true, laidLooks := .later }
def SyntaxLengthsUptoCardSaid : Prop := Claim7.holds Tryz.pinned (.plain (OpenSpec.upto syntaxLengthsSpec)) syntaxLengthsUptoCard

/-- THE SECOND FORM's CARD OF 'gaugerlaw07.SyntaxBrackets'. -/
def syntaxBracketsUptoCard : Claim7 := { stood := { row := syntaxBracketsUptoRow, standIns := [], harness := (true, "a8c6990e70033c5fffa0c3e67ce75aa806edbd015ab9c23705f508562b5d2207"), looks := true }, kinds := [], alts := [], laidByText := true, laidKinds := [.data, .data, .data, .data, .sentinel, .sentinel, .pinned, .pinned], laidTests := true, laidLooks := .later }
def SyntaxBracketsUptoCardSaid : Prop := Claim7.holds Tryz.pinned (.plain (OpenSpec.upto syntaxBracketsSpec)) syntaxBracketsUptoCard

/-- THE SECOND FORM's CARD OF 'gaugerlaw11.TemplateWrong'. -/
def templateWrongUptoCard : Claim7 := { stood := { row := templateWrongUptoRow, standIns := [], harness := (true, "a8c6990e70033c5fffa0c3e67ce75aa806edbd015ab9c23705f508562b5d2207"), looks := true }, kinds := [], alts := [], laidByText := true, laidKinds := [.data, .data, .data, .data, .sentinel, .sentinel, .data, .pinned], laidTests := true, laidLooks := .later }
def TemplateWrongUptoCardSaid : Prop := Claim7.holds Tryz.pinned (.plain (OpenSpec.upto templateWrongSpec)) templateWrongUptoCard

/-- THE SECOND FORM's CARD OF 'gaugerlaw11.TemplateJoins'. -/
def templateJoinsUptoCard : Claim7 := { stood := { row := templateJoinsUptoRow, standIns := [], harness := (true, "a8c6990e70033c5fffa0c3e67ce75aa806edbd015ab9c23705f508562b5d2207"), looks := true }, kinds := [], alts := [], laidByText := true, laidKinds := [.data, .data, .data, .data, .sentinel, .sentinel, .data, .pinned], laidTests := true, laidLooks := .later }
def TemplateJoinsUptoCardSaid : Prop := Claim7.holds Tryz.pinned (.plain (OpenSpec.upto templateJoinsSpec)) templateJoinsUptoCard

/-- THE SECOND FORM's CARD OF 'gaugerlaw11.TemplateWords'. -/
def templateWordsUptoCard : Claim7 := { stood := { row := templateWordsUptoRow, standIns := [], harness := (true, "a8c6990e70033c5fffa0c3e67ce75aa806edbd015ab9c23705f508562b5d2207"), looks := true }, kinds := [], alts := [], laidByText := true, laidKinds := [.data, .data, .data, .data, .sentinel, .sentinel, .data, .pinned], laidTests := true, laidLooks := .later }
def TemplateWordsUptoCardSaid : Prop := Claim7.holds Tryz.pinned (.plain (OpenSpec.upto templateWordsSpec)) templateWordsUptoCard

/-- THE SECOND FORM's CARD OF 'gaugerlaw11.TemplateMost'. -/
def templateMostUptoCard : Claim7 := { stood := { row := templateMostUptoRow, standIns := [], harness := (true, "a8c6990e70033c5fffa0c3e67ce75aa806edbd015ab9c23705f508562b5d2207"), looks := true }, kinds := [], alts := [], laidByText := true, laidKinds := [.data, .data, .data, .data, .sentinel, .sentinel, .data, .pinned], laidTests := true, laidLooks := .later }
def TemplateMostUptoCardSaid : Prop := Claim7.holds Tryz.pinned (.plain (OpenSpec.upto templateMostSpec)) templateMostUptoCard

/-- THE SECOND FORM's CARD OF 'gaugerlaw11.TemplatePlain'. -/
def templatePlainUptoCard : Claim7 := { stood := { row := templatePlainUptoRow, standIns := [], harness := (true, "a8c6990e70033c5fffa0c3e67ce75aa806edbd015ab9c23705f508562b5d2207"), looks := true }, kinds := [], alts := [], laidByText := true, laidKinds := [.data, .data, .data, .data, .sentinel, .sentinel, .data, .pinned], laidTests := true, laidLooks := .later }
def TemplatePlainUptoCardSaid : Prop := Claim7.holds Tryz.pinned (.plain (OpenSpec.upto templatePlainSpec)) templatePlainUptoCard

/-- THE SECOND FORM's CARD OF 'gaugerlaw11.TemplateBack'. -/
def templateBackUptoCard : Claim7 := { stood := { row := templateBackUptoRow, standIns := [], harness := (true, "a8c6990e70033c5fffa0c3e67ce75aa806edbd015ab9c23705f508562b5d2207"), looks := true }, kinds := [], alts := [], laidByText := true, laidKinds := [.data, .data, .data, .data, .sentinel, .sentinel, .data, .pinned], laidTests := true, laidLooks := .later }
def TemplateBackUptoCardSaid : Prop := Claim7.holds Tryz.pinned (.plain (OpenSpec.upto templateBackSpec)) templateBackUptoCard
end Rows
end Go.Proofs.YtimahlimmblgkaaGreatDoor
