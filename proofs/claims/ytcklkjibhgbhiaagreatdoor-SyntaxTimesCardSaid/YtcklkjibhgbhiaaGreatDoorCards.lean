/-
  DERIVED. GIVEN WITH THE SEED: THE CARDS: each row of YtcklkjibhgbhiaaGreatDoorRows.lean that lists a variable, with what it lists TIED to the program's text (the seventh form; the later family's looks); each row that meets fmt, with fmt's text TOLD by the authors' own Lean function (tested against real Go, not proved from fmt's source: count such statements apart). THE CARD IS WHAT COUNTS. Prove the row's statement (the work); the ties are given (YtcklkjibhgbhiaaGreatDoorTie.lean); close each card by the builder's one call (the guide's Derived/Test/ToyasCard.lean, 'card_holds'). Laid BY PROGRAM, IN A SANDBOX (cutbox-door.mjs). By AI agents, Wed Nov 11 2026. No macro, syntax, notation, axiom, sorry.
-/
import Derived.Test.YtcklkjibhgbhiaaGreatDoorRows
import GoSem.ClaimSeven
namespace Go.Proofs.YtcklkjibhgbhiaaGreatDoor
namespace Rows

/-- THE TIED CARD OF 'gaugerlaw07.SyntaxLengths'. -/
def syntaxLengthsCard : Claim7 := { stood := { row := syntaxLengthsRow, standIns := [], harness := (true, "20639d9f0e7952b9f9ff5ad8f1bda015e58c857d53ccda77c93e825a76fd8105"), looks := true }, kinds := [], alts := [], laidByText := true, laidKinds := [.data, .data, .data, .data, .sentinel, .sentinel, .pinned, .pinned], laidTests := true, laidLooks := .later }
def SyntaxLengthsCardSaid : Prop := Claim7.holds Tryz.pinned (.plain (OpenSpec.ofChange syntaxLengthsSpec)) syntaxLengthsCard

/-- THE TIED CARD OF 'gaugerlaw07.SyntaxBack'. -/
def syntaxBackCard : Claim7 := { stood := { row := syntaxBackRow, standIns := [], harness := (true, "20639d9f0e7952b9f9ff5ad8f1bda015e58c857d53ccda77c93e825a76fd8105"), looks := true }, kinds := [], alts := [], laidByText := true, laidKinds := [.data, .data, .data, .data, .sentinel, .sentinel, .pinned, .pinned], laidTests := true, laidLooks := .later }
def SyntaxBackCardSaid : Prop := Claim7.holds Tryz.pinned (.plain (OpenSpec.ofChange syntaxBackSpec)) syntaxBackCard

/-- THE TIED CARD OF 'gaugerlaw07.SyntaxBrackets'. -/
def syntaxBracketsCard : Claim7 := { stood := { row := syntaxBracketsRow, standIns := [], harness := (true, "20639d9f0e7952b9f9ff5ad8f1bda015e58c857d53ccda77c93e825a76fd8105"), looks := true }, kinds := [], alts := [], laidByText := true, laidKinds := [.data, .data, .data, .data, .sentinel, .sentinel, .pinned, .pinned], laidTests := true, laidLooks := .later }
def SyntaxBracketsCardSaid : Prop := Claim7.holds Tryz.pinned (.plain (OpenSpec.ofChange syntaxBracketsSpec)) syntaxBracketsCard

/-- THE TIED CARD OF 'gaugerlaw07.SyntaxTimes'. -/
def syntaxTimesCard : Claim7 := { stood := { row := syntaxTimesRow, standIns := [], harness := (true, "20639d9f0e7952b9f9ff5ad8f1bda015e58c857d53ccda77c93e825a76fd8105"), looks := true }, kinds := [], alts := [], laidByText := true, laidKinds := [.data, .data, .data, .data, .sentinel, .sentinel, .pinned, .pinned], laidTests := true, laidLooks := .later }
def SyntaxTimesCardSaid : Prop := Claim7.holds Tryz.pinned (.plain (OpenSpec.ofChange syntaxTimesSpec)) syntaxTimesCard

/-- THE TIED CARD OF 'gaugerlaw07.SyntaxWrong'. -/
def syntaxWrongCard : Claim7 := { stood := { row := syntaxWrongRow, standIns := [], harness := (true, "20639d9f0e7952b9f9ff5ad8f1bda015e58c857d53ccda77c93e825a76fd8105"), looks := true }, kinds := [], alts := [], laidByText := true, laidKinds := [.data, .data, .data, .data, .sentinel, .sentinel, .pinned, .pinned], laidTests := true, laidLooks := .later }
def SyntaxWrongCardSaid : Prop := Claim7.holds Tryz.pinned (.plain (OpenSpec.ofChange syntaxWrongSpec)) syntaxWrongCard

/-- THE TIED CARD OF 'gaugerlaw07.SyntaxMost'. -/
def syntaxMostCard : Claim7 := { stood := { row := syntaxMostRow, standIns := [], harness := (true, "20639d9f0e7952b9f9ff5ad8f1bda015e58c857d53ccda77c93e825a76fd8105"), looks := true }, kinds := [], alts := [], laidByText := true, laidKinds := [.data, .data, .data, .data, .sentinel, .sentinel, .pinned, .pinned], laidTests := true, laidLooks := .later }
def SyntaxMostCardSaid : Prop := Claim7.holds Tryz.pinned (.plain (OpenSpec.ofChange syntaxMostSpec)) syntaxMostCard

/-- THE SECOND FORM's CARD OF 'gaugerlaw07.SyntaxLengths'. -/
def syntaxLengthsUptoCard : Claim7 := { stood := { row := syntaxLengthsUptoRow, standIns := [], harness := (true, "20639d9f0e7952b9f9ff5ad8f1bda015e58c857d53ccda77c93e825a76fd8105"), looks := true }, kinds := [], alts := [], laidByText := true, laidKinds := [.data, .data, .data, .data, .sentinel, .sentinel, .pinned, .pinned], laidTests := true, laidLooks := .later }
def SyntaxLengthsUptoCardSaid : Prop := Claim7.holds Tryz.pinned (.plain (OpenSpec.upto syntaxLengthsSpec)) syntaxLengthsUptoCard

/-- THE SECOND FORM's CARD OF 'gaugerlaw07.SyntaxBack'. -/
def syntaxBackUptoCard : Claim7 := { stood := { row := syntaxBackUptoRow, standIns := [], harness := (true, "20639d9f0e7952b9f9ff5ad8f1bda015e58c857d53ccda77c93e825a76fd8105"), looks := true }, kinds := [], alts := [], laidByText := true, laidKinds := [.data, .data, .data, .data, .sentinel, .sentinel, .pinned, .pinned], laidTests := true, laidLooks := .later }
def SyntaxBackUptoCardSaid : Prop := Claim7.holds Tryz.pinned (.plain (OpenSpec.upto syntaxBackSpec)) syntaxBackUptoCard

/-- THE SECOND FORM's CARD OF 'gaugerlaw07.SyntaxBrackets'. -/
def syntaxBracketsUptoCard : Claim7 := { stood := { row := syntaxBracketsUptoRow, standIns := [], harness := (true, "20639d9f0e7952b9f9ff5ad8f1bda015e58c857d53ccda77c93e825a76fd8105"), looks := true }, kinds := [], alts := [], laidByText := true, laidKinds := [.data, .data, .data, .data, .sentinel, .sentinel, .pinned, .pinned], laidTests := true, laidLooks := .later }
def SyntaxBracketsUptoCardSaid : Prop := Claim7.holds Tryz.pinned (.plain (OpenSpec.upto syntaxBracketsSpec)) syntaxBracketsUptoCard

/-- THE SECOND FORM's CARD OF 'gaugerlaw07.SyntaxTimes'. -/
def syntaxTimesUptoCard : Claim7 := { stood := { row := syntaxTimesUptoRow, standIns := [], harness := (true, "20639d9f0e7952b9f9ff5ad8f1bda015e58c857d53ccda77c93e825a76fd8105"), looks := true }, kinds := [], alts := [], laidByText := true, laidKinds := [.data, .data, .data, .data, .sentinel, .sentinel, .pinned, .pinned], laidTests := true, laidLooks := .later }
def SyntaxTimesUptoCardSaid : Prop := Claim7.holds Tryz.pinned (.plain (OpenSpec.upto syntaxTimesSpec)) syntaxTimesUptoCard

/-- THE SECOND FORM's CARD OF 'gaugerlaw07.SyntaxWrong'. -/
def syntaxWrongUptoCard : Claim7 := { stood := { row := syntaxWrongUptoRow, standIns := [], harness := (true, "20639d9f0e7952b9f9ff5ad8f1bda015e58c857d53ccda77c93e825a76fd8105"), looks := true }, kinds := [], alts := [], laidByText := true, laidKinds := [.data, .data, .data, .data, .sentinel, .sentinel, .pinned, .pinned], laidTests := true, laidLooks := .later }
def SyntaxWrongUptoCardSaid : Prop := Claim7.holds Tryz.pinned (.plain (OpenSpec.upto syntaxWrongSpec)) syntaxWrongUptoCard

/-- THE SECOND FORM's CARD OF 'gaugerlaw07.SyntaxMost'. -/
def syntaxMostUptoCard : Claim7 := { stood := { row := syntaxMostUptoRow, standIns := [], harness := (true, "20639d9f0e7952b9f9ff5ad8f1bda015e58c857d53ccda77c93e825a76fd8105"), looks := true }, kinds := [], alts := [], laidByText := true, laidKinds := [.data, .data, .data, .data, .sentinel, .sentinel, .pinned, .pinned], laidTests := true, laidLooks := .later }
def SyntaxMostUptoCardSaid : Prop := Claim7.holds Tryz.pinned (.plain (OpenSpec.upto syntaxMostSpec)) syntaxMostUptoCard
end Rows
end Go.Proofs.YtcklkjibhgbhiaaGreatDoor
