/-
  DERIVED. GIVEN WITH THE SEED: THE CARDS: each row of YtmagojckhfkcdaaGreatDoorRows.lean that lists a variable, with what it lists TIED to the program's text (the seventh form; the later family's looks); each row that meets fmt, with fmt's text TOLD by the authors' own Lean function (tested against real Go, not proved from fmt's source: count such statements apart). THE CARD IS WHAT COUNTS. Prove the row's statement (the work); the ties are given (YtmagojckhfkcdaaGreatDoorTie.lean); close each card by the builder's one call (the guide's Derived/Test/ToyasCard.lean, 'card_holds'). Laid BY PROGRAM, IN A SANDBOX (cutbox-door.mjs). By AI agents, Wed Nov 11 2026. No macro, syntax, notation, axiom, sorry.
-/
import Derived.Test.YtmagojckhfkcdaaGreatDoorRows
import GoSem.ClaimSeven
namespace Go.Proofs.YtmagojckhfkcdaaGreatDoor
namespace Rows

/-- THE TIED CARD OF 'gaugerlaw38.SinkWrong'. -/
def sinkWrongCard : Claim7 := { stood := { row := sinkWrongRow, standIns := [], harness := (true, "1adaca2dad43336fbe75d210e654d4c3adf44e6c700f8650e33ea51947d1011c"), looks := true }, kinds := [], alts := [], laidByText := true, laidKinds := [.data, .data, .data, .data, .sentinel, .sentinel, .pinned, .pinned], laidTests := true, laidLooks := .later }
def SinkWrongCardSaid : Prop := Claim7.holds Tryz.pinned (.plain (OpenSpec.ofChange sinkWrongSpec)) sinkWrongCard

/-- THE SECOND FORM's CARD OF 'gaugerlaw38.SinkWrong'. -/
def sinkWrongUptoCard : Claim7 := { stood := { row := sinkWrongUptoRow, standIns := [], harness := (true, "1adaca2dad43336fbe75d210e654d4c3adf44e6c700f8650e33ea51947d1011c"), looks := true }, kinds := [], alts := [], laidByText := true, laidKinds := [.data, .data, .data, .data, .sentinel, .sentinel, .pinned, .pinned], laidTests := true, laidLooks := .later }
def SinkWrongUptoCardSaid : Prop := Claim7.holds Tryz.pinned (.plain (OpenSpec.upto sinkWrongSpec)) sinkWrongUptoCard
end Rows
end Go.Proofs.YtmagojckhfkcdaaGreatDoor
