/-
  DERIVED. GIVEN WITH THE SEED: THE CARDS: each row of YtdgfldeeflmnmaaGreatDoorRows.lean that lists a variable, with what it lists TIED to the program's text (the seventh form; the later family's looks); each row that meets fmt, with fmt's text TOLD by the authors' own Lean function (tested against real Go, not proved from fmt's source: count such statements apart). THE CARD IS WHAT COUNTS. Prove the row's statement (the work); the ties are given (YtdgfldeeflmnmaaGreatDoorTie.lean); close each card by the builder's one call (the guide's Derived/Test/ToyasCard.lean, 'card_holds'). Laid BY PROGRAM, IN A SANDBOX (cutbox-door.mjs). By AI agents, Wed Nov 11 2026. No macro, syntax, notation, axiom, sorry.
-/
import Derived.Test.YtdgfldeeflmnmaaGreatDoorRows
import GoSem.ClaimSeven
namespace Go.Proofs.YtdgfldeeflmnmaaGreatDoor
namespace Rows

/-- THE TIED CARD OF 'gaugerlaw38.SinkWrong'. -/
def sinkWrongCard : Claim7 := { stood := { row := sinkWrongRow, standIns := [], harness := (true, "831f7bba77fe6bafb999f94824063187ed32b3b694a5a1fdffb32824cb0edd9e"), looks := true }, kinds := [], alts := [], laidByText := true, laidKinds := [.data, .data, .data, .data, .sentinel, .sentinel, .pinned, .pinned], laidTests := true, laidLooks := .later }
def SinkWrongCardSaid : Prop := Claim7.holds Tryz.pinned (.plain (OpenSpec.ofChange sinkWrongSpec)) sinkWrongCard

/-- THE TIED CARD OF 'gaugerlaw38.SinkSmall'. -/
def sinkSmallCard : Claim7 := { stood := { row := sinkSmallRow, standIns := [], harness := (true, "831f7bba77fe6bafb999f94824063187ed32b3b694a5a1fdffb32824cb0edd9e"), looks := true }, kinds := [], alts := [], laidByText := true, laidKinds := [.data, .data, .data, .data, .sentinel, .sentinel, .pinned], laidTests := true, laidLooks := .later }
def SinkSmallCardSaid : Prop := Claim7.holds Tryz.pinned (.plain (OpenSpec.ofChange sinkSmallSpec)) sinkSmallCard

/-- THE SECOND FORM's CARD OF 'gaugerlaw38.SinkWrong'. -/
def sinkWrongUptoCard : Claim7 := { stood := { row := sinkWrongUptoRow, standIns := [], harness := (true, "831f7bba77fe6bafb999f94824063187ed32b3b694a5a1fdffb32824cb0edd9e"), looks := true }, kinds := [], alts := [], laidByText := true, laidKinds := [.data, .data, .data, .data, .sentinel, .sentinel, .pinned, .pinned], laidTests := true, laidLooks := .later }
def SinkWrongUptoCardSaid : Prop := Claim7.holds Tryz.pinned (.plain (OpenSpec.upto sinkWrongSpec)) sinkWrongUptoCard

/-- THE SECOND FORM's CARD OF 'gaugerlaw38.SinkSmall'. -/
def sinkSmallUptoCard : Claim7 := { stood := { row := sinkSmallUptoRow, standIns := [], harness := (true, "831f7bba77fe6bafb999f94824063187ed32b3b694a5a1fdffb32824cb0edd9e"), looks := true }, kinds := [], alts := [], laidByText := true, laidKinds := [.data, .data, .data, .data, .sentinel, .sentinel, .pinned], laidTests := true, laidLooks := .later }
def SinkSmallUptoCardSaid : Prop := Claim7.holds Tryz.pinned (.plain (OpenSpec.upto sinkSmallSpec)) sinkSmallUptoCard
end Rows
end Go.Proofs.YtdgfldeeflmnmaaGreatDoor
