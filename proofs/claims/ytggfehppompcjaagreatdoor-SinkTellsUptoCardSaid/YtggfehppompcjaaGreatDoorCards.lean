/-
  DERIVED. GIVEN WITH THE SEED: THE CARDS: each row of YtggfehppompcjaaGreatDoorRows.lean that lists a variable, with what it lists TIED to the program's text (the seventh form; the later family's looks); each row that meets fmt, with fmt's text TOLD by the authors' own Lean function (tested against real Go, not proved from fmt's source: count such statements apart). THE CARD IS WHAT COUNTS. Prove the row's statement (the work); the ties are given (YtggfehppompcjaaGreatDoorTie.lean); close each card by the builder's one call (the guide's Derived/Test/ToyasCard.lean, 'card_holds'). Laid BY PROGRAM, IN A SANDBOX (cutbox-door.mjs). By AI agents, Wed Nov 11 2026. No macro, syntax, notation, axiom, sorry.
-/
import Derived.Test.YtggfehppompcjaaGreatDoorRows
import GoSem.ClaimSeven
namespace Go.Proofs.YtggfehppompcjaaGreatDoor
namespace Rows

/-- THE TIED CARD OF 'gaugerlaw38.SinkChecks'. -/
def sinkChecksCard : Claim7 := { stood := { row := sinkChecksRow, standIns := [], harness := (true, "c18e7acd9d9bde3026cb2cf72ce108181c04ce7f8843504ed093f2724003e13b"), looks := true }, kinds := [], alts := [], laidByText := true, laidKinds := [.data, .data, .data, .data, .pinned], laidTests := true, laidLooks := .later }
def SinkChecksCardSaid : Prop := Claim7.holds Tryz.pinned (.plain (OpenSpec.ofChange sinkChecksSpec)) sinkChecksCard

/-- THE TIED CARD OF 'gaugerlaw38.SinkReads'. -/
def sinkReadsCard : Claim7 := { stood := { row := sinkReadsRow, standIns := [], harness := (true, "c18e7acd9d9bde3026cb2cf72ce108181c04ce7f8843504ed093f2724003e13b"), looks := true }, kinds := [], alts := [], laidByText := true, laidKinds := [.data, .data, .data, .data, .sentinel, .sentinel, .pinned], laidTests := true, laidLooks := .later }
def SinkReadsCardSaid : Prop := Claim7.holds Tryz.pinned (.plain (OpenSpec.ofChange sinkReadsSpec)) sinkReadsCard

/-- THE TIED CARD OF 'gaugerlaw38.SinkTells'. -/
def sinkTellsCard : Claim7 := { stood := { row := sinkTellsRow, standIns := [], harness := (true, "c18e7acd9d9bde3026cb2cf72ce108181c04ce7f8843504ed093f2724003e13b"), looks := true }, kinds := [], alts := [], laidByText := true, laidKinds := [.data, .data, .data, .data, .pinned], laidTests := true, laidLooks := .later }
def SinkTellsCardSaid : Prop := Claim7.holds Tryz.pinned (.plain (OpenSpec.ofChange sinkTellsSpec)) sinkTellsCard

/-- THE TIED CARD OF 'gaugerlaw38.SinkWrong'. -/
def sinkWrongCard : Claim7 := { stood := { row := sinkWrongRow, standIns := [], harness := (true, "c18e7acd9d9bde3026cb2cf72ce108181c04ce7f8843504ed093f2724003e13b"), looks := true }, kinds := [], alts := [], laidByText := true, laidKinds := [.data, .data, .data, .data, .sentinel, .sentinel, .pinned, .pinned], laidTests := true, laidLooks := .later }
def SinkWrongCardSaid : Prop := Claim7.holds Tryz.pinned (.plain (OpenSpec.ofChange sinkWrongSpec)) sinkWrongCard

/-- THE TIED CARD OF 'gaugerlaw38.SinkSmall'. -/
def sinkSmallCard : Claim7 := { stood := { row := sinkSmallRow, standIns := [], harness := (true, "c18e7acd9d9bde3026cb2cf72ce108181c04ce7f8843504ed093f2724003e13b"), looks := true }, kinds := [], alts := [], laidByText := true, laidKinds := [.data, .data, .data, .data, .sentinel, .sentinel, .pinned], laidTests := true, laidLooks := .later }
def SinkSmallCardSaid : Prop := Claim7.holds Tryz.pinned (.plain (OpenSpec.ofChange sinkSmallSpec)) sinkSmallCard

/-- THE SECOND FORM's CARD OF 'gaugerlaw38.SinkChecks'. -/
def sinkChecksUptoCard : Claim7 := { stood := { row := sinkChecksUptoRow, standIns := [], harness := (true, "c18e7acd9d9bde3026cb2cf72ce108181c04ce7f8843504ed093f2724003e13b"), looks := true }, kinds := [], alts := [], laidByText := true, laidKinds := [.data, .data, .data, .data, .pinned], laidTests := true, laidLooks := .later }
def SinkChecksUptoCardSaid : Prop := Claim7.holds Tryz.pinned (.plain (OpenSpec.upto sinkChecksSpec)) sinkChecksUptoCard

/-- THE SECOND FORM's CARD OF 'gaugerlaw38.SinkReads'. -/
def sinkReadsUptoCard : Claim7 := { stood := { row := sinkReadsUptoRow, standIns := [], harness := (true, "c18e7acd9d9bde3026cb2cf72ce108181c04ce7f8843504ed093f2724003e13b"), looks := true }, kinds := [], alts := [], laidByText := true, laidKinds := [.data, .data, .data, .data, .sentinel, .sentinel, .pinned], laidTests := true, laidLooks := .later }
def SinkReadsUptoCardSaid : Prop := Claim7.holds Tryz.pinned (.plain (OpenSpec.upto sinkReadsSpec)) sinkReadsUptoCard

/-- THE SECOND FORM's CARD OF 'gaugerlaw38.SinkTells'. -/
def sinkTellsUptoCard : Claim7 := { stood := { row := sinkTellsUptoRow, standIns := [], harness := (true, "c18e7acd9d9bde3026cb2cf72ce108181c04ce7f8843504ed093f2724003e13b"), looks := true }, kinds := [], alts := [], laidByText := true, laidKinds := [.data, .data, .data, .data, .pinned], laidTests := true, laidLooks := .later }
def SinkTellsUptoCardSaid : Prop := Claim7.holds Tryz.pinned (.plain (OpenSpec.upto sinkTellsSpec)) sinkTellsUptoCard

/-- THE SECOND FORM's CARD OF 'gaugerlaw38.SinkWrong'. -/
def sinkWrongUptoCard : Claim7 := { stood := { row := sinkWrongUptoRow, standIns := [], harness := (true, "c18e7acd9d9bde3026cb2cf72ce108181c04ce7f8843504ed093f2724003e13b"), looks := true }, kinds := [], alts := [], laidByText := true, laidKinds := [.data, .data, .data, .data, .sentinel, .sentinel, .pinned, .pinned], laidTests := true, laidLooks := .later }
def SinkWrongUptoCardSaid : Prop := Claim7.holds Tryz.pinned (.plain (OpenSpec.upto sinkWrongSpec)) sinkWrongUptoCard

/-- THE SECOND FORM's CARD OF 'gaugerlaw38.SinkSmall'. -/
def sinkSmallUptoCard : Claim7 := { stood := { row := sinkSmallUptoRow, standIns := [], harness := (true, "c18e7acd9d9bde3026cb2cf72ce108181c04ce7f8843504ed093f2724003e13b"), looks := true }, kinds := [], alts := [], laidByText := true, laidKinds := [.data, .data, .data, .data, .sentinel, .sentinel, .pinned], laidTests := true, laidLooks := .later }
def SinkSmallUptoCardSaid : Prop := Claim7.holds Tryz.pinned (.plain (OpenSpec.upto sinkSmallSpec)) sinkSmallUptoCard
end Rows
end Go.Proofs.YtggfehppompcjaaGreatDoor
