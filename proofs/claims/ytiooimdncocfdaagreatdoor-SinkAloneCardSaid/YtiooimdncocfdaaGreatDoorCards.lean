/-
  DERIVED. GIVEN WITH THE SEED: THE CARDS: each row of YtiooimdncocfdaaGreatDoorRows.lean that lists a variable, with what it lists TIED to the program's text (the seventh form; the later family's looks); each row that meets fmt, with fmt's text TOLD by the authors' own Lean function (tested against real Go, not proved from fmt's source: count such statements apart). THE CARD IS WHAT COUNTS. Prove the row's statement (the work); the ties are given (YtiooimdncocfdaaGreatDoorTie.lean); close each card by the builder's one call (the guide's Derived/Test/ToyasCard.lean, 'card_holds'). Laid BY PROGRAM, IN A SANDBOX (cutbox-door.mjs). By AI agents, Wed Nov 11 2026. No macro, syntax, notation, axiom, sorry.
-/
import Derived.Test.YtiooimdncocfdaaGreatDoorRows
import GoSem.ClaimSeven
namespace Go.Proofs.YtiooimdncocfdaaGreatDoor
namespace Rows

/-- THE TIED CARD OF 'gaugerlaw06.ClassWrong'. -/
def classWrongCard : Claim7 := { stood := { row := classWrongRow, standIns := [], harness := (true, "6ae79495dbf1cc32bdc91338380d428c7471926ce0aa598250999e6977df25b7"), looks := true }, kinds := [], alts := [], laidByText := true, laidKinds := [.data, .data, .data, .data, .sentinel, .sentinel, .pinned, .pinned], laidTests := true, laidLooks := .later }
def ClassWrongCardSaid : Prop := Claim7.holds Tryz.pinned (.plain (OpenSpec.ofChange classWrongSpec)) classWrongCard

/-- THE TIED CARD OF 'gaugerlaw38.SinkChecks'. -/
def sinkChecksCard : Claim7 := { stood := { row := sinkChecksRow, standIns := [], harness := (true, "6ae79495dbf1cc32bdc91338380d428c7471926ce0aa598250999e6977df25b7"), looks := true }, kinds := [], alts := [], laidByText := true, laidKinds := [.data, .data, .data, .data, .pinned], laidTests := true, laidLooks := .later }
def SinkChecksCardSaid : Prop := Claim7.holds Tryz.pinned (.plain (OpenSpec.ofChange sinkChecksSpec)) sinkChecksCard

/-- THE TIED CARD OF 'gaugerlaw38.SinkWhole'. -/
def sinkWholeCard : Claim7 := { stood := { row := sinkWholeRow, standIns := [], harness := (true, "6ae79495dbf1cc32bdc91338380d428c7471926ce0aa598250999e6977df25b7"), looks := true }, kinds := [], alts := [], laidByText := true, laidKinds := [.data, .data, .data, .data, .pinned], laidTests := true, laidLooks := .later }
def SinkWholeCardSaid : Prop := Claim7.holds Tryz.pinned (.plain (OpenSpec.ofChange sinkWholeSpec)) sinkWholeCard

/-- THE TIED CARD OF 'gaugerlaw38.SinkReads'. -/
def sinkReadsCard : Claim7 := { stood := { row := sinkReadsRow, standIns := [], harness := (true, "6ae79495dbf1cc32bdc91338380d428c7471926ce0aa598250999e6977df25b7"), looks := true }, kinds := [], alts := [], laidByText := true, laidKinds := [.data, .data, .data, .data, .sentinel, .sentinel, .pinned], laidTests := true, laidLooks := .later }
def SinkReadsCardSaid : Prop := Claim7.holds Tryz.pinned (.plain (OpenSpec.ofChange sinkReadsSpec)) sinkReadsCard

/-- THE TIED CARD OF 'gaugerlaw38.SinkRules'. -/
def sinkRulesCard : Claim7 := { stood := { row := sinkRulesRow, standIns := [], harness := (true, "6ae79495dbf1cc32bdc91338380d428c7471926ce0aa598250999e6977df25b7"), looks := true }, kinds := [], alts := [], laidByText := true, laidKinds := [.data, .data, .data, .data, .pinned], laidTests := true, laidLooks := .later }
def SinkRulesCardSaid : Prop := Claim7.holds Tryz.pinned (.plain (OpenSpec.ofChange sinkRulesSpec)) sinkRulesCard

/-- THE TIED CARD OF 'gaugerlaw38.SinkFrom'. -/
def sinkFromCard : Claim7 := { stood := { row := sinkFromRow, standIns := [], harness := (true, "6ae79495dbf1cc32bdc91338380d428c7471926ce0aa598250999e6977df25b7"), looks := true }, kinds := [], alts := [], laidByText := true, laidKinds := [.data, .data, .data, .data, .pinned], laidTests := true, laidLooks := .later }
def SinkFromCardSaid : Prop := Claim7.holds Tryz.pinned (.plain (OpenSpec.ofChange sinkFromSpec)) sinkFromCard

/-- THE TIED CARD OF 'gaugerlaw38.SinkTells'. -/
def sinkTellsCard : Claim7 := { stood := { row := sinkTellsRow, standIns := [], harness := (true, "6ae79495dbf1cc32bdc91338380d428c7471926ce0aa598250999e6977df25b7"), looks := true }, kinds := [], alts := [], laidByText := true, laidKinds := [.data, .data, .data, .data, .pinned], laidTests := true, laidLooks := .later }
def SinkTellsCardSaid : Prop := Claim7.holds Tryz.pinned (.plain (OpenSpec.ofChange sinkTellsSpec)) sinkTellsCard

/-- THE TIED CARD OF 'gaugerlaw38.SinkAlone'. -/
def sinkAloneCard : Claim7 := { stood := { row := sinkAloneRow, standIns := [], harness := (true, "6ae79495dbf1cc32bdc91338380d428c7471926ce0aa598250999e6977df25b7"), looks := true }, kinds := [], alts := [], laidByText := true, laidKinds := [.data, .data, .data, .data, .pinned], laidTests := true, laidLooks := .later }
def SinkAloneCardSaid : Prop := Claim7.holds Tryz.pinned (.plain (OpenSpec.ofChange sinkAloneSpec)) sinkAloneCard

/-- THE TIED CARD OF 'gaugerlaw38.SinkBack'. -/
def sinkBackCard : Claim7 := { stood := { row := sinkBackRow, standIns := [], harness := (true, "6ae79495dbf1cc32bdc91338380d428c7471926ce0aa598250999e6977df25b7"), looks := true }, kinds := [], alts := [], laidByText := true, laidKinds := [.data, .data, .data, .data, .sentinel, .sentinel, .listed, .data, .pinned], laidTests := true, laidLooks := .later }
def SinkBackCardSaid : Prop := Claim7.holds Tryz.pinned (.plain (OpenSpec.ofChange sinkBackSpec)) sinkBackCard

/-- THE TIED CARD OF 'gaugerlaw38.SinkWrong'. -/
def sinkWrongCard : Claim7 := { stood := { row := sinkWrongRow, standIns := [], harness := (true, "6ae79495dbf1cc32bdc91338380d428c7471926ce0aa598250999e6977df25b7"), looks := true }, kinds := [], alts := [], laidByText := true, laidKinds := [.data, .data, .data, .data, .sentinel, .sentinel, .pinned, .pinned], laidTests := true, laidLooks := .later }
def SinkWrongCardSaid : Prop := Claim7.holds Tryz.pinned (.plain (OpenSpec.ofChange sinkWrongSpec)) sinkWrongCard

/-- THE TIED CARD OF 'gaugerlaw38.SinkSmall'. -/
def sinkSmallCard : Claim7 := { stood := { row := sinkSmallRow, standIns := [], harness := (true, "6ae79495dbf1cc32bdc91338380d428c7471926ce0aa598250999e6977df25b7"), looks := true }, kinds := [], alts := [], laidByText := true, laidKinds := [.data, .data, .data, .data, .sentinel, .sentinel, .pinned], laidTests := true, laidLooks := .later }
def SinkSmallCardSaid : Prop := Claim7.holds Tryz.pinned (.plain (OpenSpec.ofChange sinkSmallSpec)) sinkSmallCard

/-- THE SECOND FORM's CARD OF 'gaugerlaw06.ClassWrong'. -/
def classWrongUptoCard : Claim7 := { stood := { row := classWrongUptoRow, standIns := [], harness := (true, "6ae79495dbf1cc32bdc91338380d428c7471926ce0aa598250999e6977df25b7"), looks := true }, kinds := [], alts := [], laidByText := true, laidKinds := [.data, .data, .data, .data, .sentinel, .sentinel, .pinned, .pinned], laidTests := true, laidLooks := .later }
def ClassWrongUptoCardSaid : Prop := Claim7.holds Tryz.pinned (.plain (OpenSpec.upto classWrongSpec)) classWrongUptoCard

/-- THE SECOND FORM's CARD OF 'gaugerlaw38.SinkChecks'. -/
def sinkChecksUptoCard : Claim7 := { stood := { row := sinkChecksUptoRow, standIns := [], harness := (true, "6ae79495dbf1cc32bdc91338380d428c7471926ce0aa598250999e6977df25b7"), looks := true }, kinds := [], alts := [], laidByText := true, laidKinds := [.data, .data, .data, .data, .pinned], laidTests := true, laidLooks := .later }
def SinkChecksUptoCardSaid : Prop := Claim7.holds Tryz.pinned (.plain (OpenSpec.upto sinkChecksSpec)) sinkChecksUptoCard

/-- THE SECOND FORM's CARD OF 'gaugerlaw38.SinkWhole'. -/
def sinkWholeUptoCard : Claim7 := { stood := { row := sinkWholeUptoRow, standIns := [], harness := (true, "6ae79495dbf1cc32bdc91338380d428c7471926ce0aa598250999e6977df25b7"), looks := true }, kinds := [], alts := [], laidByText := true, laidKinds := [.data, .data, .data, .data, .pinned], laidTests := true, laidLooks := .later }
def SinkWholeUptoCardSaid : Prop := Claim7.holds Tryz.pinned (.plain (OpenSpec.upto sinkWholeSpec)) sinkWholeUptoCard

/-- THE SECOND FORM's CARD OF 'gaugerlaw38.SinkReads'. -/
def sinkReadsUptoCard : Claim7 := { stood := { row := sinkReadsUptoRow, standIns := [], harness := (true, "6ae79495dbf1cc32bdc91338380d428c7471926ce0aa598250999e6977df25b7"), looks := true }, kinds := [], alts := [], laidByText := true, laidKinds := [.data, .data, .data, .data, .sentinel, .sentinel, .pinned], laidTests := true, laidLooks := .later }
def SinkReadsUptoCardSaid : Prop := Claim7.holds Tryz.pinned (.plain (OpenSpec.upto sinkReadsSpec)) sinkReadsUptoCard

/-- THE SECOND FORM's CARD OF 'gaugerlaw38.SinkRules'. -/
def sinkRulesUptoCard : Claim7 := { stood := { row := sinkRulesUptoRow, standIns := [], harness := (true, "6ae79495dbf1cc32bdc91338380d428c7471926ce0aa598250999e6977df25b7"), looks := true }, kinds := [], alts := [], laidByText := true, laidKinds := [.data, .data, .data, .data, .pinned], laidTests := true, laidLooks := .later }
def SinkRulesUptoCardSaid : Prop := Claim7.holds Tryz.pinned (.plain (OpenSpec.upto sinkRulesSpec)) sinkRulesUptoCard

/-- THE SECOND FORM's CARD OF 'gaugerlaw38.SinkFrom'. -/
def sinkFromUptoCard : Claim7 := { stood := { row := sinkFromUptoRow, standIns := [], harness := (true, "6ae79495dbf1cc32bdc91338380d428c7471926ce0aa598250999e6977df25b7"), looks := true }, kinds := [], alts := [], laidByText := true, laidKinds := [.data, .data, .data, .data, .pinned], laidTests := true, laidLooks := .later }
def SinkFromUptoCardSaid : Prop := Claim7.holds Tryz.pinned (.plain (OpenSpec.upto sinkFromSpec)) sinkFromUptoCard

/-- THE SECOND FORM's CARD OF 'gaugerlaw38.SinkTells'. -/
def sinkTellsUptoCard : Claim7 := { stood := { row := sinkTellsUptoRow, standIns := [], harness := (true, "6ae79495dbf1cc32bdc91338380d428c7471926ce0aa598250999e6977df25b7"), looks := true }, kinds := [], alts := [], laidByText := true, laidKinds := [.data, .data, .data, .data, .pinned], laidTests := true, laidLooks := .later }
def SinkTellsUptoCardSaid : Prop := Claim7.holds Tryz.pinned (.plain (OpenSpec.upto sinkTellsSpec)) sinkTellsUptoCard

/-- THE SECOND FORM's CARD OF 'gaugerlaw38.SinkAlone'. -/
def sinkAloneUptoCard : Claim7 := { stood := { row := sinkAloneUptoRow, standIns := [], harness := (true, "6ae79495dbf1cc32bdc91338380d428c7471926ce0aa598250999e6977df25b7"), looks := true }, kinds := [], alts := [], laidByText := true, laidKinds := [.data, .data, .data, .data, .pinned], laidTests := true, laidLooks := .later }
def SinkAloneUptoCardSaid : Prop := Claim7.holds Tryz.pinned (.plain (OpenSpec.upto sinkAloneSpec)) sinkAloneUptoCard

/-- THE SECOND FORM's CARD OF 'gaugerlaw38.SinkBack'. -/
def sinkBackUptoCard : Claim7 := { stood := { row := sinkBackUptoRow, standIns := [], harness := (true, "6ae79495dbf1cc32bdc91338380d428c7471926ce0aa598250999e6977df25b7"), looks := true }, kinds := [], alts := [], laidByText := true, laidKinds := [.data, .data, .data, .data, .sentinel, .sentinel, .listed, .data, .pinned], laidTests := true, laidLooks := .later }
def SinkBackUptoCardSaid : Prop := Claim7.holds Tryz.pinned (.plain (OpenSpec.upto sinkBackSpec)) sinkBackUptoCard

/-- THE SECOND FORM's CARD OF 'gaugerlaw38.SinkWrong'. -/
def sinkWrongUptoCard : Claim7 := { stood := { row := sinkWrongUptoRow, standIns := [], harness := (true, "6ae79495dbf1cc32bdc91338380d428c7471926ce0aa598250999e6977df25b7"), looks := true }, kinds := [], alts := [], laidByText := true, laidKinds := [.data, .data, .data, .data, .sentinel, .sentinel, .pinned, .pinned], laidTests := true, laidLooks := .later }
def SinkWrongUptoCardSaid : Prop := Claim7.holds Tryz.pinned (.plain (OpenSpec.upto sinkWrongSpec)) sinkWrongUptoCard

/-- THE SECOND FORM's CARD OF 'gaugerlaw38.SinkSmall'. -/
def sinkSmallUptoCard : Claim7 := { stood := { row := sinkSmallUptoRow, standIns := [], harness := (true, "6ae79495dbf1cc32bdc91338380d428c7471926ce0aa598250999e6977df25b7"), looks := true }, kinds := [], alts := [], laidByText := true, laidKinds := [.data, .data, .data, .data, .sentinel, .sentinel, .pinned], laidTests := true, laidLooks := .later }
def SinkSmallUptoCardSaid : Prop := Claim7.holds Tryz.pinned (.plain (OpenSpec.upto sinkSmallSpec)) sinkSmallUptoCard
end Rows
end Go.Proofs.YtiooimdncocfdaaGreatDoor
