/-
  DERIVED. GIVEN WITH THE SEED: THE CARDS: each row of YtkjilodmmcefbaaGreatDoorRows.lean that lists a variable, with what it lists TIED to the program's text (the seventh form; the later family's looks); each row that meets fmt, with fmt's text TOLD by the authors' own Lean function (tested against real Go, not proved from fmt's source: count such statements apart). THE CARD IS WHAT COUNTS. Prove the row's statement (the work); the ties are given (YtkjilodmmcefbaaGreatDoorTie.lean); close each card by the builder's one call (the guide's Derived/Test/ToyasCard.lean, 'card_holds'). Laid BY PROGRAM, IN A SANDBOX (cutbox-door.mjs). By AI agents, Wed Nov 11 2026. No macro, syntax, notation, axiom, sorry.
-/
import Derived.Test.YtkjilodmmcefbaaGreatDoorRows
import GoSem.ClaimSeven
namespace Go.Proofs.YtkjilodmmcefbaaGreatDoor
namespace Rows

/-- THE TIED CARD OF 'gaugerlaw06.ClassReads'. -/
def classReadsCard : Claim7 := { stood := { row := classReadsRow, standIns := [], harness := (true, "0a793691a7f84bb03da5e0a998e47a64f3cc577a7c6509c87a84f3d1c2a75802"), looks := true }, kinds := [], alts := [], laidByText := true, laidKinds := [.data, .data, .data, .data, .sentinel, .sentinel, .pinned, .pinned], laidTests := true, laidLooks := .later }
def ClassReadsCardSaid : Prop := Claim7.holds Tryz.pinned (.plain (OpenSpec.ofChange classReadsSpec)) classReadsCard

/-- THE TIED CARD OF 'gaugerlaw06.ClassBack'. -/
def classBackCard : Claim7 := { stood := { row := classBackRow, standIns := [], harness := (true, "0a793691a7f84bb03da5e0a998e47a64f3cc577a7c6509c87a84f3d1c2a75802"), looks := true }, kinds := [], alts := [], laidByText := true, laidKinds := [.data, .data, .data, .data, .sentinel, .sentinel, .pinned, .pinned], laidTests := true, laidLooks := .later }
def ClassBackCardSaid : Prop := Claim7.holds Tryz.pinned (.plain (OpenSpec.ofChange classBackSpec)) classBackCard

/-- THE TIED CARD OF 'gaugerlaw06.ClassNames'. -/
def classNamesCard : Claim7 := { stood := { row := classNamesRow, standIns := [], harness := (true, "0a793691a7f84bb03da5e0a998e47a64f3cc577a7c6509c87a84f3d1c2a75802"), looks := true }, kinds := [], alts := [], laidByText := true, laidKinds := [.data, .data, .data, .data, .sentinel, .sentinel, .pinned, .pinned], laidTests := true, laidLooks := .later }
def ClassNamesCardSaid : Prop := Claim7.holds Tryz.pinned (.plain (OpenSpec.ofChange classNamesSpec)) classNamesCard

/-- THE TIED CARD OF 'gaugerlaw06.ClassNext'. -/
def classNextCard : Claim7 := { stood := { row := classNextRow, standIns := [], harness := (true, "0a793691a7f84bb03da5e0a998e47a64f3cc577a7c6509c87a84f3d1c2a75802"), looks := true }, kinds := [], alts := [], laidByText := true, laidKinds := [.data, .data, .data, .data, .sentinel, .sentinel, .pinned, .pinned], laidTests := true, laidLooks := .later }
def ClassNextCardSaid : Prop := Claim7.holds Tryz.pinned (.plain (OpenSpec.ofChange classNextSpec)) classNextCard

/-- THE TIED CARD OF 'gaugerlaw06.ClassTells'. -/
def classTellsCard : Claim7 := { stood := { row := classTellsRow, standIns := [], harness := (true, "0a793691a7f84bb03da5e0a998e47a64f3cc577a7c6509c87a84f3d1c2a75802"), looks := true }, kinds := [], alts := [], laidByText := true, laidKinds := [.data, .data, .data, .data, .sentinel, .sentinel, .pinned, .pinned], laidTests := true, laidLooks := .later }
def ClassTellsCardSaid : Prop := Claim7.holds Tryz.pinned (.plain (OpenSpec.ofChange classTellsSpec)) classTellsCard

/-- THE TIED CARD OF 'gaugerlaw06.ClassJoins'. -/
def classJoinsCard : Claim7 := { stood := { row := classJoinsRow, standIns := [], harness := (true, "0a793691a7f84bb03da5e0a998e47a64f3cc577a7c6509c87a84f3d1c2a75802"), looks := true }, kinds := [], alts := [], laidByText := true, laidKinds := [.data, .data, .data, .data, .sentinel, .sentinel, .pinned, .pinned], laidTests := true, laidLooks := .later }
def ClassJoinsCardSaid : Prop := Claim7.holds Tryz.pinned (.plain (OpenSpec.ofChange classJoinsSpec)) classJoinsCard

/-- THE TIED CARD OF 'gaugerlaw06.ClassOf'. -/
def classOfCard : Claim7 := { stood := { row := classOfRow, standIns := [], harness := (true, "0a793691a7f84bb03da5e0a998e47a64f3cc577a7c6509c87a84f3d1c2a75802"), looks := true }, kinds := [], alts := [], laidByText := true, laidKinds := [.data, .data, .data, .data, .sentinel, .sentinel, .pinned, .pinned], laidTests := true, laidLooks := .later }
def ClassOfCardSaid : Prop := Claim7.holds Tryz.pinned (.plain (OpenSpec.ofChange classOfSpec)) classOfCard

/-- THE TIED CARD OF 'gaugerlaw06.ClassSmall'. -/
def classSmallCard : Claim7 := { stood := { row := classSmallRow, standIns := [], harness := (true, "0a793691a7f84bb03da5e0a998e47a64f3cc577a7c6509c87a84f3d1c2a75802"), looks := true }, kinds := [], alts := [], laidByText := true, laidKinds := [.data, .data, .data, .data, .sentinel, .sentinel, .pinned, .pinned], laidTests := true, laidLooks := .later }
def ClassSmallCardSaid : Prop := Claim7.holds Tryz.pinned (.plain (OpenSpec.ofChange classSmallSpec)) classSmallCard

/-- THE TIED CARD OF 'gaugerlaw06.ClassAlgebra'. -/
def classAlgebraCard : Claim7 := { stood := { row := classAlgebraRow, standIns := [], harness := (true, "0a793691a7f84bb03da5e0a998e47a64f3cc577a7c6509c87a84f3d1c2a75802"), looks := true }, kinds := [], alts := [], laidByText := true, laidKinds := [.data, .data, .data, .data, .sentinel, .sentinel, .pinned, .pinned], laidTests := true, laidLooks := .later }
def ClassAlgebraCardSaid : Prop := Claim7.holds Tryz.pinned (.plain (OpenSpec.ofChange classAlgebraSpec)) classAlgebraCard

/-- THE TIED CARD OF 'gaugerlaw06.ClassWrong'. -/
def classWrongCard : Claim7 := { stood := { row := classWrongRow, standIns := [], harness := (true, "0a793691a7f84bb03da5e0a998e47a64f3cc577a7c6509c87a84f3d1c2a75802"), looks := true }, kinds := [], alts := [], laidByText := true, laidKinds := [.data, .data, .data, .data, .sentinel, .sentinel, .pinned, .pinned], laidTests := true, laidLooks := .later }
def ClassWrongCardSaid : Prop := Claim7.holds Tryz.pinned (.plain (OpenSpec.ofChange classWrongSpec)) classWrongCard

/-- THE SECOND FORM's CARD OF 'gaugerlaw06.ClassReads'. -/
def classReadsUptoCard : Claim7 := { stood := { row := classReadsUptoRow, standIns := [], harness := (true, "0a793691a7f84bb03da5e0a998e47a64f3cc577a7c6509c87a84f3d1c2a75802"), looks := true }, kinds := [], alts := [], laidByText := true, laidKinds := [.data, .data, .data, .data, .sentinel, .sentinel, .pinned, .pinned], laidTests := true, laidLooks := .later }
def ClassReadsUptoCardSaid : Prop := Claim7.holds Tryz.pinned (.plain (OpenSpec.upto classReadsSpec)) classReadsUptoCard

/-- THE SECOND FORM's CARD OF 'gaugerlaw06.ClassBack'. -/
def classBackUptoCard : Claim7 := { stood := { row := classBackUptoRow, standIns := [], harness := (true, "0a793691a7f84bb03da5e0a998e47a64f3cc577a7c6509c87a84f3d1c2a75802"), looks := true }, kinds := [], alts := [], laidByText := true, laidKinds := [.data, .data, .data, .data, .sentinel, .sentinel, .pinned, .pinned], laidTests := true, laidLooks := .later }
def ClassBackUptoCardSaid : Prop := Claim7.holds Tryz.pinned (.plain (OpenSpec.upto classBackSpec)) classBackUptoCard

/-- THE SECOND FORM's CARD OF 'gaugerlaw06.ClassNames'. -/
def classNamesUptoCard : Claim7 := { stood := { row := classNamesUptoRow, standIns := [], harness := (true, "0a793691a7f84bb03da5e0a998e47a64f3cc577a7c6509c87a84f3d1c2a75802"), looks := true }, kinds := [], alts := [], laidByText := true, laidKinds := [.data, .data, .data, .data, .sentinel, .sentinel, .pinned, .pinned], laidTests := true, laidLooks := .later }
def ClassNamesUptoCardSaid : Prop := Claim7.holds Tryz.pinned (.plain (OpenSpec.upto classNamesSpec)) classNamesUptoCard

/-- THE SECOND FORM's CARD OF 'gaugerlaw06.ClassNext'. -/
def classNextUptoCard : Claim7 := { stood := { row := classNextUptoRow, standIns := [], harness := (true, "0a793691a7f84bb03da5e0a998e47a64f3cc577a7c6509c87a84f3d1c2a75802"), looks := true }, kinds := [], alts := [], laidByText := true, laidKinds := [.data, .data, .data, .data, .sentinel, .sentinel, .pinned, .pinned], laidTests := true, laidLooks := .later }
def ClassNextUptoCardSaid : Prop := Claim7.holds Tryz.pinned (.plain (OpenSpec.upto classNextSpec)) classNextUptoCard

/-- THE SECOND FORM's CARD OF 'gaugerlaw06.ClassTells'. -/
def classTellsUptoCard : Claim7 := { stood := { row := classTellsUptoRow, standIns := [], harness := (true, "0a793691a7f84bb03da5e0a998e47a64f3cc577a7c6509c87a84f3d1c2a75802"), looks := true }, kinds := [], alts := [], laidByText := true, laidKinds := [.data, .data, .data, .data, .sentinel, .sentinel, .pinned, .pinned], laidTests := true, laidLooks := .later }
def ClassTellsUptoCardSaid : Prop := Claim7.holds Tryz.pinned (.plain (OpenSpec.upto classTellsSpec)) classTellsUptoCard

/-- THE SECOND FORM's CARD OF 'gaugerlaw06.ClassJoins'. -/
def classJoinsUptoCard : Claim7 := { stood := { row := classJoinsUptoRow, standIns := [], harness := (true, "0a793691a7f84bb03da5e0a998e47a64f3cc577a7c6509c87a84f3d1c2a75802"), looks := true }, kinds := [], alts := [], laidByText := true, laidKinds := [.data, .data, .data, .data, .sentinel, .sentinel, .pinned, .pinned], laidTests := true, laidLooks := .later }
def ClassJoinsUptoCardSaid : Prop := Claim7.holds Tryz.pinned (.plain (OpenSpec.upto classJoinsSpec)) classJoinsUptoCard

/-- THE SECOND FORM's CARD OF 'gaugerlaw06.ClassOf'. -/
def classOfUptoCard : Claim7 := { stood := { row := classOfUptoRow, standIns := [], harness := (true, "0a793691a7f84bb03da5e0a998e47a64f3cc577a7c6509c87a84f3d1c2a75802"), looks := true }, kinds := [], alts := [], laidByText := true, laidKinds := [.data, .data, .data, .data, .sentinel, .sentinel, .pinned, .pinned], laidTests := true, laidLooks := .later }
def ClassOfUptoCardSaid : Prop := Claim7.holds Tryz.pinned (.plain (OpenSpec.upto classOfSpec)) classOfUptoCard

/-- THE SECOND FORM's CARD OF 'gaugerlaw06.ClassSmall'. -/
def classSmallUptoCard : Claim7 := { stood := { row := classSmallUptoRow, standIns := [], harness := (true, "0a793691a7f84bb03da5e0a998e47a64f3cc577a7c6509c87a84f3d1c2a75802"), looks := true }, kinds := [], alts := [], laidByText := true, laidKinds := [.data, .data, .data, .data, .sentinel, .sentinel, .pinned, .pinned], laidTests := true, laidLooks := .later }
def ClassSmallUptoCardSaid : Prop := Claim7.holds Tryz.pinned (.plain (OpenSpec.upto classSmallSpec)) classSmallUptoCard

/-- THE SECOND FORM's CARD OF 'gaugerlaw06.ClassAlgebra'. -/
def classAlgebraUptoCard : Claim7 := { stood := { row := classAlgebraUptoRow, standIns := [], harness := (true, "0a793691a7f84bb03da5e0a998e47a64f3cc577a7c6509c87a84f3d1c2a75802"), looks := true }, kinds := [], alts := [], laidByText := true, laidKinds := [.data, .data, .data, .data, .sentinel, .sentinel, .pinned, .pinned], laidTests := true, laidLooks := .later }
def ClassAlgebraUptoCardSaid : Prop := Claim7.holds Tryz.pinned (.plain (OpenSpec.upto classAlgebraSpec)) classAlgebraUptoCard

/-- THE SECOND FORM's CARD OF 'gaugerlaw06.ClassWrong'. -/
def classWrongUptoCard : Claim7 := { stood := { row := classWrongUptoRow, standIns := [], harness := (true, "0a793691a7f84bb03da5e0a998e47a64f3cc577a7c6509c87a84f3d1c2a75802"), looks := true }, kinds := [], alts := [], laidByText := true, laidKinds := [.data, .data, .data, .data, .sentinel, .sentinel, .pinned, .pinned], laidTests := true, laidLooks := .later }
def ClassWrongUptoCardSaid : Prop := Claim7.holds Tryz.pinned (.plain (OpenSpec.upto classWrongSpec)) classWrongUptoCard
end Rows
end Go.Proofs.YtkjilodmmcefbaaGreatDoor
