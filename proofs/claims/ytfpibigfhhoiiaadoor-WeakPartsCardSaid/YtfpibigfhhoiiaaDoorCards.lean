/-
  DERIVED. GIVEN WITH THE SEED: THE CARDS: each row of YtfpibigfhhoiiaaDoorRows.lean that lists a variable, with what it lists TIED to the program's text (the seventh form; the later family's looks); each row that meets fmt, with fmt's text TOLD by the authors' own Lean function (tested against real Go, not proved from fmt's source: count such statements apart). THE CARD IS WHAT COUNTS. Prove the row's statement (the work); the ties are given (YtfpibigfhhoiiaaDoorTie.lean); close each card by the builder's one call (the guide's Derived/Test/ToyasCard.lean, 'card_holds'). Laid BY PROGRAM, IN A SANDBOX (cutbox-door.mjs). By AI agents, Wed Nov 11 2026. No macro, syntax, notation, axiom, sorry.
-/
import Derived.Test.YtfpibigfhhoiiaaDoorRows
import GoSem.ClaimSeven
namespace Go.Proofs.YtfpibigfhhoiiaaDoor
namespace Rows

/-- THE TIED CARD OF 'parquetrylaw15.NeutralSettles'. -/
def neutralSettlesCard : Claim7 := { stood := { row := neutralSettlesRow, standIns := [], harness := (true, "e3697de7227290fe36b4ec918ea8dc8881fdacbe3fe5801b6cc05fa04304c871"), looks := false }, kinds := [], alts := [], laidByText := true, laidKinds := [.data, .pinned], laidTests := true, laidLooks := .later }
def NeutralSettlesCardSaid : Prop := Claim7.holds Tryd.pinned (.plain (OpenSpec.ofChange neutralSettlesSpec)) neutralSettlesCard

/-- THE TIED CARD OF 'parquetrylaw15.NeutralLevels'. -/
def neutralLevelsCard : Claim7 := { stood := { row := neutralLevelsRow, standIns := [], harness := (true, "e3697de7227290fe36b4ec918ea8dc8881fdacbe3fe5801b6cc05fa04304c871"), looks := false }, kinds := [], alts := [], laidByText := true, laidKinds := [.data, .pinned], laidTests := true, laidLooks := .later }
def NeutralLevelsCardSaid : Prop := Claim7.holds Tryd.pinned (.plain (OpenSpec.ofChange neutralLevelsSpec)) neutralLevelsCard

/-- THE TIED CARD OF 'parquetrylaw15.NeutralLeaves'. -/
def neutralLeavesCard : Claim7 := { stood := { row := neutralLeavesRow, standIns := [], harness := (true, "e3697de7227290fe36b4ec918ea8dc8881fdacbe3fe5801b6cc05fa04304c871"), looks := false }, kinds := [], alts := [], laidByText := true, laidKinds := [.data, .pinned], laidTests := true, laidLooks := .later }
def NeutralLeavesCardSaid : Prop := Claim7.holds Tryd.pinned (.plain (OpenSpec.ofChange neutralLeavesSpec)) neutralLeavesCard

/-- THE TIED CARD OF 'parquetrylaw15.NeutralParts'. -/
def neutralPartsCard : Claim7 := { stood := { row := neutralPartsRow, standIns := [], harness := (true, "e3697de7227290fe36b4ec918ea8dc8881fdacbe3fe5801b6cc05fa04304c871"), looks := false }, kinds := [], alts := [], laidByText := true, laidKinds := [.data, .pinned], laidTests := true, laidLooks := .later }
def NeutralPartsCardSaid : Prop := Claim7.holds Tryd.pinned (.plain (OpenSpec.ofChange neutralPartsSpec)) neutralPartsCard

/-- THE TIED CARD OF 'parquetrylaw15.NeutralTurns'. -/
def neutralTurnsCard : Claim7 := { stood := { row := neutralTurnsRow, standIns := [], harness := (true, "e3697de7227290fe36b4ec918ea8dc8881fdacbe3fe5801b6cc05fa04304c871"), looks := false }, kinds := [], alts := [], laidByText := true, laidKinds := [.data, .pinned], laidTests := true, laidLooks := .later }
def NeutralTurnsCardSaid : Prop := Claim7.holds Tryd.pinned (.plain (OpenSpec.ofChange neutralTurnsSpec)) neutralTurnsCard

/-- THE TIED CARD OF 'parquetrylaw15.NeutralEven'. -/
def neutralEvenCard : Claim7 := { stood := { row := neutralEvenRow, standIns := [], harness := (true, "e3697de7227290fe36b4ec918ea8dc8881fdacbe3fe5801b6cc05fa04304c871"), looks := false }, kinds := [], alts := [], laidByText := true, laidKinds := [.data, .pinned], laidTests := true, laidLooks := .later }
def NeutralEvenCardSaid : Prop := Claim7.holds Tryd.pinned (.plain (OpenSpec.ofChange neutralEvenSpec)) neutralEvenCard

/-- THE TIED CARD OF 'parquetrylaw02.ClassOf'. -/
def classOfCard : Claim7 := { stood := { row := classOfRow, standIns := [], harness := (true, "e3697de7227290fe36b4ec918ea8dc8881fdacbe3fe5801b6cc05fa04304c871"), looks := false }, kinds := [], alts := [], laidByText := true, laidKinds := [.data, .pinned], laidTests := true, laidLooks := .later }
def ClassOfCardSaid : Prop := Claim7.holds Tryd.pinned (.plain (OpenSpec.ofChange classOfSpec)) classOfCard

/-- THE TIED CARD OF 'parquetrylaw02.ClassPrints'. -/
def classPrintsCard : Claim7 := { stood := { row := classPrintsRow, standIns := [], harness := (true, "e3697de7227290fe36b4ec918ea8dc8881fdacbe3fe5801b6cc05fa04304c871"), looks := false }, kinds := [], alts := [], laidByText := true, laidKinds := [.data, .pinned], laidTests := true, laidLooks := .later }
def ClassPrintsCardSaid : Prop := Claim7.holds Tryd.pinned (.plain (OpenSpec.ofChange classPrintsSpec)) classPrintsCard

/-- THE TIED CARD OF 'parquetrylaw02.ClassReads'. -/
def classReadsCard : Claim7 := { stood := { row := classReadsRow, standIns := [], harness := (true, "e3697de7227290fe36b4ec918ea8dc8881fdacbe3fe5801b6cc05fa04304c871"), looks := false }, kinds := [], alts := [], laidByText := true, laidKinds := [.data, .pinned], laidTests := true, laidLooks := .later }
def ClassReadsCardSaid : Prop := Claim7.holds Tryd.pinned (.plain (OpenSpec.ofChange classReadsSpec)) classReadsCard

/-- THE TIED CARD OF 'parquetrylaw02.ClassBack'. -/
def classBackCard : Claim7 := { stood := { row := classBackRow, standIns := [], harness := (true, "e3697de7227290fe36b4ec918ea8dc8881fdacbe3fe5801b6cc05fa04304c871"), looks := false }, kinds := [], alts := [], laidByText := true, laidKinds := [.data, .pinned], laidTests := true, laidLooks := .later }
def ClassBackCardSaid : Prop := Claim7.holds Tryd.pinned (.plain (OpenSpec.ofChange classBackSpec)) classBackCard

/-- THE TIED CARD OF 'parquetrylaw02.ClassAll'. -/
def classAllCard : Claim7 := { stood := { row := classAllRow, standIns := [], harness := (true, "e3697de7227290fe36b4ec918ea8dc8881fdacbe3fe5801b6cc05fa04304c871"), looks := false }, kinds := [], alts := [], laidByText := true, laidKinds := [.data, .pinned], laidTests := true, laidLooks := .later }
def ClassAllCardSaid : Prop := Claim7.holds Tryd.pinned (.plain (OpenSpec.ofChange classAllSpec)) classAllCard

/-- THE TIED CARD OF 'parquetrylaw13.WeakRules'. -/
def weakRulesCard : Claim7 := { stood := { row := weakRulesRow, standIns := [], harness := (true, "e3697de7227290fe36b4ec918ea8dc8881fdacbe3fe5801b6cc05fa04304c871"), looks := false }, kinds := [], alts := [], laidByText := true, laidKinds := [.data, .pinned], laidTests := true, laidLooks := .later }
def WeakRulesCardSaid : Prop := Claim7.holds Tryd.pinned (.plain (OpenSpec.ofChange weakRulesSpec)) weakRulesCard

/-- THE TIED CARD OF 'parquetrylaw13.WeakSettles'. -/
def weakSettlesCard : Claim7 := { stood := { row := weakSettlesRow, standIns := [], harness := (true, "e3697de7227290fe36b4ec918ea8dc8881fdacbe3fe5801b6cc05fa04304c871"), looks := false }, kinds := [], alts := [], laidByText := true, laidKinds := [.data, .pinned], laidTests := true, laidLooks := .later }
def WeakSettlesCardSaid : Prop := Claim7.holds Tryd.pinned (.plain (OpenSpec.ofChange weakSettlesSpec)) weakSettlesCard

/-- THE TIED CARD OF 'parquetrylaw13.WeakParts'. -/
def weakPartsCard : Claim7 := { stood := { row := weakPartsRow, standIns := [], harness := (true, "e3697de7227290fe36b4ec918ea8dc8881fdacbe3fe5801b6cc05fa04304c871"), looks := false }, kinds := [], alts := [], laidByText := true, laidKinds := [.data, .pinned], laidTests := true, laidLooks := .later }
def WeakPartsCardSaid : Prop := Claim7.holds Tryd.pinned (.plain (OpenSpec.ofChange weakPartsSpec)) weakPartsCard

/-- THE TIED CARD OF 'parquetrylaw02.ClassJoins'. -/
def classJoinsCard : Claim7 := { stood := { row := classJoinsRow, standIns := [], harness := (true, "e3697de7227290fe36b4ec918ea8dc8881fdacbe3fe5801b6cc05fa04304c871"), looks := false }, kinds := [], alts := [], laidByText := true, laidKinds := [.data, .pinned], laidTests := true, laidLooks := .later }
def ClassJoinsCardSaid : Prop := Claim7.holds Tryd.pinned (.plain (OpenSpec.ofChange classJoinsSpec)) classJoinsCard

/-- THE SECOND FORM's CARD OF 'parquetrylaw15.NeutralSettles'. -/
def neutralSettlesUptoCard : Claim7 := { stood := { row := neutralSettlesUptoRow, standIns := [], harness := (true, "e3697de7227290fe36b4ec918ea8dc8881fdacbe3fe5801b6cc05fa04304c871"), looks := false }, kinds := [], alts := [], laidByText := true, laidKinds := [.data, .pinned], laidTests := true, laidLooks := .later }
def NeutralSettlesUptoCardSaid : Prop := Claim7.holds Tryd.pinned (.plain (OpenSpec.upto neutralSettlesSpec)) neutralSettlesUptoCard

/-- THE SECOND FORM's CARD OF 'parquetrylaw15.NeutralLevels'. -/
def neutralLevelsUptoCard : Claim7 := { stood := { row := neutralLevelsUptoRow, standIns := [], harness := (true, "e3697de7227290fe36b4ec918ea8dc8881fdacbe3fe5801b6cc05fa04304c871"), looks := false }, kinds := [], alts := [], laidByText := true, laidKinds := [.data, .pinned], laidTests := true, laidLooks := .later }
def NeutralLevelsUptoCardSaid : Prop := Claim7.holds Tryd.pinned (.plain (OpenSpec.upto neutralLevelsSpec)) neutralLevelsUptoCard

/-- THE SECOND FORM's CARD OF 'parquetrylaw15.NeutralLeaves'. -/
def neutralLeavesUptoCard : Claim7 := { stood := { row := neutralLeavesUptoRow, standIns := [], harness := (true, "e3697de7227290fe36b4ec918ea8dc8881fdacbe3fe5801b6cc05fa04304c871"), looks := false }, kinds := [], alts := [], laidByText := true, laidKinds := [.data, .pinned], laidTests := true, laidLooks := .later }
def NeutralLeavesUptoCardSaid : Prop := Claim7.holds Tryd.pinned (.plain (OpenSpec.upto neutralLeavesSpec)) neutralLeavesUptoCard

/-- THE SECOND FORM's CARD OF 'parquetrylaw15.NeutralParts'. -/
def neutralPartsUptoCard : Claim7 := { stood := { row := neutralPartsUptoRow, standIns := [], harness := (true, "e3697de7227290fe36b4ec918ea8dc8881fdacbe3fe5801b6cc05fa04304c871"), looks := false }, kinds := [], alts := [], laidByText := true, laidKinds := [.data, .pinned], laidTests := true, laidLooks := .later }
def NeutralPartsUptoCardSaid : Prop := Claim7.holds Tryd.pinned (.plain (OpenSpec.upto neutralPartsSpec)) neutralPartsUptoCard

/-- THE SECOND FORM's CARD OF 'parquetrylaw15.NeutralTurns'. -/
def neutralTurnsUptoCard : Claim7 := { stood := { row := neutralTurnsUptoRow, standIns := [], harness := (true, "e3697de7227290fe36b4ec918ea8dc8881fdacbe3fe5801b6cc05fa04304c871"), looks := false }, kinds := [], alts := [], laidByText := true, laidKinds := [.data, .pinned], laidTests := true, laidLooks := .later }
def NeutralTurnsUptoCardSaid : Prop := Claim7.holds Tryd.pinned (.plain (OpenSpec.upto neutralTurnsSpec)) neutralTurnsUptoCard

/-- THE SECOND FORM's CARD OF 'parquetrylaw15.NeutralEven'. -/
def neutralEvenUptoCard : Claim7 := { stood := { row := neutralEvenUptoRow, standIns := [], harness := (true, "e3697de7227290fe36b4ec918ea8dc8881fdacbe3fe5801b6cc05fa04304c871"), looks := false }, kinds := [], alts := [], laidByText := true, laidKinds := [.data, .pinned], laidTests := true, laidLooks := .later }
def NeutralEvenUptoCardSaid : Prop := Claim7.holds Tryd.pinned (.plain (OpenSpec.upto neutralEvenSpec)) neutralEvenUptoCard

/-- THE SECOND FORM's CARD OF 'parquetrylaw02.ClassOf'. -/
def classOfUptoCard : Claim7 := { stood := { row := classOfUptoRow, standIns := [], harness := (true, "e3697de7227290fe36b4ec918ea8dc8881fdacbe3fe5801b6cc05fa04304c871"), looks := false }, kinds := [], alts := [], laidByText := true, laidKinds := [.data, .pinned], laidTests := true, laidLooks := .later }
def ClassOfUptoCardSaid : Prop := Claim7.holds Tryd.pinned (.plain (OpenSpec.upto classOfSpec)) classOfUptoCard

/-- THE SECOND FORM's CARD OF 'parquetrylaw02.ClassPrints'. -/
def classPrintsUptoCard : Claim7 := { stood := { row := classPrintsUptoRow, standIns := [], harness := (true, "e3697de7227290fe36b4ec918ea8dc8881fdacbe3fe5801b6cc05fa04304c871"), looks := false }, kinds := [], alts := [], laidByText := true, laidKinds := [.data, .pinned], laidTests := true, laidLooks := .later }
def ClassPrintsUptoCardSaid : Prop := Claim7.holds Tryd.pinned (.plain (OpenSpec.upto classPrintsSpec)) classPrintsUptoCard

/-- THE SECOND FORM's CARD OF 'parquetrylaw02.ClassReads'. -/
def classReadsUptoCard : Claim7 := { stood := { row := classReadsUptoRow, standIns := [], harness := (true, "e3697de7227290fe36b4ec918ea8dc8881fdacbe3fe5801b6cc05fa04304c871"), looks := false }, kinds := [], alts := [], laidByText := true, laidKinds := [.data, .pinned], laidTests := true, laidLooks := .later }
def ClassReadsUptoCardSaid : Prop := Claim7.holds Tryd.pinned (.plain (OpenSpec.upto classReadsSpec)) classReadsUptoCard

/-- THE SECOND FORM's CARD OF 'parquetrylaw02.ClassBack'. -/
def classBackUptoCard : Claim7 := { stood := { row := classBackUptoRow, standIns := [], harness := (true, "e3697de7227290fe36b4ec918ea8dc8881fdacbe3fe5801b6cc05fa04304c871"), looks := false }, kinds := [], alts := [], laidByText := true, laidKinds := [.data, .pinned], laidTests := true, laidLooks := .later }
def ClassBackUptoCardSaid : Prop := Claim7.holds Tryd.pinned (.plain (OpenSpec.upto classBackSpec)) classBackUptoCard

/-- THE SECOND FORM's CARD OF 'parquetrylaw02.ClassAll'. -/
def classAllUptoCard : Claim7 := { stood := { row := classAllUptoRow, standIns := [], harness := (true, "e3697de7227290fe36b4ec918ea8dc8881fdacbe3fe5801b6cc05fa04304c871"), looks := false }, kinds := [], alts := [], laidByText := true, laidKinds := [.data, .pinned], laidTests := true, laidLooks := .later }
def ClassAllUptoCardSaid : Prop := Claim7.holds Tryd.pinned (.plain (OpenSpec.upto classAllSpec)) classAllUptoCard

/-- THE SECOND FORM's CARD OF 'parquetrylaw13.WeakRules'. -/
def weakRulesUptoCard : Claim7 := { stood := { row := weakRulesUptoRow, standIns := [], harness := (true, "e3697de7227290fe36b4ec918ea8dc8881fdacbe3fe5801b6cc05fa04304c871"), looks := false }, kinds := [], alts := [], laidByText := true, laidKinds := [.data, .pinned], laidTests := true, laidLooks := .later }
def WeakRulesUptoCardSaid : Prop := Claim7.holds Tryd.pinned (.plain (OpenSpec.upto weakRulesSpec)) weakRulesUptoCard

/-- THE SECOND FORM's CARD OF 'parquetrylaw13.WeakSettles'. -/
def weakSettlesUptoCard : Claim7 := { stood := { row := weakSettlesUptoRow, standIns := [], harness := (true, "e3697de7227290fe36b4ec918ea8dc8881fdacbe3fe5801b6cc05fa04304c871"), looks := false }, kinds := [], alts := [], laidByText := true, laidKinds := [.data, .pinned], laidTests := true, laidLooks := .later }
def WeakSettlesUptoCardSaid : Prop := Claim7.holds Tryd.pinned (.plain (OpenSpec.upto weakSettlesSpec)) weakSettlesUptoCard

/-- THE SECOND FORM's CARD OF 'parquetrylaw13.WeakParts'. -/
def weakPartsUptoCard : Claim7 := { stood := { row := weakPartsUptoRow, standIns := [], harness := (true, "e3697de7227290fe36b4ec918ea8dc8881fdacbe3fe5801b6cc05fa04304c871"), looks := false }, kinds := [], alts := [], laidByText := true, laidKinds := [.data, .pinned], laidTests := true, laidLooks := .later }
def WeakPartsUptoCardSaid : Prop := Claim7.holds Tryd.pinned (.plain (OpenSpec.upto weakPartsSpec)) weakPartsUptoCard

/-- THE SECOND FORM's CARD OF 'parquetrylaw02.ClassJoins'. -/
def classJoinsUptoCard : Claim7 := { stood := { row := classJoinsUptoRow, standIns := [], harness := (true, "e3697de7227290fe36b4ec918ea8dc8881fdacbe3fe5801b6cc05fa04304c871"), looks := false }, kinds := [], alts := [], laidByText := true, laidKinds := [.data, .pinned], laidTests := true, laidLooks := .later }
def ClassJoinsUptoCardSaid : Prop := Claim7.holds Tryd.pinned (.plain (OpenSpec.upto classJoinsSpec)) classJoinsUptoCard
end Rows
end Go.Proofs.YtfpibigfhhoiiaaDoor
