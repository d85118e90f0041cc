/-
  DERIVED. GIVEN WITH THE SEED: THE CARDS: each row of YtnfmnhbcjapmpaaDoorRows.lean that lists a variable, with what it lists TIED to the program's text (the seventh form; the later family's looks); each row that meets fmt, with fmt's text TOLD by the authors' own Lean function (tested against real Go, not proved from fmt's source: count such statements apart). THE CARD IS WHAT COUNTS. Prove the row's statement (the work); the ties are given (YtnfmnhbcjapmpaaDoorTie.lean); close each card by the builder's one call (the guide's Derived/Test/ToyasCard.lean, 'card_holds'). Laid BY PROGRAM, IN A SANDBOX (cutbox-door.mjs). By AI agents, Wed Nov 11 2026. No macro, syntax, notation, axiom, sorry.
-/
import Derived.Test.YtnfmnhbcjapmpaaDoorRows
import GoSem.ClaimSeven
namespace Go.Proofs.YtnfmnhbcjapmpaaDoor
namespace Rows

/-- THE TIED CARD OF 'chantrylaw05.CountNumbers'. -/
def countNumbersCard : Claim7 := { stood := { row := countNumbersRow, standIns := [], harness := (true, "ae3a95bdd574a96d81587aee4493370172f534d7b316c3e797074509709bedd1"), looks := false }, kinds := [], alts := [], laidByText := true, laidKinds := [.data], laidTests := true, laidLooks := .later }
def CountNumbersCardSaid : Prop := Claim7.holds Tryd.pinned (.plain (OpenSpec.ofChange countNumbersSpec)) countNumbersCard

/-- THE TIED CARD OF 'chantrylaw05.CountMeet'. -/
def countMeetCard : Claim7 := { stood := { row := countMeetRow, standIns := [], harness := (true, "ae3a95bdd574a96d81587aee4493370172f534d7b316c3e797074509709bedd1"), looks := false }, kinds := [], alts := [], laidByText := true, laidKinds := [.data], laidTests := true, laidLooks := .later }
def CountMeetCardSaid : Prop := Claim7.holds Tryd.pinned (.plain (OpenSpec.ofChange countMeetSpec)) countMeetCard

/-- THE TIED CARD OF 'chantrylaw05.CountRise'. -/
def countRiseCard : Claim7 := { stood := { row := countRiseRow, standIns := [], harness := (true, "ae3a95bdd574a96d81587aee4493370172f534d7b316c3e797074509709bedd1"), looks := false }, kinds := [], alts := [], laidByText := true, laidKinds := [.data], laidTests := true, laidLooks := .later }
def CountRiseCardSaid : Prop := Claim7.holds Tryd.pinned (.plain (OpenSpec.ofChange countRiseSpec)) countRiseCard

/-- THE TIED CARD OF 'chantrylaw05.CountLists'. -/
def countListsCard : Claim7 := { stood := { row := countListsRow, standIns := [], harness := (true, "ae3a95bdd574a96d81587aee4493370172f534d7b316c3e797074509709bedd1"), looks := false }, kinds := [], alts := [], laidByText := true, laidKinds := [.data], laidTests := true, laidLooks := .later }
def CountListsCardSaid : Prop := Claim7.holds Tryd.pinned (.plain (OpenSpec.ofChange countListsSpec)) countListsCard

/-- THE TIED CARD OF 'chantrylaw05.CountUnion'. -/
def countUnionCard : Claim7 := { stood := { row := countUnionRow, standIns := [], harness := (true, "ae3a95bdd574a96d81587aee4493370172f534d7b316c3e797074509709bedd1"), looks := false }, kinds := [], alts := [], laidByText := true, laidKinds := [.data], laidTests := true, laidLooks := .later }
def CountUnionCardSaid : Prop := Claim7.holds Tryd.pinned (.plain (OpenSpec.ofChange countUnionSpec)) countUnionCard

/-- THE TIED CARD OF 'chantrylaw05.CountSets'. -/
def countSetsCard : Claim7 := { stood := { row := countSetsRow, standIns := [], harness := (true, "ae3a95bdd574a96d81587aee4493370172f534d7b316c3e797074509709bedd1"), looks := false }, kinds := [], alts := [], laidByText := true, laidKinds := [.data], laidTests := true, laidLooks := .later }
def CountSetsCardSaid : Prop := Claim7.holds Tryd.pinned (.plain (OpenSpec.ofChange countSetsSpec)) countSetsCard

/-- THE TIED CARD OF 'chantrylaw05.CountBack'. -/
def countBackCard : Claim7 := { stood := { row := countBackRow, standIns := [], harness := (true, "ae3a95bdd574a96d81587aee4493370172f534d7b316c3e797074509709bedd1"), looks := false }, kinds := [], alts := [], laidByText := true, laidKinds := [.data], laidTests := true, laidLooks := .later }
def CountBackCardSaid : Prop := Claim7.holds Tryd.pinned (.plain (OpenSpec.ofChange countBackSpec)) countBackCard

/-- THE SECOND FORM's CARD OF 'chantrylaw05.CountNumbers'. -/
def countNumbersUptoCard : Claim7 := { stood := { row := countNumbersUptoRow, standIns := [], harness := (true, "ae3a95bdd574a96d81587aee4493370172f534d7b316c3e797074509709bedd1"), looks := false }, kinds := [], alts := [], laidByText := true, laidKinds := [.data], laidTests := true, laidLooks := .later }
def CountNumbersUptoCardSaid : Prop := Claim7.holds Tryd.pinned (.plain (OpenSpec.upto countNumbersSpec)) countNumbersUptoCard

/-- THE SECOND FORM's CARD OF 'chantrylaw05.CountMeet'. -/
def countMeetUptoCard : Claim7 := { stood := { row := countMeetUptoRow, standIns := [], harness := (true, "ae3a95bdd574a96d81587aee4493370172f534d7b316c3e797074509709bedd1"), looks := false }, kinds := [], alts := [], laidByText := true, laidKinds := [.data], laidTests := true, laidLooks := .later }
def CountMeetUptoCardSaid : Prop := Claim7.holds Tryd.pinned (.plain (OpenSpec.upto countMeetSpec)) countMeetUptoCard

/-- THE SECOND FORM's CARD OF 'chantrylaw05.CountRise'. -/
def countRiseUptoCard : Claim7 := { stood := { row := countRiseUptoRow, standIns := [], harness := (true, "ae3a95bdd574a96d81587aee4493370172f534d7b316c3e797074509709bedd1"), looks := false }, kinds := [], alts := [], laidByText := true, laidKinds := [.data], laidTests := true, laidLooks := .later }
def CountRiseUptoCardSaid : Prop := Claim7.holds Tryd.pinned (.plain (OpenSpec.upto countRiseSpec)) countRiseUptoCard

/-- THE SECOND FORM's CARD OF 'chantrylaw05.CountLists'. -/
def countListsUptoCard : Claim7 := { stood := { row := countListsUptoRow, standIns := [], harness := (true, "ae3a95bdd574a96d81587aee4493370172f534d7b316c3e797074509709bedd1"), looks := false }, kinds := [], alts := [], laidByText := true, laidKinds := [.data], laidTests := true, laidLooks := .later }
def CountListsUptoCardSaid : Prop := Claim7.holds Tryd.pinned (.plain (OpenSpec.upto countListsSpec)) countListsUptoCard

/-- THE SECOND FORM's CARD OF 'chantrylaw05.CountUnion'. -/
def countUnionUptoCard : Claim7 := { stood := { row := countUnionUptoRow, standIns := [], harness := (true, "ae3a95bdd574a96d81587aee4493370172f534d7b316c3e797074509709bedd1"), looks := false }, kinds := [], alts := [], laidByText := true, laidKinds := [.data], laidTests := true, laidLooks := .later }
def CountUnionUptoCardSaid : Prop := Claim7.holds Tryd.pinned (.plain (OpenSpec.upto countUnionSpec)) countUnionUptoCard

/-- THE SECOND FORM's CARD OF 'chantrylaw05.CountSets'. -/
def countSetsUptoCard : Claim7 := { stood := { row := countSetsUptoRow, standIns := [], harness := (true, "ae3a95bdd574a96d81587aee4493370172f534d7b316c3e797074509709bedd1"), looks := false }, kinds := [], alts := [], laidByText := true, laidKinds := [.data], laidTests := true, laidLooks := .later }
def CountSetsUptoCardSaid : Prop := Claim7.holds Tryd.pinned (.plain (OpenSpec.upto countSetsSpec)) countSetsUptoCard

/-- THE SECOND FORM's CARD OF 'chantrylaw05.CountBack'. -/
def countBackUptoCard : Claim7 := { stood := { row := countBackUptoRow, standIns := [], harness := (true, "ae3a95bdd574a96d81587aee4493370172f534d7b316c3e797074509709bedd1"), looks := false }, kinds := [], alts := [], laidByText := true, laidKinds := [.data], laidTests := true, laidLooks := .later }
def CountBackUptoCardSaid : Prop := Claim7.holds Tryd.pinned (.plain (OpenSpec.upto countBackSpec)) countBackUptoCard
end Rows
end Go.Proofs.YtnfmnhbcjapmpaaDoor
