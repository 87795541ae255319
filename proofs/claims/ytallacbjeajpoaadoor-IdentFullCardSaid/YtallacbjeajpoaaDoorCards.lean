/-
  DERIVED. GIVEN WITH THE SEED: THE CARDS: each row of YtallacbjeajpoaaDoorRows.lean that lists a variable, with what it lists TIED to the program's text (the seventh form; the later family's looks); each row that meets fmt, with fmt's text TOLD by the authors' own Lean function (tested against real Go, not proved from fmt's source: count such statements apart). THE CARD IS WHAT COUNTS. Prove the row's statement (the work); the ties are given (YtallacbjeajpoaaDoorTie.lean); close each card by the builder's one call (the guide's Derived/Test/ToyasCard.lean, 'card_holds'). Laid BY PROGRAM, IN A SANDBOX (cutbox-door.mjs). By AI agents, Wed Nov 11 2026. No macro, syntax, notation, axiom, sorry.
-/
import Derived.Test.YtallacbjeajpoaaDoorRows
import GoSem.ClaimSeven
namespace Go.Proofs.YtallacbjeajpoaaDoor
namespace Rows

/-- THE TIED CARD OF 'dancestudiolaw05.IdentValid'. -/
def identValidCard : Claim7 := { stood := { row := identValidRow, standIns := [], harness := (true, "9d31489c8e31cae2d4db894ad80949852d2dac325a427f08f7697643815e960b"), looks := false }, kinds := [], alts := [], laidByText := true, laidKinds := [.data, .pinned], laidTests := true, laidLooks := .later }
def IdentValidCardSaid : Prop := Claim7.holds Tryd.pinned (.plain (OpenSpec.ofChange identValidSpec)) identValidCard

/-- THE TIED CARD OF 'dancestudiolaw05.IdentLess'. -/
def identLessCard : Claim7 := { stood := { row := identLessRow, standIns := [], harness := (true, "9d31489c8e31cae2d4db894ad80949852d2dac325a427f08f7697643815e960b"), looks := false }, kinds := [], alts := [], laidByText := true, laidKinds := [.data, .pinned], laidTests := true, laidLooks := .later }
def IdentLessCardSaid : Prop := Claim7.holds Tryd.pinned (.plain (OpenSpec.ofChange identLessSpec)) identLessCard

/-- THE TIED CARD OF 'dancestudiolaw05.IdentOrder'. -/
def identOrderCard : Claim7 := { stood := { row := identOrderRow, standIns := [], harness := (true, "9d31489c8e31cae2d4db894ad80949852d2dac325a427f08f7697643815e960b"), looks := false }, kinds := [], alts := [], laidByText := true, laidKinds := [.data, .pinned], laidTests := true, laidLooks := .later }
def IdentOrderCardSaid : Prop := Claim7.holds Tryd.pinned (.plain (OpenSpec.ofChange identOrderSpec)) identOrderCard

/-- THE TIED CARD OF 'dancestudiolaw05.IdentTable'. -/
def identTableCard : Claim7 := { stood := { row := identTableRow, standIns := [], harness := (true, "9d31489c8e31cae2d4db894ad80949852d2dac325a427f08f7697643815e960b"), looks := false }, kinds := [], alts := [], laidByText := true, laidKinds := [.data, .pinned], laidTests := true, laidLooks := .later }
def IdentTableCardSaid : Prop := Claim7.holds Tryd.pinned (.plain (OpenSpec.ofChange identTableSpec)) identTableCard

/-- THE TIED CARD OF 'dancestudiolaw05.IdentSorted'. -/
def identSortedCard : Claim7 := { stood := { row := identSortedRow, standIns := [], harness := (true, "9d31489c8e31cae2d4db894ad80949852d2dac325a427f08f7697643815e960b"), looks := false }, kinds := [], alts := [], laidByText := true, laidKinds := [.data, .pinned], laidTests := true, laidLooks := .later }
def IdentSortedCardSaid : Prop := Claim7.holds Tryd.pinned (.plain (OpenSpec.ofChange identSortedSpec)) identSortedCard

/-- THE TIED CARD OF 'dancestudiolaw05.IdentAdd'. -/
def identAddCard : Claim7 := { stood := { row := identAddRow, standIns := [], harness := (true, "9d31489c8e31cae2d4db894ad80949852d2dac325a427f08f7697643815e960b"), looks := false }, kinds := [], alts := [], laidByText := true, laidKinds := [.data, .pinned], laidTests := true, laidLooks := .later }
def IdentAddCardSaid : Prop := Claim7.holds Tryd.pinned (.plain (OpenSpec.ofChange identAddSpec)) identAddCard

/-- THE TIED CARD OF 'dancestudiolaw05.IdentNumbers'. -/
def identNumbersCard : Claim7 := { stood := { row := identNumbersRow, standIns := [], harness := (true, "9d31489c8e31cae2d4db894ad80949852d2dac325a427f08f7697643815e960b"), looks := false }, kinds := [], alts := [], laidByText := true, laidKinds := [.data, .data, .data, .data, .pinned], laidTests := true, laidLooks := .later }
def IdentNumbersCardSaid : Prop := Claim7.holds Tryd.pinned (.plain (OpenSpec.ofChange identNumbersSpec)) identNumbersCard

/-- THE TIED CARD OF 'dancestudiolaw05.IdentFull'. -/
def identFullCard : Claim7 := { stood := { row := identFullRow, standIns := [], harness := (true, "9d31489c8e31cae2d4db894ad80949852d2dac325a427f08f7697643815e960b"), looks := false }, kinds := [], alts := [], laidByText := true, laidKinds := [.data, .data, .data, .data, .pinned], laidTests := true, laidLooks := .later }
def IdentFullCardSaid : Prop := Claim7.holds Tryd.pinned (.plain (OpenSpec.ofChange identFullSpec)) identFullCard

/-- THE SECOND FORM's CARD OF 'dancestudiolaw05.IdentValid'. -/
def identValidUptoCard : Claim7 := { stood := { row := identValidUptoRow, standIns := [], harness := (true, "9d31489c8e31cae2d4db894ad80949852d2dac325a427f08f7697643815e960b"), looks := false }, kinds := [], alts := [], laidByText := true, laidKinds := [.data, .pinned], laidTests := true, laidLooks := .later }
def IdentValidUptoCardSaid : Prop := Claim7.holds Tryd.pinned (.plain (OpenSpec.upto identValidSpec)) identValidUptoCard

/-- THE SECOND FORM's CARD OF 'dancestudiolaw05.IdentLess'. -/
def identLessUptoCard : Claim7 := { stood := { row := identLessUptoRow, standIns := [], harness := (true, "9d31489c8e31cae2d4db894ad80949852d2dac325a427f08f7697643815e960b"), looks := false }, kinds := [], alts := [], laidByText := true, laidKinds := [.data, .pinned], laidTests := true, laidLooks := .later }
def IdentLessUptoCardSaid : Prop := Claim7.holds Tryd.pinned (.plain (OpenSpec.upto identLessSpec)) identLessUptoCard

/-- THE SECOND FORM's CARD OF 'dancestudiolaw05.IdentOrder'. -/
def identOrderUptoCard : Claim7 := { stood := { row := identOrderUptoRow, standIns := [], harness := (true, "9d31489c8e31cae2d4db894ad80949852d2dac325a427f08f7697643815e960b"), looks := false }, kinds := [], alts := [], laidByText := true, laidKinds := [.data, .pinned], laidTests := true, laidLooks := .later }
def IdentOrderUptoCardSaid : Prop := Claim7.holds Tryd.pinned (.plain (OpenSpec.upto identOrderSpec)) identOrderUptoCard

/-- THE SECOND FORM's CARD OF 'dancestudiolaw05.IdentTable'. -/
def identTableUptoCard : Claim7 := { stood := { row := identTableUptoRow, standIns := [], harness := (true, "9d31489c8e31cae2d4db894ad80949852d2dac325a427f08f7697643815e960b"), looks := false }, kinds := [], alts := [], laidByText := true, laidKinds := [.data, .pinned], laidTests := true, laidLooks := .later }
def IdentTableUptoCardSaid : Prop := Claim7.holds Tryd.pinned (.plain (OpenSpec.upto identTableSpec)) identTableUptoCard

/-- THE SECOND FORM's CARD OF 'dancestudiolaw05.IdentSorted'. -/
def identSortedUptoCard : Claim7 := { stood := { row := identSortedUptoRow, standIns := [], harness := (true, "9d31489c8e31cae2d4db894ad80949852d2dac325a427f08f7697643815e960b"), looks := false }, kinds := [], alts := [], laidByText := true, laidKinds := [.data, .pinned], laidTests := true, laidLooks := .later }
def IdentSortedUptoCardSaid : Prop := Claim7.holds Tryd.pinned (.plain (OpenSpec.upto identSortedSpec)) identSortedUptoCard

/-- THE SECOND FORM's CARD OF 'dancestudiolaw05.IdentAdd'. -/
def identAddUptoCard : Claim7 := { stood := { row := identAddUptoRow, standIns := [], harness := (true, "9d31489c8e31cae2d4db894ad80949852d2dac325a427f08f7697643815e960b"), looks := false }, kinds := [], alts := [], laidByText := true, laidKinds := [.data, .pinned], laidTests := true, laidLooks := .later }
def IdentAddUptoCardSaid : Prop := Claim7.holds Tryd.pinned (.plain (OpenSpec.upto identAddSpec)) identAddUptoCard

/-- THE SECOND FORM's CARD OF 'dancestudiolaw05.IdentNumbers'. -/
def identNumbersUptoCard : Claim7 := { stood := { row := identNumbersUptoRow, standIns := [], harness := (true, "9d31489c8e31cae2d4db894ad80949852d2dac325a427f08f7697643815e960b"), looks := false }, kinds := [], alts := [], laidByText := true, laidKinds := [.data, .data, .data, .data, .pinned], laidTests := true, laidLooks := .later }
def IdentNumbersUptoCardSaid : Prop := Claim7.holds Tryd.pinned (.plain (OpenSpec.upto identNumbersSpec)) identNumbersUptoCard

/-- THE SECOND FORM's CARD OF 'dancestudiolaw05.IdentFull'. -/
def identFullUptoCard : Claim7 := { stood := { row := identFullUptoRow, standIns := [], harness := (true, "9d31489c8e31cae2d4db894ad80949852d2dac325a427f08f7697643815e960b"), looks := false }, kinds := [], alts := [], laidByText := true, laidKinds := [.data, .data, .data, .data, .pinned], laidTests := true, laidLooks := .later }
def IdentFullUptoCardSaid : Prop := Claim7.holds Tryd.pinned (.plain (OpenSpec.upto identFullSpec)) identFullUptoCard
end Rows
end Go.Proofs.YtallacbjeajpoaaDoor
