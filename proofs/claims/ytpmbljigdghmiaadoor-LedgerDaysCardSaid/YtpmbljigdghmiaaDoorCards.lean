/-
  DERIVED. GIVEN WITH THE SEED: THE CARDS: each row of YtpmbljigdghmiaaDoorRows.lean that lists a variable, with what it lists TIED to the program's text (the seventh form; the later family's looks); each row that meets fmt, with fmt's text TOLD by the authors' own Lean function (tested against real Go, not proved from fmt's source: count such statements apart). THE CARD IS WHAT COUNTS. Prove the row's statement (the work); the ties are given (YtpmbljigdghmiaaDoorTie.lean); close each card by the builder's one call (the guide's Derived/Test/ToyasCard.lean, 'card_holds'). Laid BY PROGRAM, IN A SANDBOX (cutbox-door.mjs). By AI agents, Wed Nov 11 2026. No macro, syntax, notation, axiom, sorry.
-/
import Derived.Test.YtpmbljigdghmiaaDoorRows
import GoSem.ClaimSeven
namespace Go.Proofs.YtpmbljigdghmiaaDoor
namespace Rows

/-- THE TIED CARD OF 'dancestudiolaw55.LedgerChecks'. -/
def ledgerChecksCard : Claim7 := { stood := { row := ledgerChecksRow, standIns := [], harness := (true, "7a7a24e3a45cdf0a94bd8540daac16ef169ce5022c4e511570db158a34c44b54"), looks := false }, kinds := [], alts := [], laidByText := true, laidKinds := [.data, .pinned], laidTests := true, laidLooks := .later }
def LedgerChecksCardSaid : Prop := Claim7.holds Tryd.pinned (.plain (OpenSpec.ofChange ledgerChecksSpec)) ledgerChecksCard

/-- THE TIED CARD OF 'dancestudiolaw55.LedgerPosts'. -/
def ledgerPostsCard : Claim7 := { stood := { row := ledgerPostsRow, standIns := [], harness := (true, "7a7a24e3a45cdf0a94bd8540daac16ef169ce5022c4e511570db158a34c44b54"), looks := false }, kinds := [], alts := [], laidByText := true, laidKinds := [.data, .pinned], laidTests := true, laidLooks := .later }
def LedgerPostsCardSaid : Prop := Claim7.holds Tryd.pinned (.plain (OpenSpec.ofChange ledgerPostsSpec)) ledgerPostsCard

/-- THE TIED CARD OF 'dancestudiolaw55.LedgerZero'. -/
def ledgerZeroCard : Claim7 := { stood := { row := ledgerZeroRow, standIns := [], harness := (true, "7a7a24e3a45cdf0a94bd8540daac16ef169ce5022c4e511570db158a34c44b54"), looks := false }, kinds := [], alts := [], laidByText := true, laidKinds := [.data, .pinned], laidTests := true, laidLooks := .later }
def LedgerZeroCardSaid : Prop := Claim7.holds Tryd.pinned (.plain (OpenSpec.ofChange ledgerZeroSpec)) ledgerZeroCard

/-- THE TIED CARD OF 'dancestudiolaw55.LedgerDays'. -/
def ledgerDaysCard : Claim7 := { stood := { row := ledgerDaysRow, standIns := [], harness := (true, "7a7a24e3a45cdf0a94bd8540daac16ef169ce5022c4e511570db158a34c44b54"), looks := false }, kinds := [], alts := [], laidByText := true, laidKinds := [.data, .pinned], laidTests := true, laidLooks := .later }
def LedgerDaysCardSaid : Prop := Claim7.holds Tryd.pinned (.plain (OpenSpec.ofChange ledgerDaysSpec)) ledgerDaysCard

/-- THE TIED CARD OF 'dancestudiolaw55.LedgerCopies'. -/
def ledgerCopiesCard : Claim7 := { stood := { row := ledgerCopiesRow, standIns := [], harness := (true, "7a7a24e3a45cdf0a94bd8540daac16ef169ce5022c4e511570db158a34c44b54"), looks := false }, kinds := [], alts := [], laidByText := true, laidKinds := [.data, .pinned], laidTests := true, laidLooks := .later }
def LedgerCopiesCardSaid : Prop := Claim7.holds Tryd.pinned (.plain (OpenSpec.ofChange ledgerCopiesSpec)) ledgerCopiesCard

/-- THE TIED CARD OF 'dancestudiolaw55.LedgerAgain'. -/
def ledgerAgainCard : Claim7 := { stood := { row := ledgerAgainRow, standIns := [], harness := (true, "7a7a24e3a45cdf0a94bd8540daac16ef169ce5022c4e511570db158a34c44b54"), looks := false }, kinds := [], alts := [], laidByText := true, laidKinds := [.data, .pinned], laidTests := true, laidLooks := .later }
def LedgerAgainCardSaid : Prop := Claim7.holds Tryd.pinned (.plain (OpenSpec.ofChange ledgerAgainSpec)) ledgerAgainCard

/-- THE TIED CARD OF 'dancestudiolaw55.LedgerNobody'. -/
def ledgerNobodyCard : Claim7 := { stood := { row := ledgerNobodyRow, standIns := [], harness := (true, "7a7a24e3a45cdf0a94bd8540daac16ef169ce5022c4e511570db158a34c44b54"), looks := false }, kinds := [], alts := [], laidByText := true, laidKinds := [.data, .pinned], laidTests := true, laidLooks := .later }
def LedgerNobodyCardSaid : Prop := Claim7.holds Tryd.pinned (.plain (OpenSpec.ofChange ledgerNobodySpec)) ledgerNobodyCard

/-- THE SECOND FORM's CARD OF 'dancestudiolaw55.LedgerChecks'. -/
def ledgerChecksUptoCard : Claim7 := { stood := { row := ledgerChecksUptoRow, standIns := [], harness := (true, "7a7a24e3a45cdf0a94bd8540daac16ef169ce5022c4e511570db158a34c44b54"), looks := false }, kinds := [], alts := [], laidByText := true, laidKinds := [.data, .pinned], laidTests := true, laidLooks := .later }
def LedgerChecksUptoCardSaid : Prop := Claim7.holds Tryd.pinned (.plain (OpenSpec.upto ledgerChecksSpec)) ledgerChecksUptoCard

/-- THE SECOND FORM's CARD OF 'dancestudiolaw55.LedgerPosts'. -/
def ledgerPostsUptoCard : Claim7 := { stood := { row := ledgerPostsUptoRow, standIns := [], harness := (true, "7a7a24e3a45cdf0a94bd8540daac16ef169ce5022c4e511570db158a34c44b54"), looks := false }, kinds := [], alts := [], laidByText := true, laidKinds := [.data, .pinned], laidTests := true, laidLooks := .later }
def LedgerPostsUptoCardSaid : Prop := Claim7.holds Tryd.pinned (.plain (OpenSpec.upto ledgerPostsSpec)) ledgerPostsUptoCard

/-- THE SECOND FORM's CARD OF 'dancestudiolaw55.LedgerZero'. -/
def ledgerZeroUptoCard : Claim7 := { stood := { row := ledgerZeroUptoRow, standIns := [], harness := (true, "7a7a24e3a45cdf0a94bd8540daac16ef169ce5022c4e511570db158a34c44b54"), looks := false }, kinds := [], alts := [], laidByText := true, laidKinds := [.data, .pinned], laidTests := true, laidLooks := .later }
def LedgerZeroUptoCardSaid : Prop := Claim7.holds Tryd.pinned (.plain (OpenSpec.upto ledgerZeroSpec)) ledgerZeroUptoCard

/-- THE SECOND FORM's CARD OF 'dancestudiolaw55.LedgerDays'. -/
def ledgerDaysUptoCard : Claim7 := { stood := { row := ledgerDaysUptoRow, standIns := [], harness := (true, "7a7a24e3a45cdf0a94bd8540daac16ef169ce5022c4e511570db158a34c44b54"), looks := false }, kinds := [], alts := [], laidByText := true, laidKinds := [.data, .pinned], laidTests := true, laidLooks := .later }
def LedgerDaysUptoCardSaid : Prop := Claim7.holds Tryd.pinned (.plain (OpenSpec.upto ledgerDaysSpec)) ledgerDaysUptoCard

/-- THE SECOND FORM's CARD OF 'dancestudiolaw55.LedgerCopies'. -/
def ledgerCopiesUptoCard : Claim7 := { stood := { row := ledgerCopiesUptoRow, standIns := [], harness := (true, "7a7a24e3a45cdf0a94bd8540daac16ef169ce5022c4e511570db158a34c44b54"), looks := false }, kinds := [], alts := [], laidByText := true, laidKinds := [.data, .pinned], laidTests := true, laidLooks := .later }
def LedgerCopiesUptoCardSaid : Prop := Claim7.holds Tryd.pinned (.plain (OpenSpec.upto ledgerCopiesSpec)) ledgerCopiesUptoCard

/-- THE SECOND FORM's CARD OF 'dancestudiolaw55.LedgerAgain'. -/
def ledgerAgainUptoCard : Claim7 := { stood := { row := ledgerAgainUptoRow, standIns := [], harness := (true, "7a7a24e3a45cdf0a94bd8540daac16ef169ce5022c4e511570db158a34c44b54"), looks := false }, kinds := [], alts := [], laidByText := true, laidKinds := [.data, .pinned], laidTests := true, laidLooks := .later }
def LedgerAgainUptoCardSaid : Prop := Claim7.holds Tryd.pinned (.plain (OpenSpec.upto ledgerAgainSpec)) ledgerAgainUptoCard

/-- THE SECOND FORM's CARD OF 'dancestudiolaw55.LedgerNobody'. -/
def ledgerNobodyUptoCard : Claim7 := { stood := { row := ledgerNobodyUptoRow, standIns := [], harness := (true, "7a7a24e3a45cdf0a94bd8540daac16ef169ce5022c4e511570db158a34c44b54"), looks := false }, kinds := [], alts := [], laidByText := true, laidKinds := [.data, .pinned], laidTests := true, laidLooks := .later }
def LedgerNobodyUptoCardSaid : Prop := Claim7.holds Tryd.pinned (.plain (OpenSpec.upto ledgerNobodySpec)) ledgerNobodyUptoCard
end Rows
end Go.Proofs.YtpmbljigdghmiaaDoor
