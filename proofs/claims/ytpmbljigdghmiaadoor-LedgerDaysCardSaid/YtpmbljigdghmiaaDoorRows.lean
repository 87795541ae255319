/-
  NARROWER THAN 'FOR EVERY INPUT', by the rows' own cells (each row's printed sentence says how): LedgerChecks: laid · LedgerPosts: laid · LedgerZero: laid · LedgerDays: laid · LedgerCopies: laid · LedgerAgain: laid · LedgerNobody: laid.
  DERIVED. THE GIVEN ROWS OF THIS SEAT. 7 by the template 'for every input the law returns true; each argument reads behind the call as it read before'; 0 by the template 'total and deterministic' (their statements: YtpmbljigdghmiaaDoorTotals.lean).
  GIVEN WITH THE SEED: the statements are not yours to turn. If you find one false, say at which input.
  Laid BY PROGRAM, IN A SANDBOX (cutbox-rows.mjs): the forced cells as the released guide's own fill.sh prints them over the translation 01d21497dbd72d8b… (all of the seat's roots in one cut). By AI agents, Wed Nov 11 2026. No macro, syntax, notation, axiom, sorry.
-/
import Derived.Test.YtpmbljigdghmiaaDoorChecked
import GoSem.PinnedTables
import GoSem.Claim
import GoSem.ClaimJoined
import GoSem.ClaimMapViews
import Derived.JoinedTies
import Derived.KernelRfl
namespace Go.Proofs.YtpmbljigdghmiaaDoor
/- THE CELL 'sum', in the pinned program and in every row, IS THE sha256 OF THE DUMP (.gsa) THAT YtpmbljigdghmiaaDoorProg.lean LOADS. Nothing in Lean hashes anything: it is a label: what it is worth is what the hold of that sum in a sandbox is worth. -/
noncomputable def Tryd.pinned : Pinned := { name := "ytpmbljigdghmiaadoor", sum := "01d21497dbd72d8b3997066914ed24c317d6eea23b1ec496b18e45dd61235c05", checked := Tryd.checked }
namespace Rows
def none {H : Type} : Left H := { results := [], args := [] }

/- WHAT THE LISTED PACKAGE-LEVEL VARIABLES READ AS WHEN THE CALL BEGINS. Each datum BY PROGRAM (the guide's laid-datum.mjs) off the statement by which the dump's own 'gosem.cut.vars' lays the variable. In a bare row this is a premise. The card (YtpmbljigdghmiaaDoorCards.lean) ties it to the program's text. -/
def laid_unicode_utf8_acceptRanges {H : Type} : DataW H := .agg [.agg [.lit (.int .u8 128), .lit (.int .u8 191)], .agg [.lit (.int .u8 160), .lit (.int .u8 191)], .agg [.lit (.int .u8 128), .lit (.int .u8 159)], .agg [.lit (.int .u8 144), .lit (.int .u8 191)], .agg [.lit (.int .u8 128), .lit (.int .u8 143)], .agg [.lit (.int .u8 0), .lit (.int .u8 0)], .agg [.lit (.int .u8 0), .lit (.int .u8 0)], .agg [.lit (.int .u8 0), .lit (.int .u8 0)], .agg [.lit (.int .u8 0), .lit (.int .u8 0)], .agg [.lit (.int .u8 0), .lit (.int .u8 0)], .agg [.lit (.int .u8 0), .lit (.int .u8 0)], .agg [.lit (.int .u8 0), .lit (.int .u8 0)], .agg [.lit (.int .u8 0), .lit (.int .u8 0)], .agg [.lit (.int .u8 0), .lit (.int .u8 0)], .agg [.lit (.int .u8 0), .lit (.int .u8 0)], .agg [.lit (.int .u8 0), .lit (.int .u8 0)]]
/-- One of Go's own tables, pinned by name: the form's constant. -/
def laid_unicode_utf8_first : DataW Unit := Go.Pinned.utf8First

/-- 'dancestudiolaw55.LedgerChecks': WHATEVER THE INPUT: true; the input reads as it did. -/
def ledgerChecksSpec : ChangeSpec := { name := "ledgerChecks", fn := fun _ => fun
  | [d] => { results := [.lit (.bool true)], args := [d] }
  | _ => none }
def ledgerChecksRow : OpenClaim := { program := "ytpmbljigdghmiaadoor", sum := "01d21497dbd72d8b3997066914ed24c317d6eea23b1ec496b18e45dd61235c05", func := "dancestudio/dancestudiolaw55.LedgerChecks", spec := "ledgerChecks", inPlace := ["internal/bytealg.IndexByteString", "internal/bytealg.IndexString", "internal/bytealg.abigen_runtime_cmpstring"], unfollowed := true, recurses := true, named := ["internal/bytealg.MaxLen", "unicode/utf8.first", "unicode/utf8.acceptRanges"], apart := false, laid := [("unicode/utf8.acceptRanges", laid_unicode_utf8_acceptRanges), ("unicode/utf8.first", laid_unicode_utf8_first)] }
def LedgerChecksSaid : Prop := ledgerChecksRow.holds Tryd.pinned (OpenSpec.ofChange ledgerChecksSpec)

/-- ITS FALSE NEIGHBOUR: 'it returns false'. Refute it at one input. -/
def ledgerChecksWrong : ChangeSpec := { name := "ledgerChecks", fn := fun _ => fun
  | [d] => { results := [.lit (.bool false)], args := [d] }
  | _ => none }
def LedgerChecksWrongFalsely : Prop := ledgerChecksRow.holds Tryd.pinned (OpenSpec.ofChange ledgerChecksWrong)

/-- 'dancestudiolaw55.LedgerPosts': WHATEVER THE INPUT: true; the input reads as it did. -/
def ledgerPostsSpec : ChangeSpec := { name := "ledgerPosts", fn := fun _ => fun
  | [d1, d2, d3] => { results := [.lit (.bool true)], args := [d1, d2, d3] }
  | _ => none }
def ledgerPostsRow : OpenClaim := { program := "ytpmbljigdghmiaadoor", sum := "01d21497dbd72d8b3997066914ed24c317d6eea23b1ec496b18e45dd61235c05", func := "dancestudio/dancestudiolaw55.LedgerPosts", spec := "ledgerPosts", inPlace := ["internal/bytealg.IndexByteString", "internal/bytealg.IndexString", "internal/bytealg.abigen_runtime_cmpstring"], unfollowed := true, recurses := true, named := ["internal/bytealg.MaxLen", "unicode/utf8.first", "unicode/utf8.acceptRanges"], apart := false, laid := [("unicode/utf8.acceptRanges", laid_unicode_utf8_acceptRanges), ("unicode/utf8.first", laid_unicode_utf8_first)] }
def LedgerPostsSaid : Prop := ledgerPostsRow.holds Tryd.pinned (OpenSpec.ofChange ledgerPostsSpec)

/-- ITS FALSE NEIGHBOUR: 'it returns false'. Refute it at one input. -/
def ledgerPostsWrong : ChangeSpec := { name := "ledgerPosts", fn := fun _ => fun
  | [d1, d2, d3] => { results := [.lit (.bool false)], args := [d1, d2, d3] }
  | _ => none }
def LedgerPostsWrongFalsely : Prop := ledgerPostsRow.holds Tryd.pinned (OpenSpec.ofChange ledgerPostsWrong)

/-- 'dancestudiolaw55.LedgerZero': WHATEVER THE INPUT: true; the input reads as it did. -/
def ledgerZeroSpec : ChangeSpec := { name := "ledgerZero", fn := fun _ => fun
  | [d1, d2] => { results := [.lit (.bool true)], args := [d1, d2] }
  | _ => none }
def ledgerZeroRow : OpenClaim := { program := "ytpmbljigdghmiaadoor", sum := "01d21497dbd72d8b3997066914ed24c317d6eea23b1ec496b18e45dd61235c05", func := "dancestudio/dancestudiolaw55.LedgerZero", spec := "ledgerZero", inPlace := ["internal/bytealg.IndexByteString", "internal/bytealg.IndexString", "internal/bytealg.abigen_runtime_cmpstring"], unfollowed := true, recurses := true, named := ["internal/bytealg.MaxLen", "unicode/utf8.first", "unicode/utf8.acceptRanges"], apart := false, laid := [("unicode/utf8.acceptRanges", laid_unicode_utf8_acceptRanges), ("unicode/utf8.first", laid_unicode_utf8_first)] }
def LedgerZeroSaid : Prop := ledgerZeroRow.holds Tryd.pinned (OpenSpec.ofChange ledgerZeroSpec)

/-- ITS FALSE NEIGHBOUR: 'it returns false'. Refute it at one input. -/
def ledgerZeroWrong : ChangeSpec := { name := "ledgerZero", fn := fun _ => fun
  | [d1, d2] => { results := [.lit (.bool false)], args := [d1, d2] }
  | _ => none }
def LedgerZeroWrongFalsely : Prop := ledgerZeroRow.holds Tryd.pinned (OpenSpec.ofChange ledgerZeroWrong)

/-- 'dancestudiolaw55.LedgerDays': WHATEVER THE INPUT: true; the input reads as it did. -/
def ledgerDaysSpec : ChangeSpec := { name := "ledgerDays", fn := fun _ => fun
  | [d1, d2, d3] => { results := [.lit (.bool true)], args := [d1, d2, d3] }
  | _ => none }
def ledgerDaysRow : OpenClaim := { program := "ytpmbljigdghmiaadoor", sum := "01d21497dbd72d8b3997066914ed24c317d6eea23b1ec496b18e45dd61235c05", func := "dancestudio/dancestudiolaw55.LedgerDays", spec := "ledgerDays", inPlace := ["internal/bytealg.IndexByteString", "internal/bytealg.IndexString", "internal/bytealg.abigen_runtime_cmpstring"], unfollowed := true, recurses := true, named := ["internal/bytealg.MaxLen", "unicode/utf8.first", "unicode/utf8.acceptRanges"], apart := false, laid := [("unicode/utf8.acceptRanges", laid_unicode_utf8_acceptRanges), ("unicode/utf8.first", laid_unicode_utf8_first)] }
def LedgerDaysSaid : Prop := ledgerDaysRow.holds Tryd.pinned (OpenSpec.ofChange ledgerDaysSpec)

/-- ITS FALSE NEIGHBOUR: 'it returns false'. Refute it at one input. -/
def ledgerDaysWrong : ChangeSpec := { name := "ledgerDays", fn := fun _ => fun
  | [d1, d2, d3] => { results := [.lit (.bool false)], args := [d1, d2, d3] }
  | _ => none }
def LedgerDaysWrongFalsely : Prop := ledgerDaysRow.holds Tryd.pinned (OpenSpec.ofChange ledgerDaysWrong)

/-- 'dancestudiolaw55.LedgerCopies': WHATEVER THE INPUT: true; the input reads as it did. -/
def ledgerCopiesSpec : ChangeSpec := { name := "ledgerCopies", fn := fun _ => fun
  | [d1, d2] => { results := [.lit (.bool true)], args := [d1, d2] }
  | _ => none }
def ledgerCopiesRow : OpenClaim := { program := "ytpmbljigdghmiaadoor", sum := "01d21497dbd72d8b3997066914ed24c317d6eea23b1ec496b18e45dd61235c05", func := "dancestudio/dancestudiolaw55.LedgerCopies", spec := "ledgerCopies", inPlace := ["internal/bytealg.IndexByteString", "internal/bytealg.IndexString", "internal/bytealg.abigen_runtime_cmpstring"], unfollowed := true, recurses := true, named := ["internal/bytealg.MaxLen", "unicode/utf8.first", "unicode/utf8.acceptRanges"], apart := false, laid := [("unicode/utf8.acceptRanges", laid_unicode_utf8_acceptRanges), ("unicode/utf8.first", laid_unicode_utf8_first)] }
def LedgerCopiesSaid : Prop := ledgerCopiesRow.holds Tryd.pinned (OpenSpec.ofChange ledgerCopiesSpec)

/-- ITS FALSE NEIGHBOUR: 'it returns false'. Refute it at one input. -/
def ledgerCopiesWrong : ChangeSpec := { name := "ledgerCopies", fn := fun _ => fun
  | [d1, d2] => { results := [.lit (.bool false)], args := [d1, d2] }
  | _ => none }
def LedgerCopiesWrongFalsely : Prop := ledgerCopiesRow.holds Tryd.pinned (OpenSpec.ofChange ledgerCopiesWrong)

/-- 'dancestudiolaw55.LedgerAgain': WHATEVER THE INPUT: true; the input reads as it did. -/
def ledgerAgainSpec : ChangeSpec := { name := "ledgerAgain", fn := fun _ => fun
  | [d] => { results := [.lit (.bool true)], args := [d] }
  | _ => none }
def ledgerAgainRow : OpenClaim := { program := "ytpmbljigdghmiaadoor", sum := "01d21497dbd72d8b3997066914ed24c317d6eea23b1ec496b18e45dd61235c05", func := "dancestudio/dancestudiolaw55.LedgerAgain", spec := "ledgerAgain", inPlace := ["internal/bytealg.IndexByteString", "internal/bytealg.IndexString", "internal/bytealg.abigen_runtime_cmpstring"], unfollowed := true, recurses := true, named := ["internal/bytealg.MaxLen", "unicode/utf8.first", "unicode/utf8.acceptRanges"], apart := false, laid := [("unicode/utf8.acceptRanges", laid_unicode_utf8_acceptRanges), ("unicode/utf8.first", laid_unicode_utf8_first)] }
def LedgerAgainSaid : Prop := ledgerAgainRow.holds Tryd.pinned (OpenSpec.ofChange ledgerAgainSpec)

/-- ITS FALSE NEIGHBOUR: 'it returns false'. Refute it at one input. -/
def ledgerAgainWrong : ChangeSpec := { name := "ledgerAgain", fn := fun _ => fun
  | [d] => { results := [.lit (.bool false)], args := [d] }
  | _ => none }
def LedgerAgainWrongFalsely : Prop := ledgerAgainRow.holds Tryd.pinned (OpenSpec.ofChange ledgerAgainWrong)

/-- 'dancestudiolaw55.LedgerNobody': WHATEVER THE INPUT: true; the input reads as it did. -/
def ledgerNobodySpec : ChangeSpec := { name := "ledgerNobody", fn := fun _ => fun
  | [d1, d2, d3] => { results := [.lit (.bool true)], args := [d1, d2, d3] }
  | _ => none }
def ledgerNobodyRow : OpenClaim := { program := "ytpmbljigdghmiaadoor", sum := "01d21497dbd72d8b3997066914ed24c317d6eea23b1ec496b18e45dd61235c05", func := "dancestudio/dancestudiolaw55.LedgerNobody", spec := "ledgerNobody", inPlace := ["internal/bytealg.IndexByteString", "internal/bytealg.IndexString", "internal/bytealg.abigen_runtime_cmpstring"], unfollowed := true, recurses := true, named := ["internal/bytealg.MaxLen", "unicode/utf8.first", "unicode/utf8.acceptRanges"], apart := false, laid := [("unicode/utf8.acceptRanges", laid_unicode_utf8_acceptRanges), ("unicode/utf8.first", laid_unicode_utf8_first)] }
def LedgerNobodySaid : Prop := ledgerNobodyRow.holds Tryd.pinned (OpenSpec.ofChange ledgerNobodySpec)

/-- ITS FALSE NEIGHBOUR: 'it returns false'. Refute it at one input. -/
def ledgerNobodyWrong : ChangeSpec := { name := "ledgerNobody", fn := fun _ => fun
  | [d1, d2, d3] => { results := [.lit (.bool false)], args := [d1, d2, d3] }
  | _ => none }
def LedgerNobodyWrongFalsely : Prop := ledgerNobodyRow.holds Tryd.pinned (OpenSpec.ofChange ledgerNobodyWrong)

/- THE SECOND FORM. 'bulk': how many values and letters a reading holds, each counted each time it is reached (what is shared counts as often as it is met; a slice's spare places count too). A statement '..UptoSaid' is the law's where the arguments, and the package variables that the reading takes, are together of bulk at most 1048576: NARROWER than '..Said'. Prove '..Said' where nothing that the law and all that it calls make is longer than what came in: it says more and counts as full. Else prove '..UptoSaid'. A law counts once. -/
mutual
def uptoBulk {H : Type} : DataW H → Nat
  | .lit (.string bytes) => bytes.length + 1
  | .lit _ => 1
  | .nil => 1
  | .ptr d => uptoBulk d + 1
  | .slice elems spare => uptoBulkAll elems + uptoBulkAll spare + 1
  | .agg parts => uptoBulkAll parts + 1
  | .iface _ d => uptoBulk d + 1
  | .map entries => uptoBulkEntries entries + 1
  | .held _ => 1
def uptoBulkAll {H : Type} : List (DataW H) → Nat
  | [] => 0
  | d :: r => uptoBulk d + uptoBulkAll r
def uptoBulkEntries {H : Type} : List (Lit × DataW H) → Nat
  | [] => 0
  | x :: r => uptoBulkEntry x + uptoBulkEntries r
def uptoBulkEntry {H : Type} : Lit × DataW H → Nat
  | (.string bytes, d) => bytes.length + uptoBulk d + 1
  | (_, d) => uptoBulk d + 1
 end
def uptoSmall : (H : Type) → List (DataW H) → Bool := fun _ ds => decide (uptoBulkAll ds ≤ 1048576)
def OpenSpec.upto (s : _root_.Go.ChangeSpec) : _root_.Go.OpenSpec := { _root_.Go.OpenSpec.ofChange s with cond := some uptoSmall }

/-- 'dancestudiolaw55.LedgerChecks', WHERE WHAT IT READS IS OF BULK AT MOST 1048576: true; the input reads as it did. -/
def ledgerChecksUptoRow : OpenClaim := { program := "ytpmbljigdghmiaadoor", sum := "01d21497dbd72d8b3997066914ed24c317d6eea23b1ec496b18e45dd61235c05", func := "dancestudio/dancestudiolaw55.LedgerChecks", spec := "ledgerChecks", inPlace := ["internal/bytealg.IndexByteString", "internal/bytealg.IndexString", "internal/bytealg.abigen_runtime_cmpstring"], unfollowed := true, recurses := true, named := ["internal/bytealg.MaxLen", "unicode/utf8.first", "unicode/utf8.acceptRanges"], apart := false, laid := [("unicode/utf8.acceptRanges", laid_unicode_utf8_acceptRanges), ("unicode/utf8.first", laid_unicode_utf8_first)], narrowed := true }
def LedgerChecksUptoSaid : Prop := ledgerChecksUptoRow.holds Tryd.pinned (OpenSpec.upto ledgerChecksSpec)

/-- 'dancestudiolaw55.LedgerPosts', WHERE WHAT IT READS IS OF BULK AT MOST 1048576: true; the input reads as it did. -/
def ledgerPostsUptoRow : OpenClaim := { program := "ytpmbljigdghmiaadoor", sum := "01d21497dbd72d8b3997066914ed24c317d6eea23b1ec496b18e45dd61235c05", func := "dancestudio/dancestudiolaw55.LedgerPosts", spec := "ledgerPosts", inPlace := ["internal/bytealg.IndexByteString", "internal/bytealg.IndexString", "internal/bytealg.abigen_runtime_cmpstring"], unfollowed := true, recurses := true, named := ["internal/bytealg.MaxLen", "unicode/utf8.first", "unicode/utf8.acceptRanges"], apart := false, laid := [("unicode/utf8.acceptRanges", laid_unicode_utf8_acceptRanges), ("unicode/utf8.first", laid_unicode_utf8_first)], narrowed := true }
def LedgerPostsUptoSaid : Prop := ledgerPostsUptoRow.holds Tryd.pinned (OpenSpec.upto ledgerPostsSpec)

/-- 'dancestudiolaw55.LedgerZero', WHERE WHAT IT READS IS OF BULK AT MOST 1048576: true; the input reads as it did. -/
def ledgerZeroUptoRow : OpenClaim := { program := "ytpmbljigdghmiaadoor", sum := "01d21497dbd72d8b3997066914ed24c317d6eea23b1ec496b18e45dd61235c05", func := "dancestudio/dancestudiolaw55.LedgerZero", spec := "ledgerZero", inPlace := ["internal/bytealg.IndexByteString", "internal/bytealg.IndexString", "internal/bytealg.abigen_runtime_cmpstring"], unfollowed := true, recurses := true, named := ["internal/bytealg.MaxLen", "unicode/utf8.first", "unicode/utf8.acceptRanges"], apart := false, laid := [("unicode/utf8.acceptRanges", laid_unicode_utf8_acceptRanges), ("unicode/utf8.first", laid_unicode_utf8_first)], narrowed := true }
def LedgerZeroUptoSaid : Prop := ledgerZeroUptoRow.holds Tryd.pinned (OpenSpec.upto ledgerZeroSpec)

/-- 'dancestudiolaw55.LedgerDays', WHERE WHAT IT READS IS OF BULK AT MOST 1048576: true; the input reads as it did. -/
def ledgerDaysUptoRow : OpenClaim := { program := "ytpmbljigdghmiaadoor", sum := "01d21497dbd72d8b3997066914ed24c317d6eea23b1ec496b18e45dd61235c05", func := "dancestudio/dancestudiolaw55.LedgerDays", spec := "ledgerDays", inPlace := ["internal/bytealg.IndexByteString", "internal/bytealg.IndexString", "internal/bytealg.abigen_runtime_cmpstring"], unfollowed := true, recurses := true, named := ["internal/bytealg.MaxLen", "unicode/utf8.first", "unicode/utf8.acceptRanges"], apart := false, laid := [("unicode/utf8.acceptRanges", laid_unicode_utf8_acceptRanges), ("unicode/utf8.first", laid_unicode_utf8_first)], narrowed := true }
def LedgerDaysUptoSaid : Prop := ledgerDaysUptoRow.holds Tryd.pinned (OpenSpec.upto ledgerDaysSpec)

/-- 'dancestudiolaw55.LedgerCopies', WHERE WHAT IT READS IS OF BULK AT MOST 1048576: true; the input reads as it did. -/
def ledgerCopiesUptoRow : OpenClaim := { program := "ytpmbljigdghmiaadoor", sum := "01d21497dbd72d8b3997066914ed24c317d6eea23b1ec496b18e45dd61235c05", func := "dancestudio/dancestudiolaw55.LedgerCopies", spec := "ledgerCopies", inPlace := ["internal/bytealg.IndexByteString", "internal/bytealg.IndexString", "internal/bytealg.abigen_runtime_cmpstring"], unfollowed := true, recurses := true, named := ["internal/bytealg.MaxLen", "unicode/utf8.first", "unicode/utf8.acceptRanges"], apart := false, laid := [("unicode/utf8.acceptRanges", laid_unicode_utf8_acceptRanges), ("unicode/utf8.first", laid_unicode_utf8_first)], narrowed := true }
def LedgerCopiesUptoSaid : Prop := ledgerCopiesUptoRow.holds Tryd.pinned (OpenSpec.upto ledgerCopiesSpec)

/-- 'dancestudiolaw55.LedgerAgain', WHERE WHAT IT READS IS OF BULK AT MOST 1048576: true; the input reads as it did. -/
def ledgerAgainUptoRow : OpenClaim := { program := "ytpmbljigdghmiaadoor", sum := "01d21497dbd72d8b3997066914ed24c317d6eea23b1ec496b18e45dd61235c05", func := "dancestudio/dancestudiolaw55.LedgerAgain", spec := "ledgerAgain", inPlace := ["internal/bytealg.IndexByteString", "internal/bytealg.IndexString", "internal/bytealg.abigen_runtime_cmpstring"], unfollowed := true, recurses := true, named := ["internal/bytealg.MaxLen", "unicode/utf8.first", "unicode/utf8.acceptRanges"], apart := false, laid := [("unicode/utf8.acceptRanges", laid_unicode_utf8_acceptRanges), ("unicode/utf8.first", laid_unicode_utf8_first)], narrowed := true }
def LedgerAgainUptoSaid : Prop := ledgerAgainUptoRow.holds Tryd.pinned (OpenSpec.upto ledgerAgainSpec)

/-- 'dancestudiolaw55.LedgerNobody', WHERE WHAT IT READS IS OF BULK AT MOST 1048576: true; the input reads as it did. -/
def ledgerNobodyUptoRow : OpenClaim := { program := "ytpmbljigdghmiaadoor", sum := "01d21497dbd72d8b3997066914ed24c317d6eea23b1ec496b18e45dd61235c05", func := "dancestudio/dancestudiolaw55.LedgerNobody", spec := "ledgerNobody", inPlace := ["internal/bytealg.IndexByteString", "internal/bytealg.IndexString", "internal/bytealg.abigen_runtime_cmpstring"], unfollowed := true, recurses := true, named := ["internal/bytealg.MaxLen", "unicode/utf8.first", "unicode/utf8.acceptRanges"], apart := false, laid := [("unicode/utf8.acceptRanges", laid_unicode_utf8_acceptRanges), ("unicode/utf8.first", laid_unicode_utf8_first)], narrowed := true }
def LedgerNobodyUptoSaid : Prop := ledgerNobodyUptoRow.holds Tryd.pinned (OpenSpec.upto ledgerNobodySpec)

end Rows
end Go.Proofs.YtpmbljigdghmiaaDoor
