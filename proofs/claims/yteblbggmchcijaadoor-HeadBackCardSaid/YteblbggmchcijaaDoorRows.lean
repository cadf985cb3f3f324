/-
  NARROWER THAN 'FOR EVERY INPUT', by the rows' own cells (each row's printed sentence says how): HeadReads: laid · HeadNumbers: laid · HeadWrites: laid · HeadBack: laid · HeadFinds: laid · HeadWithin: laid.
  DERIVED. THE GIVEN ROWS OF THIS SEAT. 6 by the template 'for every input the law returns true; each argument reads behind the call as it read before'; 0 by the template 'total and deterministic' (their statements: YteblbggmchcijaaDoorTotals.lean).
  GIVEN WITH THE SEED: the statements are not yours to turn. If you find one false, say at which input.
  Laid BY PROGRAM, IN A SANDBOX (cutbox-rows.mjs): the forced cells as the released guide's own fill.sh prints them over the translation ef33a0a5a81c7061… (all of the seat's roots in one cut). By AI agents, Wed Nov 11 2026. No macro, syntax, notation, axiom, sorry.
-/
import Derived.Test.YteblbggmchcijaaDoorChecked
import GoSem.PinnedTables
import GoSem.Claim
import GoSem.ClaimJoined
import GoSem.ClaimMapViews
import Derived.JoinedTies
import Derived.KernelRfl
namespace Go.Proofs.YteblbggmchcijaaDoor
/- THE CELL 'sum', in the pinned program and in every row, IS THE sha256 OF THE DUMP (.gsa) THAT YteblbggmchcijaaDoorProg.lean LOADS. Nothing in Lean hashes anything: it is a label: what it is worth is what the hold of that sum in a sandbox is worth. -/
noncomputable def Tryd.pinned : Pinned := { name := "yteblbggmchcijaadoor", sum := "ef33a0a5a81c7061f33edbcf44ffeae463ba7cf2718e9aa6dea4f4bf1656de5a", checked := Tryd.checked }
namespace Rows
def none {H : Type} : Left H := { results := [], args := [] }

/- WHAT THE LISTED PACKAGE-LEVEL VARIABLES READ AS WHEN THE CALL BEGINS. Each datum BY PROGRAM (the guide's laid-datum.mjs) off the statement by which the dump's own 'gosem.cut.vars' lays the variable. In a bare row this is a premise. The card (YteblbggmchcijaaDoorCards.lean) ties it to the program's text. -/
def laid_unicode_utf8_acceptRanges {H : Type} : DataW H := .agg [.agg [.lit (.int .u8 128), .lit (.int .u8 191)], .agg [.lit (.int .u8 160), .lit (.int .u8 191)], .agg [.lit (.int .u8 128), .lit (.int .u8 159)], .agg [.lit (.int .u8 144), .lit (.int .u8 191)], .agg [.lit (.int .u8 128), .lit (.int .u8 143)], .agg [.lit (.int .u8 0), .lit (.int .u8 0)], .agg [.lit (.int .u8 0), .lit (.int .u8 0)], .agg [.lit (.int .u8 0), .lit (.int .u8 0)], .agg [.lit (.int .u8 0), .lit (.int .u8 0)], .agg [.lit (.int .u8 0), .lit (.int .u8 0)], .agg [.lit (.int .u8 0), .lit (.int .u8 0)], .agg [.lit (.int .u8 0), .lit (.int .u8 0)], .agg [.lit (.int .u8 0), .lit (.int .u8 0)], .agg [.lit (.int .u8 0), .lit (.int .u8 0)], .agg [.lit (.int .u8 0), .lit (.int .u8 0)], .agg [.lit (.int .u8 0), .lit (.int .u8 0)]]
def laid_sutler_head_fields {H : Type} : DataW H := .agg [.agg [.lit (.int .i64 0), .lit (.int .i64 100)], .agg [.lit (.int .i64 100), .lit (.int .i64 8)], .agg [.lit (.int .i64 108), .lit (.int .i64 8)], .agg [.lit (.int .i64 116), .lit (.int .i64 8)], .agg [.lit (.int .i64 124), .lit (.int .i64 12)], .agg [.lit (.int .i64 136), .lit (.int .i64 12)], .agg [.lit (.int .i64 148), .lit (.int .i64 8)], .agg [.lit (.int .i64 156), .lit (.int .i64 1)], .agg [.lit (.int .i64 157), .lit (.int .i64 100)], .agg [.lit (.int .i64 257), .lit (.int .i64 8)], .agg [.lit (.int .i64 345), .lit (.int .i64 155)]]
/-- One of Go's own tables, pinned by name: the form's constant. -/
def laid_unicode_utf8_first : DataW Unit := Go.Pinned.utf8First

/-- 'sutlerlaw13.HeadReads': WHATEVER THE INPUT: true; the input reads as it did. -/
def headReadsSpec : ChangeSpec := { name := "headReads", fn := fun _ => fun
  | [d] => { results := [.lit (.bool true)], args := [d] }
  | _ => none }
def headReadsRow : OpenClaim := { program := "yteblbggmchcijaadoor", sum := "ef33a0a5a81c7061f33edbcf44ffeae463ba7cf2718e9aa6dea4f4bf1656de5a", func := "sutler/sutlerlaw13.HeadReads", spec := "headReads", inPlace := ["internal/bytealg.IndexByte", "internal/bytealg.Index", "internal/bytealg.IndexByteString", "internal/bytealg.IndexString", "internal/bytealg.MakeNoZero"], unfollowed := true, recurses := true, named := ["sutler/head.fields", "unicode/utf8.first", "unicode/utf8.acceptRanges", "internal/bytealg.MaxLen"], apart := false, laid := [("unicode/utf8.acceptRanges", laid_unicode_utf8_acceptRanges), ("sutler/head.fields", laid_sutler_head_fields), ("unicode/utf8.first", laid_unicode_utf8_first)] }
def HeadReadsSaid : Prop := headReadsRow.holds Tryd.pinned (OpenSpec.ofChange headReadsSpec)

/-- ITS FALSE NEIGHBOUR: 'it returns false'. Refute it at one input. -/
def headReadsWrong : ChangeSpec := { name := "headReads", fn := fun _ => fun
  | [d] => { results := [.lit (.bool false)], args := [d] }
  | _ => none }
def HeadReadsWrongFalsely : Prop := headReadsRow.holds Tryd.pinned (OpenSpec.ofChange headReadsWrong)

/-- 'sutlerlaw13.HeadNumbers': WHATEVER THE INPUT: true; the input reads as it did. -/
def headNumbersSpec : ChangeSpec := { name := "headNumbers", fn := fun _ => fun
  | [d] => { results := [.lit (.bool true)], args := [d] }
  | _ => none }
def headNumbersRow : OpenClaim := { program := "yteblbggmchcijaadoor", sum := "ef33a0a5a81c7061f33edbcf44ffeae463ba7cf2718e9aa6dea4f4bf1656de5a", func := "sutler/sutlerlaw13.HeadNumbers", spec := "headNumbers", inPlace := ["internal/bytealg.IndexByteString", "internal/bytealg.IndexString", "internal/bytealg.MakeNoZero", "internal/bytealg.IndexByte", "internal/bytealg.Index"], unfollowed := true, recurses := true, named := ["unicode/utf8.first", "unicode/utf8.acceptRanges", "sutler/head.fields", "internal/bytealg.MaxLen"], apart := false, laid := [("unicode/utf8.acceptRanges", laid_unicode_utf8_acceptRanges), ("sutler/head.fields", laid_sutler_head_fields), ("unicode/utf8.first", laid_unicode_utf8_first)] }
def HeadNumbersSaid : Prop := headNumbersRow.holds Tryd.pinned (OpenSpec.ofChange headNumbersSpec)

/-- ITS FALSE NEIGHBOUR: 'it returns false'. Refute it at one input. -/
def headNumbersWrong : ChangeSpec := { name := "headNumbers", fn := fun _ => fun
  | [d] => { results := [.lit (.bool false)], args := [d] }
  | _ => none }
def HeadNumbersWrongFalsely : Prop := headNumbersRow.holds Tryd.pinned (OpenSpec.ofChange headNumbersWrong)

/-- 'sutlerlaw13.HeadWrites': WHATEVER THE INPUT: true; the input reads as it did. -/
def headWritesSpec : ChangeSpec := { name := "headWrites", fn := fun _ => fun
  | [d] => { results := [.lit (.bool true)], args := [d] }
  | _ => none }
def headWritesRow : OpenClaim := { program := "yteblbggmchcijaadoor", sum := "ef33a0a5a81c7061f33edbcf44ffeae463ba7cf2718e9aa6dea4f4bf1656de5a", func := "sutler/sutlerlaw13.HeadWrites", spec := "headWrites", inPlace := ["internal/bytealg.IndexByteString", "internal/bytealg.IndexString", "internal/bytealg.MakeNoZero", "internal/bytealg.IndexByte", "internal/bytealg.Index"], unfollowed := true, recurses := true, named := ["sutler/head.fields", "internal/bytealg.MaxLen", "unicode/utf8.first", "unicode/utf8.acceptRanges"], apart := false, laid := [("unicode/utf8.acceptRanges", laid_unicode_utf8_acceptRanges), ("sutler/head.fields", laid_sutler_head_fields), ("unicode/utf8.first", laid_unicode_utf8_first)] }
def HeadWritesSaid : Prop := headWritesRow.holds Tryd.pinned (OpenSpec.ofChange headWritesSpec)

/-- ITS FALSE NEIGHBOUR: 'it returns false'. Refute it at one input. -/
def headWritesWrong : ChangeSpec := { name := "headWrites", fn := fun _ => fun
  | [d] => { results := [.lit (.bool false)], args := [d] }
  | _ => none }
def HeadWritesWrongFalsely : Prop := headWritesRow.holds Tryd.pinned (OpenSpec.ofChange headWritesWrong)

/-- 'sutlerlaw13.HeadBack': WHATEVER THE INPUT: true; the input reads as it did. -/
def headBackSpec : ChangeSpec := { name := "headBack", fn := fun _ => fun
  | [d] => { results := [.lit (.bool true)], args := [d] }
  | _ => none }
def headBackRow : OpenClaim := { program := "yteblbggmchcijaadoor", sum := "ef33a0a5a81c7061f33edbcf44ffeae463ba7cf2718e9aa6dea4f4bf1656de5a", func := "sutler/sutlerlaw13.HeadBack", spec := "headBack", inPlace := ["internal/bytealg.IndexByteString", "internal/bytealg.IndexString", "internal/bytealg.MakeNoZero", "internal/bytealg.IndexByte", "internal/bytealg.Index"], unfollowed := true, recurses := true, named := ["sutler/head.fields", "internal/bytealg.MaxLen", "unicode/utf8.first", "unicode/utf8.acceptRanges"], apart := false, laid := [("unicode/utf8.acceptRanges", laid_unicode_utf8_acceptRanges), ("sutler/head.fields", laid_sutler_head_fields), ("unicode/utf8.first", laid_unicode_utf8_first)] }
def HeadBackSaid : Prop := headBackRow.holds Tryd.pinned (OpenSpec.ofChange headBackSpec)

/-- ITS FALSE NEIGHBOUR: 'it returns false'. Refute it at one input. -/
def headBackWrong : ChangeSpec := { name := "headBack", fn := fun _ => fun
  | [d] => { results := [.lit (.bool false)], args := [d] }
  | _ => none }
def HeadBackWrongFalsely : Prop := headBackRow.holds Tryd.pinned (OpenSpec.ofChange headBackWrong)

/-- 'sutlerlaw13.HeadFinds': WHATEVER THE INPUT: true; the input reads as it did. -/
def headFindsSpec : ChangeSpec := { name := "headFinds", fn := fun _ => fun
  | [d1, d2, d3] => { results := [.lit (.bool true)], args := [d1, d2, d3] }
  | _ => none }
def headFindsRow : OpenClaim := { program := "yteblbggmchcijaadoor", sum := "ef33a0a5a81c7061f33edbcf44ffeae463ba7cf2718e9aa6dea4f4bf1656de5a", func := "sutler/sutlerlaw13.HeadFinds", spec := "headFinds", inPlace := ["internal/bytealg.IndexByteString", "internal/bytealg.IndexString", "internal/bytealg.MakeNoZero", "internal/bytealg.IndexByte", "internal/bytealg.Index"], unfollowed := true, recurses := true, named := ["sutler/head.fields", "internal/bytealg.MaxLen", "unicode/utf8.first", "unicode/utf8.acceptRanges"], apart := false, laid := [("unicode/utf8.acceptRanges", laid_unicode_utf8_acceptRanges), ("sutler/head.fields", laid_sutler_head_fields), ("unicode/utf8.first", laid_unicode_utf8_first)] }
def HeadFindsSaid : Prop := headFindsRow.holds Tryd.pinned (OpenSpec.ofChange headFindsSpec)

/-- ITS FALSE NEIGHBOUR: 'it returns false'. Refute it at one input. -/
def headFindsWrong : ChangeSpec := { name := "headFinds", fn := fun _ => fun
  | [d1, d2, d3] => { results := [.lit (.bool false)], args := [d1, d2, d3] }
  | _ => none }
def HeadFindsWrongFalsely : Prop := headFindsRow.holds Tryd.pinned (OpenSpec.ofChange headFindsWrong)

/-- 'sutlerlaw13.HeadWithin': WHATEVER THE INPUT: true; the input reads as it did. -/
def headWithinSpec : ChangeSpec := { name := "headWithin", fn := fun _ => fun
  | [d] => { results := [.lit (.bool true)], args := [d] }
  | _ => none }
def headWithinRow : OpenClaim := { program := "yteblbggmchcijaadoor", sum := "ef33a0a5a81c7061f33edbcf44ffeae463ba7cf2718e9aa6dea4f4bf1656de5a", func := "sutler/sutlerlaw13.HeadWithin", spec := "headWithin", inPlace := ["internal/bytealg.IndexByteString", "internal/bytealg.IndexString", "internal/bytealg.MakeNoZero", "internal/bytealg.IndexByte", "internal/bytealg.Index"], unfollowed := true, recurses := true, named := ["sutler/head.fields", "internal/bytealg.MaxLen", "unicode/utf8.first", "unicode/utf8.acceptRanges"], apart := false, laid := [("unicode/utf8.acceptRanges", laid_unicode_utf8_acceptRanges), ("sutler/head.fields", laid_sutler_head_fields), ("unicode/utf8.first", laid_unicode_utf8_first)] }
def HeadWithinSaid : Prop := headWithinRow.holds Tryd.pinned (OpenSpec.ofChange headWithinSpec)

/-- ITS FALSE NEIGHBOUR: 'it returns false'. Refute it at one input. -/
def headWithinWrong : ChangeSpec := { name := "headWithin", fn := fun _ => fun
  | [d] => { results := [.lit (.bool false)], args := [d] }
  | _ => none }
def HeadWithinWrongFalsely : Prop := headWithinRow.holds Tryd.pinned (OpenSpec.ofChange headWithinWrong)

/- THE SECOND FORM. 'bulk': how many values and letters a reading holds, each counted each time it is reached (what is shared counts as often as it is met; a slice's spare places count too). A statement '..UptoSaid' is the law's where the arguments, and the package variables that the reading takes, are together of bulk at most 1048576: NARROWER than '..Said'. Prove '..Said' where nothing that the law and all that it calls make is longer than what came in: it says more and counts as full. Else prove '..UptoSaid'. A law counts once. -/
mutual
def uptoBulk {H : Type} : DataW H → Nat
  | .lit (.string bytes) => bytes.length + 1
  | .lit _ => 1
  | .nil => 1
  | .ptr d => uptoBulk d + 1
  | .slice elems spare => uptoBulkAll elems + uptoBulkAll spare + 1
  | .agg parts => uptoBulkAll parts + 1
  | .iface _ d => uptoBulk d + 1
  | .map entries => uptoBulkEntries entries + 1
  | .held _ => 1
def uptoBulkAll {H : Type} : List (DataW H) → Nat
  | [] => 0
  | d :: r => uptoBulk d + uptoBulkAll r
def uptoBulkEntries {H : Type} : List (Lit × DataW H) → Nat
  | [] => 0
  | x :: r => uptoBulkEntry x + uptoBulkEntries r
def uptoBulkEntry {H : Type} : Lit × DataW H → Nat
  | (.string bytes, d) => bytes.length + uptoBulk d + 1
  | (_, d) => uptoBulk d + 1
 end
def uptoSmall : (H : Type) → List (DataW H) → Bool := fun _ ds => decide (uptoBulkAll ds ≤ 1048576)
def OpenSpec.upto (s : _root_.Go.ChangeSpec) : _root_.Go.OpenSpec := { _root_.Go.OpenSpec.ofChange s with cond := some uptoSmall }

/-- 'sutlerlaw13.HeadReads', WHERE WHAT IT READS IS OF BULK AT MOST 1048576: true; the input reads as it did. -/
def headReadsUptoRow : OpenClaim := { program := "yteblbggmchcijaadoor", sum := "ef33a0a5a81c7061f33edbcf44ffeae463ba7cf2718e9aa6dea4f4bf1656de5a", func := "sutler/sutlerlaw13.HeadReads", spec := "headReads", inPlace := ["internal/bytealg.IndexByte", "internal/bytealg.Index", "internal/bytealg.IndexByteString", "internal/bytealg.IndexString", "internal/bytealg.MakeNoZero"], unfollowed := true, recurses := true, named := ["sutler/head.fields", "unicode/utf8.first", "unicode/utf8.acceptRanges", "internal/bytealg.MaxLen"], apart := false, laid := [("unicode/utf8.acceptRanges", laid_unicode_utf8_acceptRanges), ("sutler/head.fields", laid_sutler_head_fields), ("unicode/utf8.first", laid_unicode_utf8_first)], narrowed := true }
def HeadReadsUptoSaid : Prop := headReadsUptoRow.holds Tryd.pinned (OpenSpec.upto headReadsSpec)

/-- 'sutlerlaw13.HeadNumbers', WHERE WHAT IT READS IS OF BULK AT MOST 1048576: true; the input reads as it did. -/
def headNumbersUptoRow : OpenClaim := { program := "yteblbggmchcijaadoor", sum := "ef33a0a5a81c7061f33edbcf44ffeae463ba7cf2718e9aa6dea4f4bf1656de5a", func := "sutler/sutlerlaw13.HeadNumbers", spec := "headNumbers", inPlace := ["internal/bytealg.IndexByteString", "internal/bytealg.IndexString", "internal/bytealg.MakeNoZero", "internal/bytealg.IndexByte", "internal/bytealg.Index"], unfollowed := true, recurses := true, named := ["unicode/utf8.first", "unicode/utf8.acceptRanges", "sutler/head.fields", "internal/bytealg.MaxLen"], apart := false, laid := [("unicode/utf8.acceptRanges", laid_unicode_utf8_acceptRanges), ("sutler/head.fields", laid_sutler_head_fields), ("unicode/utf8.first", laid_unicode_utf8_first)], narrowed := true }
def HeadNumbersUptoSaid : Prop := headNumbersUptoRow.holds Tryd.pinned (OpenSpec.upto headNumbersSpec)

/-- 'sutlerlaw13.HeadWrites', WHERE WHAT IT READS IS OF BULK AT MOST 1048576: true; the input reads as it did. -/
def headWritesUptoRow : OpenClaim := { program := "yteblbggmchcijaadoor", sum := "ef33a0a5a81c7061f33edbcf44ffeae463ba7cf2718e9aa6dea4f4bf1656de5a", func := "sutler/sutlerlaw13.HeadWrites", spec := "headWrites", inPlace := ["internal/bytealg.IndexByteString", "internal/bytealg.IndexString", "internal/bytealg.MakeNoZero", "internal/bytealg.IndexByte", "internal/bytealg.Index"], unfollowed := true, recurses := true, named := ["sutler/head.fields", "internal/bytealg.MaxLen", "unicode/utf8.first", "unicode/utf8.acceptRanges"], apart := false, laid := [("unicode/utf8.acceptRanges", laid_unicode_utf8_acceptRanges), ("sutler/head.fields", laid_sutler_head_fields), ("unicode/utf8.first", laid_unicode_utf8_first)], narrowed := true }
def HeadWritesUptoSaid : Prop := headWritesUptoRow.holds Tryd.pinned (OpenSpec.upto headWritesSpec)

/-- 'sutlerlaw13.HeadBack', WHERE WHAT IT READS IS OF BULK AT MOST 1048576: true; the input reads as it did. -/
def headBackUptoRow : OpenClaim := { program := "yteblbggmchcijaadoor", sum := "ef33a0a5a81c7061f33edbcf44ffeae463ba7cf2718e9aa6dea4f4bf1656de5a", func := "sutler/sutlerlaw13.HeadBack", spec := "headBack", inPlace := ["internal/bytealg.IndexByteString", "internal/bytealg.IndexString", "internal/bytealg.MakeNoZero", "internal/bytealg.IndexByte", "internal/bytealg.Index"], unfollowed := true, recurses := true, named := ["sutler/head.fields", "internal/bytealg.MaxLen", "unicode/utf8.first", "unicode/utf8.acceptRanges"], apart := false, laid := [("unicode/utf8.acceptRanges", laid_unicode_utf8_acceptRanges), ("sutler/head.fields", laid_sutler_head_fields), ("unicode/utf8.first", laid_unicode_utf8_first)], narrowed := true }
def HeadBackUptoSaid : Prop := headBackUptoRow.holds Tryd.pinned (OpenSpec.upto headBackSpec)

/-- 'sutlerlaw13.HeadFinds', WHERE WHAT IT READS IS OF BULK AT MOST 1048576: true; the input reads as it did. -/
def headFindsUptoRow : OpenClaim := { program := "yteblbggmchcijaadoor", sum := "ef33a0a5a81c7061f33edbcf44ffeae463ba7cf2718e9aa6dea4f4bf1656de5a", func := "sutler/sutlerlaw13.HeadFinds", spec := "headFinds", inPlace := ["internal/bytealg.IndexByteString", "internal/bytealg.IndexString", "internal/bytealg.MakeNoZero", "internal/bytealg.IndexByte", "internal/bytealg.Index"], unfollowed := true, recurses := true, named := ["sutler/head.fields", "internal/bytealg.MaxLen", "unicode/utf8.first", "unicode/utf8.acceptRanges"], apart := false, laid := [("unicode/utf8.acceptRanges", laid_unicode_utf8_acceptRanges), ("sutler/head.fields", laid_sutler_head_fields), ("unicode/utf8.first", laid_unicode_utf8_first)], narrowed := true }
def HeadFindsUptoSaid : Prop := headFindsUptoRow.holds Tryd.pinned (OpenSpec.upto headFindsSpec)

/-- 'sutlerlaw13.HeadWithin', WHERE WHAT IT READS IS OF BULK AT MOST 1048576: true; the input reads as it did. -/
def headWithinUptoRow : OpenClaim := { program := "yteblbggmchcijaadoor", sum := "ef33a0a5a81c7061f33edbcf44ffeae463ba7cf2718e9aa6dea4f4bf1656de5a", func := "sutler/sutlerlaw13.HeadWithin", spec := "headWithin", inPlace := ["internal/bytealg.IndexByteString", "internal/bytealg.IndexString", "internal/bytealg.MakeNoZero", "internal/bytealg.IndexByte", "internal/bytealg.Index"], unfollowed := true, recurses := true, named := ["sutler/head.fields", "internal/bytealg.MaxLen", "unicode/utf8.first", "unicode/utf8.acceptRanges"], apart := false, laid := [("unicode/utf8.acceptRanges", laid_unicode_utf8_acceptRanges), ("sutler/head.fields", laid_sutler_head_fields), ("unicode/utf8.first", laid_unicode_utf8_first)], narrowed := true }
def HeadWithinUptoSaid : Prop := headWithinUptoRow.holds Tryd.pinned (OpenSpec.upto headWithinSpec)

end Rows
end Go.Proofs.YteblbggmchcijaaDoor
