/-
  NARROWER THAN 'FOR EVERY INPUT', by the rows' own cells (each row's printed sentence says how): WalNone: laid · WalWhole: laid · WalCosts: laid · WalAgain: laid.
  DERIVED. THE GIVEN ROWS OF THIS SEAT. 4 by the template 'for every input the law returns true; each argument reads behind the call as it read before'; 0 by the template 'total and deterministic' (their statements: YtfhdiddlloiglaaDoorTotals.lean).
  GIVEN WITH THE SEED: the statements are not yours to turn. If you find one false, say at which input.
  Laid BY PROGRAM, IN A SANDBOX (cutbox-rows.mjs): the forced cells as the released guide's own fill.sh prints them over the translation 2ab2e6b2217d15b3… (all of the seat's roots in one cut). By AI agents, Wed Nov 11 2026. No macro, syntax, notation, axiom, sorry.
-/
import Derived.Test.YtfhdiddlloiglaaDoorChecked
import GoSem.Claim
import GoSem.ClaimJoined
import GoSem.ClaimMapViews
import Derived.JoinedTies
import Derived.KernelRfl
namespace Go.Proofs.YtfhdiddlloiglaaDoor
/- THE CELL 'sum', in the pinned program and in every row, IS THE sha256 OF THE DUMP (.gsa) THAT YtfhdiddlloiglaaDoorProg.lean LOADS. Nothing in Lean hashes anything: it is a label: what it is worth is what the hold of that sum in a sandbox is worth. -/
noncomputable def Tryd.pinned : Pinned := { name := "ytfhdiddlloiglaadoor", sum := "2ab2e6b2217d15b3b9a3ec52709f4eb860806aa2367e5a191d26e41ab8b3fcd7", checked := Tryd.checked }
namespace Rows
def none {H : Type} : Left H := { results := [], args := [] }

/- WHAT THE LISTED PACKAGE-LEVEL VARIABLES READ AS WHEN THE CALL BEGINS. Each datum BY PROGRAM (the guide's laid-datum.mjs) off the statement by which the dump's own 'gosem.cut.vars' lays the variable. In a bare row this is a premise. The card (YtfhdiddlloiglaaDoorCards.lean) ties it to the program's text. -/
def laid_sutler_crc_half {H : Type} : DataW H := .agg [.lit (.int .u32 0), .lit (.int .u32 498536548), .lit (.int .u32 997073096), .lit (.int .u32 651767980), .lit (.int .u32 1994146192), .lit (.int .u32 1802195444), .lit (.int .u32 1303535960), .lit (.int .u32 1342533948), .lit (.int .u32 3988292384), .lit (.int .u32 4027552580), .lit (.int .u32 3604390888), .lit (.int .u32 3412177804), .lit (.int .u32 2607071920), .lit (.int .u32 2262029012), .lit (.int .u32 2685067896), .lit (.int .u32 3183342108)]

/-- 'sutlerlaw04.WalNone': WHATEVER THE INPUT: true; the input reads as it did. -/
def walNoneSpec : ChangeSpec := { name := "walNone", fn := fun _ => fun
  | [d] => { results := [.lit (.bool true)], args := [d] }
  | _ => none }
def walNoneRow : OpenClaim := { program := "ytfhdiddlloiglaadoor", sum := "2ab2e6b2217d15b3b9a3ec52709f4eb860806aa2367e5a191d26e41ab8b3fcd7", func := "sutler/sutlerlaw04.WalNone", spec := "walNone", unfollowed := true, recurses := true, named := ["sutler/crc.half"], plainKeys := false, apart := false, laid := [("sutler/crc.half", laid_sutler_crc_half)] }
def WalNoneSaid : Prop := walNoneRow.holds Tryd.pinned (OpenSpec.ofChange walNoneSpec)

/-- ITS FALSE NEIGHBOUR: 'it returns false'. Refute it at one input. -/
def walNoneWrong : ChangeSpec := { name := "walNone", fn := fun _ => fun
  | [d] => { results := [.lit (.bool false)], args := [d] }
  | _ => none }
def WalNoneWrongFalsely : Prop := walNoneRow.holds Tryd.pinned (OpenSpec.ofChange walNoneWrong)

/-- 'sutlerlaw04.WalWhole': WHATEVER THE INPUT: true; the input reads as it did. -/
def walWholeSpec : ChangeSpec := { name := "walWhole", fn := fun _ => fun
  | [d1, d2, d3, d4] => { results := [.lit (.bool true)], args := [d1, d2, d3, d4] }
  | _ => none }
def walWholeRow : OpenClaim := { program := "ytfhdiddlloiglaadoor", sum := "2ab2e6b2217d15b3b9a3ec52709f4eb860806aa2367e5a191d26e41ab8b3fcd7", func := "sutler/sutlerlaw04.WalWhole", spec := "walWhole", unfollowed := true, recurses := true, named := ["sutler/crc.half"], plainKeys := false, apart := false, laid := [("sutler/crc.half", laid_sutler_crc_half)] }
def WalWholeSaid : Prop := walWholeRow.holds Tryd.pinned (OpenSpec.ofChange walWholeSpec)

/-- ITS FALSE NEIGHBOUR: 'it returns false'. Refute it at one input. -/
def walWholeWrong : ChangeSpec := { name := "walWhole", fn := fun _ => fun
  | [d1, d2, d3, d4] => { results := [.lit (.bool false)], args := [d1, d2, d3, d4] }
  | _ => none }
def WalWholeWrongFalsely : Prop := walWholeRow.holds Tryd.pinned (OpenSpec.ofChange walWholeWrong)

/-- 'sutlerlaw04.WalCosts': WHATEVER THE INPUT: true; the input reads as it did. -/
def walCostsSpec : ChangeSpec := { name := "walCosts", fn := fun _ => fun
  | [d1, d2, d3] => { results := [.lit (.bool true)], args := [d1, d2, d3] }
  | _ => none }
def walCostsRow : OpenClaim := { program := "ytfhdiddlloiglaadoor", sum := "2ab2e6b2217d15b3b9a3ec52709f4eb860806aa2367e5a191d26e41ab8b3fcd7", func := "sutler/sutlerlaw04.WalCosts", spec := "walCosts", unfollowed := true, recurses := true, named := ["sutler/crc.half"], plainKeys := false, apart := false, laid := [("sutler/crc.half", laid_sutler_crc_half)] }
def WalCostsSaid : Prop := walCostsRow.holds Tryd.pinned (OpenSpec.ofChange walCostsSpec)

/-- ITS FALSE NEIGHBOUR: 'it returns false'. Refute it at one input. -/
def walCostsWrong : ChangeSpec := { name := "walCosts", fn := fun _ => fun
  | [d1, d2, d3] => { results := [.lit (.bool false)], args := [d1, d2, d3] }
  | _ => none }
def WalCostsWrongFalsely : Prop := walCostsRow.holds Tryd.pinned (OpenSpec.ofChange walCostsWrong)

/-- 'sutlerlaw04.WalAgain': WHATEVER THE INPUT: true; the input reads as it did. -/
def walAgainSpec : ChangeSpec := { name := "walAgain", fn := fun _ => fun
  | [d1, d2, d3, d4] => { results := [.lit (.bool true)], args := [d1, d2, d3, d4] }
  | _ => none }
def walAgainRow : OpenClaim := { program := "ytfhdiddlloiglaadoor", sum := "2ab2e6b2217d15b3b9a3ec52709f4eb860806aa2367e5a191d26e41ab8b3fcd7", func := "sutler/sutlerlaw04.WalAgain", spec := "walAgain", unfollowed := true, recurses := true, named := ["sutler/crc.half"], plainKeys := false, apart := false, laid := [("sutler/crc.half", laid_sutler_crc_half)] }
def WalAgainSaid : Prop := walAgainRow.holds Tryd.pinned (OpenSpec.ofChange walAgainSpec)

/-- ITS FALSE NEIGHBOUR: 'it returns false'. Refute it at one input. -/
def walAgainWrong : ChangeSpec := { name := "walAgain", fn := fun _ => fun
  | [d1, d2, d3, d4] => { results := [.lit (.bool false)], args := [d1, d2, d3, d4] }
  | _ => none }
def WalAgainWrongFalsely : Prop := walAgainRow.holds Tryd.pinned (OpenSpec.ofChange walAgainWrong)

/- THE SECOND FORM. 'bulk': how many values and letters a reading holds, each counted each time it is reached (what is shared counts as often as it is met; a slice's spare places count too). A statement '..UptoSaid' is the law's where the arguments, and the package variables that the reading takes, are together of bulk at most 1048576: NARROWER than '..Said'. Prove '..Said' where nothing that the law and all that it calls make is longer than what came in: it says more and counts as full. Else prove '..UptoSaid'. A law counts once. -/
mutual
def uptoBulk {H : Type} : DataW H → Nat
  | .lit (.string bytes) => bytes.length + 1
  | .lit _ => 1
  | .nil => 1
  | .ptr d => uptoBulk d + 1
  | .slice elems spare => uptoBulkAll elems + uptoBulkAll spare + 1
  | .agg parts => uptoBulkAll parts + 1
  | .iface _ d => uptoBulk d + 1
  | .map entries => uptoBulkEntries entries + 1
  | .held _ => 1
def uptoBulkAll {H : Type} : List (DataW H) → Nat
  | [] => 0
  | d :: r => uptoBulk d + uptoBulkAll r
def uptoBulkEntries {H : Type} : List (Lit × DataW H) → Nat
  | [] => 0
  | x :: r => uptoBulkEntry x + uptoBulkEntries r
def uptoBulkEntry {H : Type} : Lit × DataW H → Nat
  | (.string bytes, d) => bytes.length + uptoBulk d + 1
  | (_, d) => uptoBulk d + 1
 end
def uptoSmall : (H : Type) → List (DataW H) → Bool := fun _ ds => decide (uptoBulkAll ds ≤ 1048576)
def OpenSpec.upto (s : _root_.Go.ChangeSpec) : _root_.Go.OpenSpec := { _root_.Go.OpenSpec.ofChange s with cond := some uptoSmall }

/-- 'sutlerlaw04.WalNone', WHERE WHAT IT READS IS OF BULK AT MOST 1048576: true; the input reads as it did. -/
def walNoneUptoRow : OpenClaim := { program := "ytfhdiddlloiglaadoor", sum := "2ab2e6b2217d15b3b9a3ec52709f4eb860806aa2367e5a191d26e41ab8b3fcd7", func := "sutler/sutlerlaw04.WalNone", spec := "walNone", unfollowed := true, recurses := true, named := ["sutler/crc.half"], plainKeys := false, apart := false, laid := [("sutler/crc.half", laid_sutler_crc_half)], narrowed := true }
def WalNoneUptoSaid : Prop := walNoneUptoRow.holds Tryd.pinned (OpenSpec.upto walNoneSpec)

/-- 'sutlerlaw04.WalWhole', WHERE WHAT IT READS IS OF BULK AT MOST 1048576: true; the input reads as it did. -/
def walWholeUptoRow : OpenClaim := { program := "ytfhdiddlloiglaadoor", sum := "2ab2e6b2217d15b3b9a3ec52709f4eb860806aa2367e5a191d26e41ab8b3fcd7", func := "sutler/sutlerlaw04.WalWhole", spec := "walWhole", unfollowed := true, recurses := true, named := ["sutler/crc.half"], plainKeys := false, apart := false, laid := [("sutler/crc.half", laid_sutler_crc_half)], narrowed := true }
def WalWholeUptoSaid : Prop := walWholeUptoRow.holds Tryd.pinned (OpenSpec.upto walWholeSpec)

/-- 'sutlerlaw04.WalCosts', WHERE WHAT IT READS IS OF BULK AT MOST 1048576: true; the input reads as it did. -/
def walCostsUptoRow : OpenClaim := { program := "ytfhdiddlloiglaadoor", sum := "2ab2e6b2217d15b3b9a3ec52709f4eb860806aa2367e5a191d26e41ab8b3fcd7", func := "sutler/sutlerlaw04.WalCosts", spec := "walCosts", unfollowed := true, recurses := true, named := ["sutler/crc.half"], plainKeys := false, apart := false, laid := [("sutler/crc.half", laid_sutler_crc_half)], narrowed := true }
def WalCostsUptoSaid : Prop := walCostsUptoRow.holds Tryd.pinned (OpenSpec.upto walCostsSpec)

/-- 'sutlerlaw04.WalAgain', WHERE WHAT IT READS IS OF BULK AT MOST 1048576: true; the input reads as it did. -/
def walAgainUptoRow : OpenClaim := { program := "ytfhdiddlloiglaadoor", sum := "2ab2e6b2217d15b3b9a3ec52709f4eb860806aa2367e5a191d26e41ab8b3fcd7", func := "sutler/sutlerlaw04.WalAgain", spec := "walAgain", unfollowed := true, recurses := true, named := ["sutler/crc.half"], plainKeys := false, apart := false, laid := [("sutler/crc.half", laid_sutler_crc_half)], narrowed := true }
def WalAgainUptoSaid : Prop := walAgainUptoRow.holds Tryd.pinned (OpenSpec.upto walAgainSpec)

end Rows
end Go.Proofs.YtfhdiddlloiglaaDoor
