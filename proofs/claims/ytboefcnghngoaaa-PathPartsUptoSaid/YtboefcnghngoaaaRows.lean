/-
  No cell of these rows narrows 'for every input' (looked for: loops, veiled, ifaces, maps, wideKeys, modest, calm, conditions, laid).
  DERIVED. THE GIVEN ROWS OF THIS SEAT. 7 by the template 'for every input the law returns true; each argument reads behind the call as it read before'; 0 by the template 'total and deterministic' (their statements: YtboefcnghngoaaaTotals.lean).
  GIVEN WITH THE SEED: the statements are not yours to turn. If you find one false, say at which input.
  Laid BY PROGRAM, IN A SANDBOX (cutbox-rows.mjs): the forced cells as the released guide's own fill.sh prints them over the translation f2d0da85ebafa539… (all of the seat's roots in one cut). By AI agents, Wed Nov 11 2026. No macro, syntax, notation, axiom, sorry.
-/
import Derived.Test.YtboefcnghngoaaaChecked
import GoSem.Claim
import GoSem.ClaimJoined
import GoSem.ClaimMapViews
import Derived.JoinedTies
import Derived.KernelRfl
namespace Go.Proofs.Ytboefcnghngoaaa
/- THE CELL 'sum', in the pinned program and in every row, IS THE sha256 OF THE DUMP (.gsa) THAT YtboefcnghngoaaaProg.lean LOADS. Nothing in Lean hashes anything: it is a label: what it is worth is what the hold of that sum in a sandbox is worth. -/
noncomputable def Try.pinned : Pinned := { name := "ytboefcnghngoaaa", sum := "f2d0da85ebafa539b6f0cd039869593f46ac5be58a585ffa7b762fc50e402fc5", checked := Try.checked }
namespace Rows
def none {H : Type} : Left H := { results := [], args := [] }

/-- 'sutlerlaw14.PathCleans': WHATEVER THE INPUT: true; the input reads as it did. -/
def pathCleansSpec : ChangeSpec := { name := "pathCleans", fn := fun _ => fun
  | [d] => { results := [.lit (.bool true)], args := [d] }
  | _ => none }
def pathCleansRow : OpenClaim := { program := "ytboefcnghngoaaa", sum := "f2d0da85ebafa539b6f0cd039869593f46ac5be58a585ffa7b762fc50e402fc5", func := "sutler/sutlerlaw14.PathCleans", spec := "pathCleans", inPlace := ["internal/bytealg.IndexByteString", "internal/abi.NoEscape", "internal/bytealg.MakeNoZero"], unfollowed := true, recurses := true, apart := false }
def PathCleansSaid : Prop := pathCleansRow.holds Try.pinned (OpenSpec.ofChange pathCleansSpec)

/-- ITS FALSE NEIGHBOUR: 'it returns false'. Refute it at one input. -/
def pathCleansWrong : ChangeSpec := { name := "pathCleans", fn := fun _ => fun
  | [d] => { results := [.lit (.bool false)], args := [d] }
  | _ => none }
def PathCleansWrongFalsely : Prop := pathCleansRow.holds Try.pinned (OpenSpec.ofChange pathCleansWrong)

/-- 'sutlerlaw14.PathTargets': WHATEVER THE INPUT: true; the input reads as it did. -/
def pathTargetsSpec : ChangeSpec := { name := "pathTargets", fn := fun _ => fun
  | [d1, d2] => { results := [.lit (.bool true)], args := [d1, d2] }
  | _ => none }
def pathTargetsRow : OpenClaim := { program := "ytboefcnghngoaaa", sum := "f2d0da85ebafa539b6f0cd039869593f46ac5be58a585ffa7b762fc50e402fc5", func := "sutler/sutlerlaw14.PathTargets", spec := "pathTargets", inPlace := ["internal/bytealg.IndexByteString", "internal/abi.NoEscape", "internal/bytealg.MakeNoZero"], unfollowed := true, recurses := true, apart := false }
def PathTargetsSaid : Prop := pathTargetsRow.holds Try.pinned (OpenSpec.ofChange pathTargetsSpec)

/-- ITS FALSE NEIGHBOUR: 'it returns false'. Refute it at one input. -/
def pathTargetsWrong : ChangeSpec := { name := "pathTargets", fn := fun _ => fun
  | [d1, d2] => { results := [.lit (.bool false)], args := [d1, d2] }
  | _ => none }
def PathTargetsWrongFalsely : Prop := pathTargetsRow.holds Try.pinned (OpenSpec.ofChange pathTargetsWrong)

/-- 'sutlerlaw14.PathStays': WHATEVER THE INPUT: true; the input reads as it did. -/
def pathStaysSpec : ChangeSpec := { name := "pathStays", fn := fun _ => fun
  | [d] => { results := [.lit (.bool true)], args := [d] }
  | _ => none }
def pathStaysRow : OpenClaim := { program := "ytboefcnghngoaaa", sum := "f2d0da85ebafa539b6f0cd039869593f46ac5be58a585ffa7b762fc50e402fc5", func := "sutler/sutlerlaw14.PathStays", spec := "pathStays", inPlace := ["internal/bytealg.IndexByteString", "internal/abi.NoEscape", "internal/bytealg.MakeNoZero"], unfollowed := true, recurses := true, apart := false }
def PathStaysSaid : Prop := pathStaysRow.holds Try.pinned (OpenSpec.ofChange pathStaysSpec)

/-- ITS FALSE NEIGHBOUR: 'it returns false'. Refute it at one input. -/
def pathStaysWrong : ChangeSpec := { name := "pathStays", fn := fun _ => fun
  | [d] => { results := [.lit (.bool false)], args := [d] }
  | _ => none }
def PathStaysWrongFalsely : Prop := pathStaysRow.holds Try.pinned (OpenSpec.ofChange pathStaysWrong)

/-- 'sutlerlaw14.PathIn': WHATEVER THE INPUT: true; the input reads as it did. -/
def pathInSpec : ChangeSpec := { name := "pathIn", fn := fun _ => fun
  | [d1, d2] => { results := [.lit (.bool true)], args := [d1, d2] }
  | _ => none }
def pathInRow : OpenClaim := { program := "ytboefcnghngoaaa", sum := "f2d0da85ebafa539b6f0cd039869593f46ac5be58a585ffa7b762fc50e402fc5", func := "sutler/sutlerlaw14.PathIn", spec := "pathIn", inPlace := ["internal/bytealg.IndexByteString", "internal/abi.NoEscape", "internal/bytealg.MakeNoZero"], unfollowed := true, recurses := true, apart := false }
def PathInSaid : Prop := pathInRow.holds Try.pinned (OpenSpec.ofChange pathInSpec)

/-- ITS FALSE NEIGHBOUR: 'it returns false'. Refute it at one input. -/
def pathInWrong : ChangeSpec := { name := "pathIn", fn := fun _ => fun
  | [d1, d2] => { results := [.lit (.bool false)], args := [d1, d2] }
  | _ => none }
def PathInWrongFalsely : Prop := pathInRow.holds Try.pinned (OpenSpec.ofChange pathInWrong)

/-- 'sutlerlaw14.PathAlong': WHATEVER THE INPUT: true; the input reads as it did. -/
def pathAlongSpec : ChangeSpec := { name := "pathAlong", fn := fun _ => fun
  | [d1, d2, d3] => { results := [.lit (.bool true)], args := [d1, d2, d3] }
  | _ => none }
def pathAlongRow : OpenClaim := { program := "ytboefcnghngoaaa", sum := "f2d0da85ebafa539b6f0cd039869593f46ac5be58a585ffa7b762fc50e402fc5", func := "sutler/sutlerlaw14.PathAlong", spec := "pathAlong", inPlace := ["internal/bytealg.IndexByteString", "internal/abi.NoEscape", "internal/bytealg.MakeNoZero"], unfollowed := true, recurses := true, apart := false }
def PathAlongSaid : Prop := pathAlongRow.holds Try.pinned (OpenSpec.ofChange pathAlongSpec)

/-- ITS FALSE NEIGHBOUR: 'it returns false'. Refute it at one input. -/
def pathAlongWrong : ChangeSpec := { name := "pathAlong", fn := fun _ => fun
  | [d1, d2, d3] => { results := [.lit (.bool false)], args := [d1, d2, d3] }
  | _ => none }
def PathAlongWrongFalsely : Prop := pathAlongRow.holds Try.pinned (OpenSpec.ofChange pathAlongWrong)

/-- 'sutlerlaw14.PathParts': WHATEVER THE INPUT: true; the input reads as it did. -/
def pathPartsSpec : ChangeSpec := { name := "pathParts", fn := fun _ => fun
  | [d1, d2] => { results := [.lit (.bool true)], args := [d1, d2] }
  | _ => none }
def pathPartsRow : OpenClaim := { program := "ytboefcnghngoaaa", sum := "f2d0da85ebafa539b6f0cd039869593f46ac5be58a585ffa7b762fc50e402fc5", func := "sutler/sutlerlaw14.PathParts", spec := "pathParts", inPlace := ["internal/bytealg.IndexByteString", "internal/abi.NoEscape", "internal/bytealg.MakeNoZero"], unfollowed := true, recurses := true, apart := false }
def PathPartsSaid : Prop := pathPartsRow.holds Try.pinned (OpenSpec.ofChange pathPartsSpec)

/-- ITS FALSE NEIGHBOUR: 'it returns false'. Refute it at one input. -/
def pathPartsWrong : ChangeSpec := { name := "pathParts", fn := fun _ => fun
  | [d1, d2] => { results := [.lit (.bool false)], args := [d1, d2] }
  | _ => none }
def PathPartsWrongFalsely : Prop := pathPartsRow.holds Try.pinned (OpenSpec.ofChange pathPartsWrong)

/-- 'sutlerlaw14.PathBack': WHATEVER THE INPUT: true; the input reads as it did. -/
def pathBackSpec : ChangeSpec := { name := "pathBack", fn := fun _ => fun
  | [d] => { results := [.lit (.bool true)], args := [d] }
  | _ => none }
def pathBackRow : OpenClaim := { program := "ytboefcnghngoaaa", sum := "f2d0da85ebafa539b6f0cd039869593f46ac5be58a585ffa7b762fc50e402fc5", func := "sutler/sutlerlaw14.PathBack", spec := "pathBack", inPlace := ["internal/bytealg.IndexByteString", "internal/abi.NoEscape", "internal/bytealg.MakeNoZero"], unfollowed := true, recurses := true, apart := false }
def PathBackSaid : Prop := pathBackRow.holds Try.pinned (OpenSpec.ofChange pathBackSpec)

/-- ITS FALSE NEIGHBOUR: 'it returns false'. Refute it at one input. -/
def pathBackWrong : ChangeSpec := { name := "pathBack", fn := fun _ => fun
  | [d] => { results := [.lit (.bool false)], args := [d] }
  | _ => none }
def PathBackWrongFalsely : Prop := pathBackRow.holds Try.pinned (OpenSpec.ofChange pathBackWrong)

/- THE SECOND FORM. 'bulk': how many values and letters a reading holds, each counted each time it is reached (what is shared counts as often as it is met; a slice's spare places count too). A statement '..UptoSaid' is the law's where the arguments, and the package variables that the reading takes, are together of bulk at most 1048576: NARROWER than '..Said'. Prove '..Said' where nothing that the law and all that it calls make is longer than what came in: it says more and counts as full. Else prove '..UptoSaid'. A law counts once. -/
mutual
def uptoBulk {H : Type} : DataW H → Nat
  | .lit (.string bytes) => bytes.length + 1
  | .lit _ => 1
  | .nil => 1
  | .ptr d => uptoBulk d + 1
  | .slice elems spare => uptoBulkAll elems + uptoBulkAll spare + 1
  | .agg parts => uptoBulkAll parts + 1
  | .iface _ d => uptoBulk d + 1
  | .map entries => uptoBulkEntries entries + 1
  | .held _ => 1
def uptoBulkAll {H : Type} : List (DataW H) → Nat
  | [] => 0
  | d :: r => uptoBulk d + uptoBulkAll r
def uptoBulkEntries {H : Type} : List (Lit × DataW H) → Nat
  | [] => 0
  | x :: r => uptoBulkEntry x + uptoBulkEntries r
def uptoBulkEntry {H : Type} : Lit × DataW H → Nat
  | (.string bytes, d) => bytes.length + uptoBulk d + 1
  | (_, d) => uptoBulk d + 1
 end
def uptoSmall : (H : Type) → List (DataW H) → Bool := fun _ ds => decide (uptoBulkAll ds ≤ 1048576)
def OpenSpec.upto (s : _root_.Go.ChangeSpec) : _root_.Go.OpenSpec := { _root_.Go.OpenSpec.ofChange s with cond := some uptoSmall }

/-- 'sutlerlaw14.PathCleans', WHERE WHAT IT READS IS OF BULK AT MOST 1048576: true; the input reads as it did. -/
def pathCleansUptoRow : OpenClaim := { program := "ytboefcnghngoaaa", sum := "f2d0da85ebafa539b6f0cd039869593f46ac5be58a585ffa7b762fc50e402fc5", func := "sutler/sutlerlaw14.PathCleans", spec := "pathCleans", inPlace := ["internal/bytealg.IndexByteString", "internal/abi.NoEscape", "internal/bytealg.MakeNoZero"], unfollowed := true, recurses := true, apart := false, narrowed := true }
def PathCleansUptoSaid : Prop := pathCleansUptoRow.holds Try.pinned (OpenSpec.upto pathCleansSpec)

/-- 'sutlerlaw14.PathTargets', WHERE WHAT IT READS IS OF BULK AT MOST 1048576: true; the input reads as it did. -/
def pathTargetsUptoRow : OpenClaim := { program := "ytboefcnghngoaaa", sum := "f2d0da85ebafa539b6f0cd039869593f46ac5be58a585ffa7b762fc50e402fc5", func := "sutler/sutlerlaw14.PathTargets", spec := "pathTargets", inPlace := ["internal/bytealg.IndexByteString", "internal/abi.NoEscape", "internal/bytealg.MakeNoZero"], unfollowed := true, recurses := true, apart := false, narrowed := true }
def PathTargetsUptoSaid : Prop := pathTargetsUptoRow.holds Try.pinned (OpenSpec.upto pathTargetsSpec)

/-- 'sutlerlaw14.PathStays', WHERE WHAT IT READS IS OF BULK AT MOST 1048576: true; the input reads as it did. -/
def pathStaysUptoRow : OpenClaim := { program := "ytboefcnghngoaaa", sum := "f2d0da85ebafa539b6f0cd039869593f46ac5be58a585ffa7b762fc50e402fc5", func := "sutler/sutlerlaw14.PathStays", spec := "pathStays", inPlace := ["internal/bytealg.IndexByteString", "internal/abi.NoEscape", "internal/bytealg.MakeNoZero"], unfollowed := true, recurses := true, apart := false, narrowed := true }
def PathStaysUptoSaid : Prop := pathStaysUptoRow.holds Try.pinned (OpenSpec.upto pathStaysSpec)

/-- 'sutlerlaw14.PathIn', WHERE WHAT IT READS IS OF BULK AT MOST 1048576: true; the input reads as it did. -/
def pathInUptoRow : OpenClaim := { program := "ytboefcnghngoaaa", sum := "f2d0da85ebafa539b6f0cd039869593f46ac5be58a585ffa7b762fc50e402fc5", func := "sutler/sutlerlaw14.PathIn", spec := "pathIn", inPlace := ["internal/bytealg.IndexByteString", "internal/abi.NoEscape", "internal/bytealg.MakeNoZero"], unfollowed := true, recurses := true, apart := false, narrowed := true }
def PathInUptoSaid : Prop := pathInUptoRow.holds Try.pinned (OpenSpec.upto pathInSpec)

/-- 'sutlerlaw14.PathAlong', WHERE WHAT IT READS IS OF BULK AT MOST 1048576: true; the input reads as it did. -/
def pathAlongUptoRow : OpenClaim := { program := "ytboefcnghngoaaa", sum := "f2d0da85ebafa539b6f0cd039869593f46ac5be58a585ffa7b762fc50e402fc5", func := "sutler/sutlerlaw14.PathAlong", spec := "pathAlong", inPlace := ["internal/bytealg.IndexByteString", "internal/abi.NoEscape", "internal/bytealg.MakeNoZero"], unfollowed := true, recurses := true, apart := false, narrowed := true }
def PathAlongUptoSaid : Prop := pathAlongUptoRow.holds Try.pinned (OpenSpec.upto pathAlongSpec)

/-- 'sutlerlaw14.PathParts', WHERE WHAT IT READS IS OF BULK AT MOST 1048576: true; the input reads as it did. -/
def pathPartsUptoRow : OpenClaim := { program := "ytboefcnghngoaaa", sum := "f2d0da85ebafa539b6f0cd039869593f46ac5be58a585ffa7b762fc50e402fc5", func := "sutler/sutlerlaw14.PathParts", spec := "pathParts", inPlace := ["internal/bytealg.IndexByteString", "internal/abi.NoEscape", "internal/bytealg.MakeNoZero"], unfollowed := true, recurses := true, apart := false, narrowed := true }
def PathPartsUptoSaid : Prop := pathPartsUptoRow.holds Try.pinned (OpenSpec.upto pathPartsSpec)

/-- 'sutlerlaw14.PathBack', WHERE WHAT IT READS IS OF BULK AT MOST 1048576: true; the input reads as it did. -/
def pathBackUptoRow : OpenClaim := { program := "ytboefcnghngoaaa", sum := "f2d0da85ebafa539b6f0cd039869593f46ac5be58a585ffa7b762fc50e402fc5", func := "sutler/sutlerlaw14.PathBack", spec := "pathBack", inPlace := ["internal/bytealg.IndexByteString", "internal/abi.NoEscape", "internal/bytealg.MakeNoZero"], unfollowed := true, recurses := true, apart := false, narrowed := true }
def PathBackUptoSaid : Prop := pathBackUptoRow.holds Try.pinned (OpenSpec.upto pathBackSpec)

end Rows
end Go.Proofs.Ytboefcnghngoaaa
