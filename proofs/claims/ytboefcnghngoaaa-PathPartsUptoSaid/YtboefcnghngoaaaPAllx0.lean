-- Written by a tool of the kit (print.py) over the laws of this seat at once; Lean checks it.
import Derived.Test.YtboefcnghngoaaaProg
import Derived.Below
import Derived.Deep.Draws
import Derived.Deep.AppendLies
import Derived.Maps.AppendAt
import Derived.OwnWalk
import Derived.Laws.BytesArg
import Derived.Laws.MakeOwn
import Derived.Laws.OwnMore
import Derived.Deep.OwnRows
import Derived.Tactics
import Derived.Lib.ConvBytes
import Derived.Laws.Slices
import Derived.WalkKit
import Derived.KernelRfl
import Derived.RowKit3
import Derived.Deep.LoopGhost
import Derived.Deep.QuietTactic
import Derived.BigQuiet
import Derived.WideLaws
import Derived.Deep.DeepCutAuto
import Derived.Deep.CutBlock
import Derived.Deep.RegionHeld3
import Derived.Laws.Rows
import Derived.Lib.AppendStr
import Derived.ArgAppend
import Derived.Laws.IdiomCopy
import Derived.OrdersHeld
import Derived.Laws.BitsLemmas
import Derived.RowKit
import Derived.Test.YtboefcnghngoaaaWWords
import Derived.Test.YtboefcnghngoaaaWLast
import Derived.Test.YtboefcnghngoaaaWTab
import Derived.Test.YtboefcnghngoaaaWFour
import Derived.Test.YtboefcnghngoaaaWQPut
import Derived.Test.YtboefcnghngoaaaWApart
import Derived.Test.YtboefcnghngoaaaWArr
import Derived.Test.YtboefcnghngoaaaWZeros
import Derived.Test.YtboefcnghngoaaaWFoot
import Derived.Test.YtboefcnghngoaaaWKept
import Derived.Test.YtboefcnghngoaaaWShare
import Derived.Test.YtboefcnghngoaaaWN
import Derived.Test.YtboefcnghngoaaaWFootNe
import Derived.Test.YtboefcnghngoaaaWAt
import Derived.Test.YtboefcnghngoaaaWEqStruct
import Derived.Test.YtboefcnghngoaaaWRepsOne
import Derived.Test.YtboefcnghngoaaaWInv
import Derived.Test.YtboefcnghngoaaaWInvWords
import Derived.Test.YtboefcnghngoaaaWGuard
import Derived.Test.YtboefcnghngoaaaWNEv
import Derived.Test.YtboefcnghngoaaaWMore
namespace Go.Proofs.Ytboefcnghngoaaa.PAll
open Go.RowKit Go.Proofs.YtboefcnghngoaaaW.PrintWords Go.Proofs.YtboefcnghngoaaaW.PrintLast Go.Proofs.YtboefcnghngoaaaW.PrintMore
attribute [local go_sem] max2_int min2_int max_two min_two max_three min_three max_four min_four   -- for this text's walks alone
set_option linter.unusedVariables false
set_option linter.unusedSimpArgs false



def errW : Option Int → Value
  | none => .nilIface
  | some c => .iface 0 (.int .i64 c)
theorem errW_none : errW none = .nilIface := rfl
theorem errW_some (c : Int) : errW (some c) = .iface 0 (.int .i64 c) := rfl

theorem info9 : (Try.prog.info? 9).map (fun i => (i.zero, i.size, i.bytes)) = some (some (.string ⟨#[]⟩), 1, 16) := by kernel_rfl
-- the values' own types

end Go.Proofs.Ytboefcnghngoaaa.PAll
