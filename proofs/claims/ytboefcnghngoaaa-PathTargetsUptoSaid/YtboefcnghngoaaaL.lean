/- The law PathTargets, walked. -/
import Derived.RangeFuncNested
import Derived.RangeFuncBound
import Derived.RangeFuncCalls
import Derived.RangeFuncLeaves
import Derived.RangeFuncBox
import Derived.Shelf.Abstract
import Derived.Shelf.RegionOpen
import Derived.WalkKit
import Derived.OwnWalkIn
import Derived.TacticsInMore
import Derived.LoopNIn
import Derived.LoopIn
import Derived.Maps.AppendAt
import Derived.Test.YtboefcnghngoaaaPart
import Derived.Outline
import Derived.Deep.QuietTactic
import Derived.BigQuiet
import Derived.WalkSpells
import Derived.Deep.DeepFit
import Derived.Lib.Hide
import Derived.Lib.IndexBytes
import Derived.Test.YtboefcnghngoaaaShelf
import Derived.Test.YtboefcnghngoaaaSpec
import Derived.Test.YtboefcnghngoaaaE
import Derived.Test.YtboefcnghngoaaaRefs
import Derived.Test.YtboefcnghngoaaaK
namespace Go.Proofs.Ytboefcnghngoaaa
open Go.RowKit Go.Shelf Go.Lib Sp Go.Proofs.YtboefcnghngoaaaW.PrintWords
attribute [local go_sem] Oper.semAt_some

set_option maxRecDepth 100000 in
set_option maxHeartbeats 2000000 in
theorem targets_calls (a b : ByteArray) (hs : a.size + b.size ≤ 1099511627776) (w : World) : Calls Try.prog 4 #[.string a, .string b] w fun e w' => e = .returned (.bool true) ∧ Below w.heap.size w w' := by
  have HB : Below w.heap.size w w := Below.refl _ _
  obtain ⟨t, ht⟩ : ∃ t : ByteArray, t = bs (targetL a.data.toList b.data.toList).1 := ⟨_, rfl⟩
  obtain ⟨n, hn⟩ : ∃ n, n = (targetL a.data.toList b.data.toList).2 := ⟨_, rfl⟩
  have c1 : ∀ W, Calls Try.prog 15 #[.string a, .string b] W fun e w' => e = .returned (.tuple #[.string t, .int .i64 n]) ∧ Below W.heap.size W w' := fun W => by rw [ht, hn]; exact target_calls a b hs W
  have c2 : ∀ W, Calls Try.prog 16 #[.string a, .string b] W fun e w' => e = .returned (.tuple #[.string t, .int .i64 n]) ∧ Below W.heap.size W w' := fun W => by
    obtain ⟨k, hk⟩ := Ev.rounds (rtarget_f a b hs)
    rw [← ht, ← hn] at hk
    exact PAll.sutlerref14_Target.calls k a b t n W hk
  have hw := fun W => works_calls W
  clear ht hn hs
  go_enter Try.func4, Try.ntmps4
  go_wp2_with fail
  refine (c1 _).mono ?_; rintro e w1 ⟨rfl, hb⟩; replace HB := bl_trans HB hb; clear hb
  go_wp2_with fail
  refine (c2 _).mono ?_; rintro e w2 ⟨rfl, hb⟩; replace HB := bl_trans HB hb; clear hb
  go_wp2_with fail
  refine (hw _).mono ?_; rintro e w5 ⟨rfl, hb⟩; replace HB := bl_trans HB hb; clear hb
  go_wp2
  go_ret
  exact ⟨rfl, HB⟩
end Go.Proofs.Ytboefcnghngoaaa
