/- The law PathCleans. -/
import Derived.RangeFuncNested
import Derived.RangeFuncBound
import Derived.RangeFuncCalls
import Derived.RangeFuncLeaves
import Derived.RangeFuncBox
import Derived.Shelf.Abstract
import Derived.Shelf.RegionOpen
import Derived.WalkKit
import Derived.OwnWalkIn
import Derived.TacticsInMore
import Derived.LoopNIn
import Derived.LoopIn
import Derived.Maps.AppendAt
import Derived.Test.YtboefcnghngoaaaPart
import Derived.Outline
import Derived.Deep.QuietTactic
import Derived.BigQuiet
import Derived.WalkSpells
import Derived.Deep.DeepFit
import Derived.Lib.Hide
import Derived.Lib.IndexBytes
import Derived.Test.YtboefcnghngoaaaShelf
import Derived.Test.YtboefcnghngoaaaSpec
import Derived.Test.YtboefcnghngoaaaE
import Derived.Test.YtboefcnghngoaaaRefs
namespace Go.Proofs.Ytboefcnghngoaaa
open Go.RowKit Go.Shelf Go.Lib Sp Go.Proofs.YtboefcnghngoaaaW.PrintWords
attribute [local go_sem] Oper.semAt_some

set_option maxRecDepth 100000 in
set_option maxHeartbeats 2000000 in
theorem cleans_calls (s : ByteArray) (hs : s.size ≤ 4611686018427387903) (w : World) : Calls Try.prog 3 #[.string s] w fun e w' => e = .returned (.bool true) ∧ Below w.heap.size w w' := by
  have HB : Below w.heap.size w w := Below.refl _ _
  obtain ⟨t, ht⟩ : ∃ t : ByteArray, t = ⟨(cleanL s.data.toList).1.toArray⟩ := ⟨_, rfl⟩
  obtain ⟨n, hn⟩ : ∃ n, n = (cleanL s.data.toList).2 := ⟨_, rfl⟩
  obtain ⟨c, hc⟩ : ∃ c : Int, c = if isPath s.data.toList then 0 else 140 := ⟨_, rfl⟩
  have c1 : ∀ W, Calls Try.prog 10 #[.string s] W fun e w' => e = .returned (.tuple #[.string t, .int .i64 n]) ∧ Below W.heap.size W w' := fun W => by rw [ht, hn]; exact clean_calls s hs W
  have c2 : ∀ W, Calls Try.prog 11 #[.string s] W fun e w' => e = .returned (.tuple #[.string t, .int .i64 n]) ∧ Below W.heap.size W w' := fun W => by
    obtain ⟨k, hk⟩ := Ev.rounds (clean_f s hs)
    rw [← ht, ← hn] at hk
    exact PAll.sutlerref14_Clean.calls k s t n W hk
  have c3 : ∀ W, Calls Try.prog 12 #[.string s] W fun e w' => e = .returned (.int .i64 c) ∧ Below W.heap.size W w' := fun W => by rw [hc]; exact check_calls s hs W
  have c4 : ∀ W, Calls Try.prog 13 #[.string s] W fun e w' => e = .returned (.int .i64 c) ∧ Below W.heap.size W w' := fun W => by
    obtain ⟨k, hk⟩ := Ev.rounds (check_f s)
    rw [← hc] at hk
    exact PAll.sutlerref14_Check.calls k s c W hk
  have hw := fun W => works_calls W
  clear ht hn hc
  go_enter Try.func3, Try.ntmps3
  go_wp2_with fail
  refine (c1 _).mono ?_; rintro e w1 ⟨rfl, hb⟩; replace HB := bl_trans HB hb; clear hb
  go_wp2_with fail
  refine (c2 _).mono ?_; rintro e w2 ⟨rfl, hb⟩; replace HB := bl_trans HB hb; clear hb
  go_wp2_with fail
  refine (c3 _).mono ?_; rintro e w3 ⟨rfl, hb⟩; replace HB := bl_trans HB hb; clear hb
  go_wp2_with fail
  refine (c4 _).mono ?_; rintro e w4 ⟨rfl, hb⟩; replace HB := bl_trans HB hb; clear hb
  go_wp2_with fail
  refine (hw _).mono ?_; rintro e w5 ⟨rfl, hb⟩; replace HB := bl_trans HB hb; clear hb
  go_wp2
  go_ret
  exact ⟨rfl, HB⟩
end Go.Proofs.Ytboefcnghngoaaa
