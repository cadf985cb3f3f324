/- The chapter's examples. -/
import Derived.RangeFuncNested
import Derived.RangeFuncBound
import Derived.RangeFuncCalls
import Derived.RangeFuncLeaves
import Derived.RangeFuncBox
import Derived.Shelf.Abstract
import Derived.Shelf.RegionOpen
import Derived.WalkKit
import Derived.OwnWalkIn
import Derived.TacticsInMore
import Derived.LoopNIn
import Derived.LoopIn
import Derived.Maps.AppendAt
import Derived.Test.YtboefcnghngoaaaPart
import Derived.Outline
import Derived.Deep.QuietTactic
import Derived.BigQuiet
import Derived.WalkSpells
import Derived.Deep.DeepFit
import Derived.Lib.Hide
import Derived.Lib.IndexBytes
import Derived.Test.YtboefcnghngoaaaShelf
import Derived.Test.YtboefcnghngoaaaSpec
import Derived.Test.YtboefcnghngoaaaD
namespace Go.Proofs.Ytboefcnghngoaaa
open Go.RowKit Go.Shelf Go.Lib Sp
attribute [local go_sem] Oper.semAt_some

theorem bl_trans {w w1 w2 : World} (h : Below w.heap.size w w1) (k : Below w1.heap.size w1 w2) : Below w.heap.size w w2 := h.trans (k.mono h.size)

theorem clean_at (s : ByteArray) (hs : s.size ≤ 4611686018427387903) (t : ByteArray) (n : Int) (h : cleanL s.data.toList = (t.data.toList, n)) (W : World) :
    Calls Try.prog 10 #[.string s] W fun e w' => e = .returned (.tuple #[.string t, .int .i64 n]) ∧ Below W.heap.size W w' := by
  have := clean_calls s hs W
  rw [h] at this
  exact this
theorem target_at (s u : ByteArray) (hb : s.size + u.size ≤ 1099511627776) (t : ByteArray) (n : Int) (h : targetL s.data.toList u.data.toList = (t.data.toList, n)) (W : World) :
    Calls Try.prog 15 #[.string s, .string u] W fun e w' => e = .returned (.tuple #[.string t, .int .i64 n]) ∧ Below W.heap.size W w' := by
  have := target_calls s u hb W
  rw [h] at this
  exact this
theorem under_at (s u : ByteArray) (b : Bool) (h : underL s.data.toList u.data.toList = b) (W : World) :
    Calls Try.prog 17 #[.string s, .string u] W fun e w' => e = .returned (.bool b) ∧ Below W.heap.size W w' := by
  have := under_calls s u W
  rwa [h] at this

set_option maxRecDepth 100000 in
theorem ex1 : cleanL [46, 47, 117, 115, 114, 47, 98, 105, 110, 47] = ([117, 115, 114, 47, 98, 105, 110], 0) := by decide +kernel
set_option maxRecDepth 100000 in
theorem ex2 : cleanL [47, 101, 116, 99] = ([], 140) := by decide +kernel
set_option maxRecDepth 100000 in
theorem ex3 : cleanL [97, 47, 46, 46, 47, 98] = ([], 140) := by decide +kernel
set_option maxRecDepth 100000 in
theorem ex4 : targetL [117, 115, 114, 47, 98, 105, 110, 47, 120] [46, 46, 47, 108, 105, 98, 47, 121] = ([117, 115, 114, 47, 108, 105, 98, 47, 121], 0) := by decide +kernel
theorem ex5 : underL [97, 47, 98] [97] = true := by decide +kernel
theorem ex6 : underL [97, 98] [97] = false := by decide +kernel

set_option maxRecDepth 100000 in
set_option maxHeartbeats 1000000 in
/-- The chapter's examples. -/
theorem works_calls (w : World) : Calls Try.prog 14 #[] w fun e w' => e = .returned (.bool true) ∧ Below w.heap.size w w' := by
  have h1 := clean_at ⟨#[46, 47, 117, 115, 114, 47, 98, 105, 110, 47]⟩ (by decide) ⟨#[117, 115, 114, 47, 98, 105, 110]⟩ 0 ex1
  have h2 := clean_at ⟨#[47, 101, 116, 99]⟩ (by decide) ⟨#[]⟩ 140 ex2
  have h3 := clean_at ⟨#[97, 47, 46, 46, 47, 98]⟩ (by decide) ⟨#[]⟩ 140 ex3
  have h4 := target_at ⟨#[117, 115, 114, 47, 98, 105, 110, 47, 120]⟩ ⟨#[46, 46, 47, 108, 105, 98, 47, 121]⟩ (by decide) ⟨#[117, 115, 114, 47, 108, 105, 98, 47, 121]⟩ 0 ex4
  have h5 := under_at ⟨#[97, 47, 98]⟩ ⟨#[97]⟩ true ex5
  have h6 := under_at ⟨#[97, 98]⟩ ⟨#[97]⟩ false ex6
  have HB : Below w.heap.size w w := Below.refl _ _
  go_enter Try.func14, Try.ntmps14
  go_wp2_with fail
  refine (h1 _).mono ?_; rintro e w1 ⟨rfl, hb⟩; replace HB := bl_trans HB hb; clear hb
  go_wp2_with fail
  refine (h2 _).mono ?_; rintro e w2 ⟨rfl, hb⟩; replace HB := bl_trans HB hb; clear hb
  go_wp2_with fail
  refine (h3 _).mono ?_; rintro e w3 ⟨rfl, hb⟩; replace HB := bl_trans HB hb; clear hb
  go_wp2_with fail
  refine (h4 _).mono ?_; rintro e w4 ⟨rfl, hb⟩; replace HB := bl_trans HB hb; clear hb
  go_wp2_with fail
  refine (h5 _).mono ?_; rintro e w5 ⟨rfl, hb⟩; replace HB := bl_trans HB hb; clear hb
  go_wp2_with fail
  refine (h6 _).mono ?_; rintro e w6 ⟨rfl, hb⟩; replace HB := bl_trans HB hb; clear hb
  go_wp2
  go_ret
  exact ⟨rfl, HB⟩
end Go.Proofs.Ytboefcnghngoaaa
