/- The laws PathAlong and PathStays. -/
import Derived.RangeFuncNested
import Derived.RangeFuncBound
import Derived.RangeFuncCalls
import Derived.RangeFuncLeaves
import Derived.RangeFuncBox
import Derived.Shelf.Abstract
import Derived.Shelf.RegionOpen
import Derived.WalkKit
import Derived.OwnWalkIn
import Derived.TacticsInMore
import Derived.LoopNIn
import Derived.LoopIn
import Derived.Maps.AppendAt
import Derived.Test.YtboefcnghngoaaaPart
import Derived.Outline
import Derived.Deep.QuietTactic
import Derived.BigQuiet
import Derived.WalkSpells
import Derived.Deep.DeepFit
import Derived.Lib.Hide
import Derived.Lib.IndexBytes
import Derived.Test.YtboefcnghngoaaaShelf
import Derived.Test.YtboefcnghngoaaaSpec
import Derived.Test.YtboefcnghngoaaaE
import Derived.Test.YtboefcnghngoaaaPlain
namespace Go.Proofs.Ytboefcnghngoaaa
open Go.RowKit Go.Shelf Go.Lib Sp
attribute [local go_sem] Oper.semAt_some

set_option maxRecDepth 100000 in
set_option maxHeartbeats 2000000 in
theorem along_calls (p q r : ByteArray) (w : World) : Calls Try.prog 7 #[.string p, .string q, .string r] w fun e w' => e = .returned (.bool true) ∧ Below w.heap.size w w' := by
  have HB : Below w.heap.size w w := Below.refl _ _
  have u1 := @under_trans p.data.toList q.data.toList r.data.toList
  have u2 := @under_two p.data.toList q.data.toList r.data.toList
  have u3 := under_at p p true (under_refl _)
  have u4 := under_at p ⟨#[]⟩ true (under_nil _)
  obtain ⟨a, ha⟩ : ∃ a, underL p.data.toList q.data.toList = a := ⟨_, rfl⟩
  obtain ⟨b, hb⟩ : ∃ b, underL q.data.toList r.data.toList = b := ⟨_, rfl⟩
  obtain ⟨c, hc⟩ : ∃ c, underL p.data.toList r.data.toList = c := ⟨_, rfl⟩
  obtain ⟨d, hd⟩ : ∃ d, underL r.data.toList q.data.toList = d := ⟨_, rfl⟩
  rw [ha, hb, hc] at u1
  rw [ha, hb, hc, hd] at u2
  have va := under_at p q a ha
  have vb := under_at q r b hb
  have vc := under_at p r c hc
  have vd := under_at r q d hd
  have hw := fun W => works_calls W
  clear ha hb hc hd
  have U1 := Lib.hid u1; have U2 := Lib.hid u2; clear u1 u2
  have ok : ((a && b && !c) || (a && c && !b && !d)) = false := by
    have u1 := U1.out; have u2 := U2.out
    revert u1 u2
    cases a <;> cases b <;> cases c <;> cases d <;> simp
  clear U1 U2
  cases a <;> cases b <;> cases c <;> cases d <;> first | (exfalso; revert ok; decide; done) | skip
  all_goals clear ok
  all_goals go_enter Try.func7, Try.ntmps7
  all_goals go_wp2_with (first | (go_at_call 14; refine (hw _).mono ?_; rintro e w' ⟨rfl, hb⟩; replace HB := bl_trans HB hb; clear hb) | (go_at_call 17; (first | (with_reducible refine (va _).mono ?_) | (with_reducible refine (vb _).mono ?_) | (with_reducible refine (vc _).mono ?_) | (with_reducible refine (vd _).mono ?_) | (with_reducible refine (u3 _).mono ?_) | (with_reducible refine (u4 _).mono ?_)); rintro e w' ⟨rfl, hb⟩; replace HB := bl_trans HB hb; clear hb))
  all_goals go_ret
  all_goals exact ⟨rfl, HB⟩

set_option maxRecDepth 100000 in
set_option maxHeartbeats 2000000 in
theorem stays_calls (s : ByteArray) (hs : s.size ≤ 4611686018427387903) (w : World) : Calls Try.prog 5 #[.string s] w fun e w' => e = .returned (.bool true) ∧ Below w.heap.size w w' := by
  have HB : Below w.heap.size w w := Below.refl _ _
  have hw := fun W => works_calls W
  rcases clean_stays s.data.toList with ⟨h1, h2, h3⟩ | ⟨h1, h2⟩
  · obtain ⟨t, ht⟩ : ∃ t : ByteArray, t = ⟨(cleanL s.data.toList).1.toArray⟩ := ⟨_, rfl⟩
    have ht' : t.data.toList = (cleanL s.data.toList).1 := by rw [ht]
    have c1 := clean_at s hs t 0 (by rw [ht', ← h1])
    rw [← ht'] at h2 h3
    have hl : t.data.toList.length ≤ 200 := by
      unfold isPath at h2; rw [Bool.and_eq_true] at h2; exact of_decide_eq_true h2.1
    have hts : t.size ≤ 4611686018427387903 := by rw [Lib.size_eq]; omega
    have c2 : ∀ W, Calls Try.prog 12 #[.string t] W fun e w' => e = .returned (.int .i64 0) ∧ Below W.heap.size W w' := fun W => by
      have := check_calls t hts W
      rwa [if_pos h2] at this
    by_cases ht0 : t.data.toList = []
    · have c3 : ∀ W, Calls Try.prog 10 #[.string t] W fun e w' => e = .returned (.tuple #[.string ⟨(cleanL t.data.toList).1.toArray⟩, .int .i64 (cleanL t.data.toList).2]) ∧ Below W.heap.size W w' := fun W => clean_calls t hts W
      have t1 : t.toList.isEmpty = true := by rw [toList_data, ht0]; rfl
      obtain ⟨u, hu⟩ : ∃ u, (⟨(cleanL t.data.toList).1.toArray⟩ : ByteArray) = u := ⟨_, rfl⟩
      obtain ⟨m, hm⟩ : ∃ m, (cleanL t.data.toList).2 = m := ⟨_, rfl⟩
      rw [hu, hm] at c3
      clear hu hm ht ht' h1 h2 h3 ht0 hl hts
      go_enter Try.func5, Try.ntmps5
      go_wp2_with fail
      refine (hw _).mono ?_; rintro e w1 ⟨rfl, hb⟩; replace HB := bl_trans HB hb; clear hb
      go_wp2_with fail
      refine (c1 _).mono ?_; rintro e w2 ⟨rfl, hb⟩; replace HB := bl_trans HB hb; clear hb
      go_wp2_with fail
      refine (c2 _).mono ?_; rintro e w3 ⟨rfl, hb⟩; replace HB := bl_trans HB hb; clear hb
      go_wp2_with fail
      refine (c3 _).mono ?_; rintro e w4 ⟨rfl, hb⟩; replace HB := bl_trans HB hb; clear hb
      go_wp2
      go_ret
      exact ⟨rfl, HB⟩
    · have h4 := h3.resolve_left ht0
      have c3 := clean_at t hts t 0 h4
      have t1 : t.toList.isEmpty = false := by rw [toList_data]; cases h : t.data.toList with | nil => exact absurd h ht0 | cons => rfl
      clear ht ht' h1 h2 h3 h4 ht0 hl hts
      go_enter Try.func5, Try.ntmps5
      go_wp2_with fail
      refine (hw _).mono ?_; rintro e w1 ⟨rfl, hb⟩; replace HB := bl_trans HB hb; clear hb
      go_wp2_with fail
      refine (c1 _).mono ?_; rintro e w2 ⟨rfl, hb⟩; replace HB := bl_trans HB hb; clear hb
      go_wp2_with fail
      refine (c2 _).mono ?_; rintro e w3 ⟨rfl, hb⟩; replace HB := bl_trans HB hb; clear hb
      go_wp2_with fail
      refine (c3 _).mono ?_; rintro e w4 ⟨rfl, hb⟩; replace HB := bl_trans HB hb; clear hb
      go_wp2
      go_ret
      exact ⟨rfl, HB⟩
  · have c1 := clean_at s hs ⟨#[]⟩ 140 (by rw [← h1, ← h2])
    clear h1 h2
    go_enter Try.func5, Try.ntmps5
    go_wp2_with fail
    refine (hw _).mono ?_; rintro e w1 ⟨rfl, hb⟩; replace HB := bl_trans HB hb; clear hb
    go_wp2_with fail
    refine (c1 _).mono ?_; rintro e w2 ⟨rfl, hb⟩; replace HB := bl_trans HB hb; clear hb
    go_wp2
    go_ret
    exact ⟨rfl, HB⟩
end Go.Proofs.Ytboefcnghngoaaa
