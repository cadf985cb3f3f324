/- The law PathParts, walked. -/
import Derived.RangeFuncNested
import Derived.RangeFuncBound
import Derived.RangeFuncCalls
import Derived.RangeFuncLeaves
import Derived.RangeFuncBox
import Derived.Shelf.Abstract
import Derived.Shelf.RegionOpen
import Derived.WalkKit
import Derived.OwnWalkIn
import Derived.TacticsInMore
import Derived.LoopNIn
import Derived.LoopIn
import Derived.Maps.AppendAt
import Derived.Test.YtboefcnghngoaaaPart
import Derived.Outline
import Derived.Deep.QuietTactic
import Derived.BigQuiet
import Derived.WalkSpells
import Derived.Deep.DeepFit
import Derived.Lib.Hide
import Derived.Lib.IndexBytes
import Derived.Test.YtboefcnghngoaaaShelf
import Derived.Test.YtboefcnghngoaaaSpec
import Derived.Test.YtboefcnghngoaaaO
namespace Go.Proofs.Ytboefcnghngoaaa
open Go.RowKit Go.Shelf Go.Lib Sp Go.Proofs.YtboefcnghngoaaaW.PrintWords PAll
attribute [local go_sem] Oper.semAt_some

set_option maxRecDepth 100000 in
set_option maxHeartbeats 4000000 in
theorem pathparts_calls (p q : ByteArray) (hs : p.size + q.size ≤ 1073741824) (w : World) : Calls Try.prog 8 #[.string p, .string q] w fun e w' => e = .returned (.bool true) ∧ Below w.heap.size w w' := by
  have HB : Below w.heap.size w w := Below.refl _ _
  have c1 : ∃ r, (∀ W, Calls Try.prog 18 #[.string p] W fun e w' => e = .returned (.string r) ∧ Below W.heap.size W w') ∧ (∀ W, Calls Try.prog 19 #[.string p] W fun e w' => e = .returned (.string r) ∧ Below W.heap.size W w') := by
    obtain ⟨k, hk⟩ := Ev.rounds (parent_f p (by omega)); obtain ⟨k', hk'⟩ := Ev.rounds (rparent_f p (by omega))
    exact ⟨_, fun W => path_Parent.calls k _ _ W hk, fun W => sutlerref14_Parent.calls k' _ _ W hk'⟩
  have c2 : ∃ r, (∀ W, Calls Try.prog 20 #[.string p] W fun e w' => e = .returned (.string r) ∧ Below W.heap.size W w') ∧ (∀ W, Calls Try.prog 21 #[.string p] W fun e w' => e = .returned (.string r) ∧ Below W.heap.size W w') := by
    obtain ⟨k, hk⟩ := Ev.rounds (base_f p (by omega)); obtain ⟨k', hk'⟩ := Ev.rounds (rbase_f p (by omega))
    exact ⟨_, fun W => (path_Base.calls k _ _ W hk).mono fun _ _ ⟨a, b⟩ => ⟨a, b.below⟩, fun W => (sutlerref14_Base.calls k' _ _ W hk').mono fun _ _ ⟨a, b⟩ => ⟨a, b.below⟩⟩
  have c3 : ∃ r, (∀ W, Calls Try.prog 22 #[.string p, .string q] W fun e w' => e = .returned (.string r) ∧ Below W.heap.size W w') ∧ (∀ W, Calls Try.prog 23 #[.string p, .string q] W fun e w' => e = .returned (.string r) ∧ Below W.heap.size W w') :=
    ⟨_, fun W => (path_Join.calls _ _ _ W (pjoin_f p q (by omega))).mono fun _ _ ⟨a, b⟩ => ⟨a, b.below⟩, fun W => (sutlerref14_Join.calls _ _ _ W (rjoin_f p q (by omega))).mono fun _ _ ⟨a, b⟩ => ⟨a, b.below⟩⟩
  have c4 : ∃ r, (∀ W, Calls Try.prog 17 #[.string p, .string q] W fun e w' => e = .returned (.bool r) ∧ Below W.heap.size W w') ∧ (∀ W, Calls Try.prog 24 #[.string p, .string q] W fun e w' => e = .returned (.bool r) ∧ Below W.heap.size W w') :=
    ⟨_, fun W => under_at p q _ rfl W, fun W => (sutlerref14_Under.calls _ _ _ W (runder_f p q (by omega))).mono fun _ _ ⟨a, b⟩ => ⟨a, b.below⟩⟩
  obtain ⟨l, hl, hE, c5⟩ := all_at p (by omega)
  have c6 : ∀ W, Calls Try.prog 27 #[.string p] W fun e w' => ∃ A c, e = .returned (.slice A l.length c) ∧ l.length ≤ c ∧ Kd.C Kd.string w' A l.length l ∧ Below W.heap.size W w' := fun W => by
    obtain ⟨k, hk⟩ := Ev.rounds hE
    refine (sutlerref14_All.calls k p l W hk).mono ?_
    rintro e w' ⟨v, rfl, hR, hb⟩
    obtain ⟨A, c, rfl, hc, hC⟩ := Kd.R_reads hR
    exact ⟨A, c, rfl, hc, hC, hb⟩
  have c7 : ∀ A c B d W, Kd.C Kd.string W A l.length l → l.length ≤ c → Kd.C Kd.string W B l.length l → l.length ≤ d → Calls Try.prog 25 #[.slice A l.length c, .slice B l.length d] W fun e w' => e = .returned (.bool true) ∧ Below W.heap.size W w' := fun A c B d W h1 h2 h3 h4 => by
    obtain ⟨k, hk⟩ := Ev.rounds (same_f l (by omega))
    exact (sutlerbase_SameTexts.calls k A c l B d l true W h1 h2 h3 h4 hk).mono fun _ _ ⟨a, b⟩ => ⟨a, b.below⟩
  obtain ⟨r1, c1, d1⟩ := c1
  obtain ⟨r2, c2, d2⟩ := c2
  obtain ⟨r3, c3, d3⟩ := c3
  obtain ⟨r4, c4, d4⟩ := c4
  have hw := fun W => works_calls W
  clear hs hl hE
  go_enter Try.func8, Try.ntmps8
  go_wp2_with fail
  with_reducible refine (c1 _).mono ?_; rintro e xc1 ⟨rfl, hb⟩; replace HB := bl_trans HB hb; clear hb
  go_wp2_with fail
  with_reducible refine (d1 _).mono ?_; rintro e xd1 ⟨rfl, hb⟩; replace HB := bl_trans HB hb; clear hb
  go_wp2_with fail
  with_reducible refine (c2 _).mono ?_; rintro e xc2 ⟨rfl, hb⟩; replace HB := bl_trans HB hb; clear hb
  go_wp2_with fail
  with_reducible refine (d2 _).mono ?_; rintro e xd2 ⟨rfl, hb⟩; replace HB := bl_trans HB hb; clear hb
  go_wp2_with fail
  with_reducible refine (c3 _).mono ?_; rintro e xc3 ⟨rfl, hb⟩; replace HB := bl_trans HB hb; clear hb
  go_wp2_with fail
  with_reducible refine (d3 _).mono ?_; rintro e xd3 ⟨rfl, hb⟩; replace HB := bl_trans HB hb; clear hb
  go_wp2_with fail
  with_reducible refine (c4 _).mono ?_; rintro e xc4 ⟨rfl, hb⟩; replace HB := bl_trans HB hb; clear hb
  go_wp2_with fail
  with_reducible refine (d4 _).mono ?_; rintro e xd4 ⟨rfl, hb⟩; replace HB := bl_trans HB hb; clear hb
  go_wp2_with fail
  with_reducible refine (c5 _).mono ?_; rintro e w5 ⟨A, ca, rfl, ha, hA, hb⟩; replace HB := bl_trans HB hb; clear hb
  have HA := Lib.hid hA; clear hA
  go_wp2_with fail
  with_reducible refine (c6 _).mono ?_; rintro e w6 ⟨B, cb, rfl, hb', hB, hb⟩; replace HB := bl_trans HB hb; have HA' := Lib.hid (Kd.C_below HA.out hb); clear hb
  have HB' := Lib.hid hB; clear hB
  have HL := Lib.hid ha; have HL' := Lib.hid hb'; clear ha hb'
  go_wp2_with fail
  with_reducible refine (c7 _ _ _ _ _ HA'.out HL.out HB'.out HL'.out).mono ?_; rintro e w7 ⟨rfl, hb⟩; replace HB := bl_trans HB hb; clear hb
  go_wp2_with fail
  refine (hw _).mono ?_; rintro e w8 ⟨rfl, hb⟩; replace HB := bl_trans HB hb; clear hb
  go_wp2
  go_ret
  exact ⟨rfl, HB⟩
end Go.Proofs.Ytboefcnghngoaaa
