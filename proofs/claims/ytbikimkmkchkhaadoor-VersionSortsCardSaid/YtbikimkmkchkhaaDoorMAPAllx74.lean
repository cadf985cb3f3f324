-- Written by a tool of the kit (print.py) over the laws of this seat at once; Lean checks it.
import Derived.Test.YtbikimkmkchkhaaDoorMA1
import Derived.Test.YtbikimkmkchkhaaDoorMAPAllx6
import Derived.Test.YtbikimkmkchkhaaDoorMAPAllx73
namespace Go.Proofs.YtbikimkmkchkhaaDoor.PAll
open Go.RowKit Go.Proofs.YtbikimkmkchkhaaDoorW.PrintWords Go.Proofs.YtbikimkmkchkhaaDoorW.PrintLast Go.Proofs.YtbikimkmkchkhaaDoorW.PrintMore
attribute [local go_sem] max2_int min2_int max_two min_two max_three min_three max_four min_four   -- for this text's walks alone
set_option linter.unusedVariables false
set_option linter.unusedSimpArgs false

/-! ### sutlerlaw17_VersionOrders: function 3 -/
def sutlerlaw17_VersionOrders.j0 : Nat → Int → Int → Int → Bool → Option (Bool)
  | 0, _, _, _, _ => none
  | k + 1, x7, x8, x9, x32 => if x32 = true then (some false) else (if x7 ≤ 0 then (if x8 ≤ 0 then (if x9 > 0 then (some false) else (if x7 ≥ 0 then (if x8 ≥ 0 then (if x9 < 0 then (some false) else (if x7 = 0 then (if x8 = 0 then (if x9 = 0 then (if x7 < 0 then (some (!(decide (x9 ≥ 0)))) else (some (!false))) else (some false)) else (if x7 < 0 then (some (!(decide (x9 ≥ 0)))) else (some (!false)))) else (if x7 < 0 then (some (!(decide (x9 ≥ 0)))) else (some (!false))))) else (if x7 = 0 then (if x8 = 0 then (if x9 = 0 then (if x7 < 0 then (some (!(decide (x9 ≥ 0)))) else (some (!false))) else (some false)) else (if x7 < 0 then (some (!(decide (x9 ≥ 0)))) else (some (!false)))) else (if x7 < 0 then (some (!(decide (x9 ≥ 0)))) else (some (!false))))) else (if x7 = 0 then (if x8 = 0 then (if x9 = 0 then (if x7 < 0 then (some (!(decide (x9 ≥ 0)))) else (some (!false))) else (some false)) else (if x7 < 0 then (some (!(decide (x9 ≥ 0)))) else (some (!false)))) else (if x7 < 0 then (some (!(decide (x9 ≥ 0)))) else (some (!false)))))) else (if x7 ≥ 0 then (if x8 ≥ 0 then (if x9 < 0 then (some false) else (if x7 = 0 then (if x8 = 0 then (if x9 = 0 then (if x7 < 0 then (some (!false)) else (some (!false))) else (some false)) else (if x7 < 0 then (some (!false)) else (some (!false)))) else (if x7 < 0 then (some (!false)) else (some (!false))))) else (if x7 = 0 then (if x8 = 0 then (if x9 = 0 then (if x7 < 0 then (some (!false)) else (some (!false))) else (some false)) else (if x7 < 0 then (some (!false)) else (some (!false)))) else (if x7 < 0 then (some (!false)) else (some (!false))))) else (if x7 = 0 then (if x8 = 0 then (if x9 = 0 then (if x7 < 0 then (some (!false)) else (some (!false))) else (some false)) else (if x7 < 0 then (some (!false)) else (some (!false)))) else (if x7 < 0 then (some (!false)) else (some (!false)))))) else (if x7 ≥ 0 then (if x8 ≥ 0 then (if x9 < 0 then (some false) else (if x7 = 0 then (if x8 = 0 then (if x9 = 0 then (if x7 < 0 then (if x8 ≤ 0 then (some (!(decide (x9 ≥ 0)))) else (some (!false))) else (some (!false))) else (some false)) else (if x7 < 0 then (if x8 ≤ 0 then (some (!(decide (x9 ≥ 0)))) else (some (!false))) else (some (!false)))) else (if x7 < 0 then (if x8 ≤ 0 then (some (!(decide (x9 ≥ 0)))) else (some (!false))) else (some (!false))))) else (if x7 = 0 then (if x8 = 0 then (if x9 = 0 then (if x7 < 0 then (if x8 ≤ 0 then (some (!(decide (x9 ≥ 0)))) else (some (!false))) else (some (!false))) else (some false)) else (if x7 < 0 then (if x8 ≤ 0 then (some (!(decide (x9 ≥ 0)))) else (some (!false))) else (some (!false)))) else (if x7 < 0 then (if x8 ≤ 0 then (some (!(decide (x9 ≥ 0)))) else (some (!false))) else (some (!false))))) else (if x7 = 0 then (if x8 = 0 then (if x9 = 0 then (if x7 < 0 then (if x8 ≤ 0 then (some (!(decide (x9 ≥ 0)))) else (some (!false))) else (some (!false))) else (some false)) else (if x7 < 0 then (if x8 ≤ 0 then (some (!(decide (x9 ≥ 0)))) else (some (!false))) else (some (!false)))) else (if x7 < 0 then (if x8 ≤ 0 then (some (!(decide (x9 ≥ 0)))) else (some (!false))) else (some (!false))))))
def sutlerlaw17_VersionOrders.f (k : Nat) (l0_0 : List Int) (a0_1 : ByteArray) (l1_0 : List Int) (a1_1 : ByteArray) (l2_0 : List Int) (a2_1 : ByteArray) : Option (Bool) := (sutlerlaw17_works.f).bind fun t167 => (if t167 = true then ((version_Compare.f l0_0 a0_1 l1_0 a1_1).bind fun t168 => ((version_Compare.f l1_0 a1_1 l2_0 a2_1).bind fun t169 => ((version_Compare.f l0_0 a0_1 l2_0 a2_1).bind fun t170 => ((version_Compare.f l1_0 a1_1 l0_0 a0_1).bind fun t171 => (if t171 = (wrap64 (-t168)) then ((version_Compare.f l0_0 a0_1 l0_0 a0_1).bind fun t172 => (sutlerlaw17_VersionOrders.j0 k t168 t169 t170 (t172 != 0))) else (sutlerlaw17_VersionOrders.j0 k t168 t169 t170 true)))))) else (some false))
theorem sutlerlaw17_VersionOrders.mono_l : ∀ k, (∀ y0 y1 y2 y3, LeO (sutlerlaw17_VersionOrders.j0 k y0 y1 y2 y3) (sutlerlaw17_VersionOrders.j0 (k + 1) y0 y1 y2 y3))
  | 0 => fun _ _ _ _ r h => by simp [sutlerlaw17_VersionOrders.j0] at h
  | k + 1 => by
    have ih0 := sutlerlaw17_VersionOrders.mono_l k
    · intro y0 y1 y2 y3
      unfold sutlerlaw17_VersionOrders.j0
      repeat' first
      | (with_reducible exact ih0 _ _ _ _)
      | (with_reducible exact LeO.refl _)
      | (with_reducible exact LeO.none _)
      | (with_reducible refine LeO.ite ?_ ?_)
      | (with_reducible refine LeO.bind ?_ (fun _ => ?_))
      | exact ih0 _ _ _ _
      | exact LeO.none _
      | refine LeO.ite ?_ ?_
      | refine LeO.bind ?_ (fun _ => ?_)
theorem sutlerlaw17_VersionOrders.mono : ∀ a0 a1 a2 a3 a4 a5 k, LeO (sutlerlaw17_VersionOrders.f k a0 a1 a2 a3 a4 a5) (sutlerlaw17_VersionOrders.f (k + 1) a0 a1 a2 a3 a4 a5) := by
  intro a0 a1 a2 a3 a4 a5 k
  have ih0 := sutlerlaw17_VersionOrders.mono_l k
  unfold sutlerlaw17_VersionOrders.f
  repeat' first
      | (with_reducible exact ih0 _ _ _ _)
      | (with_reducible exact LeO.refl _)
      | (with_reducible exact LeO.none _)
      | (with_reducible refine LeO.ite ?_ ?_)
      | (with_reducible refine LeO.bind ?_ (fun _ => ?_))
      | exact ih0 _ _ _ _
      | exact LeO.none _
      | refine LeO.ite ?_ ?_
      | refine LeO.bind ?_ (fun _ => ?_)
def sutlerlaw17_VersionOrders.T3 : Bool × List (List Nat × List Nat) := (true, [([], []), ([], []), ([0, 1], [0, 1]), ([], []), ([], []), ([3, 4, 2], [3, 4]), ([], []), ([], []), ([6, 7, 5], [6, 7]), ([2, 8, 0, 1, 2], [2]), ([5, 9, 0, 1, 2, 3, 4, 5, 9], [5]), ([8, 10, 0, 1, 2, 3, 4, 5, 6, 7, 8, 9, 10], [8])])
def sutlerlaw17_VersionOrders.B3 : List Nat := [0, 0, 3, 0, 0, 31, 0, 0, 255, 511, 1023, 2047]
theorem sutlerlaw17_VersionOrders.tab3 : rtab .any (opsOf Tryd.f3 3) = sutlerlaw17_VersionOrders.T3 := by kernel_rfl
theorem sutlerlaw17_VersionOrders.bits3 : waitsOk sutlerlaw17_VersionOrders.T3.2 sutlerlaw17_VersionOrders.B3 = true := by kernel_rfl
set_option maxHeartbeats 8000000 in
set_option maxRecDepth 100000 in
theorem sutlerlaw17_VersionOrders.calls (k : Nat) (A0_0 : Option Addr) (c0_0 : Nat) (l0_0 : List Int) (a0_1 : ByteArray) (A1_0 : Option Addr) (c1_0 : Nat) (l1_0 : List Int) (a1_1 : ByteArray) (A2_0 : Option Addr) (c2_0 : Nat) (l2_0 : List Int) (a2_1 : ByteArray) (r : Bool) (w : World) (hr0_0 : Kd.C (Kd.int .i64) w A0_0 l0_0.length l0_0) (hc0_0 : l0_0.length ≤ c0_0) (hr1_0 : Kd.C (Kd.int .i64) w A1_0 l1_0.length l1_0) (hc1_0 : l1_0.length ≤ c1_0) (hr2_0 : Kd.C (Kd.int .i64) w A2_0 l2_0.length l2_0) (hc2_0 : l2_0.length ≤ c2_0) (h : sutlerlaw17_VersionOrders.f k l0_0 a0_1 l1_0 a1_1 l2_0 a2_1 = some r) (hLD : Tabs w) :
    Calls Tryd.prog 3 #[.agg #[.slice A0_0 l0_0.length c0_0, .string a0_1], .agg #[.slice A1_0 l1_0.length c1_0, .string a1_1], .agg #[.slice A2_0 l2_0.length c2_0, .string a2_1]] w fun e w' => e = .returned (.bool r) ∧ Below w.heap.size w w' := by
  have LD := Aside0.mk hLD
  clear hLD
  have hu24 := Tryd.underlying24
  have HR0_0 := Aside0.mk hr0_0
  have HC0_0 := Aside0.mk hc0_0
  clear hr0_0 hc0_0
  have HR1_0 := Aside0.mk hr1_0
  have HC1_0 := Aside0.mk hc1_0
  clear hr1_0 hc1_0
  have HR2_0 := Aside0.mk hr2_0
  have HC2_0 := Aside0.mk hc2_0
  clear hr2_0 hc2_0
  have HB := Aside0.mk (Below.refl w.heap.size w)
  have H : ((sutlerlaw17_works.f).bind fun t167 => (if t167 = true then ((version_Compare.f l0_0 a0_1 l1_0 a1_1).bind fun t168 => ((version_Compare.f l1_0 a1_1 l2_0 a2_1).bind fun t169 => ((version_Compare.f l0_0 a0_1 l2_0 a2_1).bind fun t170 => ((version_Compare.f l1_0 a1_1 l0_0 a0_1).bind fun t171 => (if t171 = (wrap64 (-t168)) then ((version_Compare.f l0_0 a0_1 l0_0 a0_1).bind fun t172 => (sutlerlaw17_VersionOrders.j0 k t168 t169 t170 (t172 != 0))) else (sutlerlaw17_VersionOrders.j0 k t168 t169 t170 true)))))) else (some false))) = some r := h
  clear h
  replace H := Option.bind_eq_some_iff.mp H
  obtain ⟨t167, A40, H⟩ := H
  replace H : (if t167 = true then ((version_Compare.f l0_0 a0_1 l1_0 a1_1).bind fun t168 => ((version_Compare.f l1_0 a1_1 l2_0 a2_1).bind fun t169 => ((version_Compare.f l0_0 a0_1 l2_0 a2_1).bind fun t170 => ((version_Compare.f l1_0 a1_1 l0_0 a0_1).bind fun t171 => (if t171 = (wrap64 (-t168)) then ((version_Compare.f l0_0 a0_1 l0_0 a0_1).bind fun t172 => (sutlerlaw17_VersionOrders.j0 k t168 t169 t170 (t172 != 0))) else (sutlerlaw17_VersionOrders.j0 k t168 t169 t170 true)))))) else (some false)) = some r := H
  have A4 := Aside0.mk A40
  clear A40
  by_cases c5 : t167 = true
  · subst c5
    have H1 : ((version_Compare.f l0_0 a0_1 l1_0 a1_1).bind fun t168 => ((version_Compare.f l1_0 a1_1 l2_0 a2_1).bind fun t169 => ((version_Compare.f l0_0 a0_1 l2_0 a2_1).bind fun t170 => ((version_Compare.f l1_0 a1_1 l0_0 a0_1).bind fun t171 => (if t171 = (wrap64 (-t168)) then ((version_Compare.f l0_0 a0_1 l0_0 a0_1).bind fun t172 => (sutlerlaw17_VersionOrders.j0 k t168 t169 t170 (t172 != 0))) else (sutlerlaw17_VersionOrders.j0 k t168 t169 t170 true)))))) = some r := by rw [if_pos rfl] at H; exact H
    clear H
    have H := H1
    clear H1
    replace H := Option.bind_eq_some_iff.mp H
    obtain ⟨t168, A60, H⟩ := H
    replace H : ((version_Compare.f l1_0 a1_1 l2_0 a2_1).bind fun t169 => ((version_Compare.f l0_0 a0_1 l2_0 a2_1).bind fun t170 => ((version_Compare.f l1_0 a1_1 l0_0 a0_1).bind fun t171 => (if t171 = (wrap64 (-t168)) then ((version_Compare.f l0_0 a0_1 l0_0 a0_1).bind fun t172 => (sutlerlaw17_VersionOrders.j0 k t168 t169 t170 (t172 != 0))) else (sutlerlaw17_VersionOrders.j0 k t168 t169 t170 true))))) = some r := H
    have A6 := Aside0.mk A60
    clear A60
    replace H := Option.bind_eq_some_iff.mp H
    obtain ⟨t169, A70, H⟩ := H
    replace H : ((version_Compare.f l0_0 a0_1 l2_0 a2_1).bind fun t170 => ((version_Compare.f l1_0 a1_1 l0_0 a0_1).bind fun t171 => (if t171 = (wrap64 (-t168)) then ((version_Compare.f l0_0 a0_1 l0_0 a0_1).bind fun t172 => (sutlerlaw17_VersionOrders.j0 k t168 t169 t170 (t172 != 0))) else (sutlerlaw17_VersionOrders.j0 k t168 t169 t170 true)))) = some r := H
    have A7 := Aside0.mk A70
    clear A70
    replace H := Option.bind_eq_some_iff.mp H
    obtain ⟨t170, A80, H⟩ := H
    replace H : ((version_Compare.f l1_0 a1_1 l0_0 a0_1).bind fun t171 => (if t171 = (wrap64 (-t168)) then ((version_Compare.f l0_0 a0_1 l0_0 a0_1).bind fun t172 => (sutlerlaw17_VersionOrders.j0 k t168 t169 t170 (t172 != 0))) else (sutlerlaw17_VersionOrders.j0 k t168 t169 t170 true))) = some r := H
    have A8 := Aside0.mk A80
    clear A80
    have HC9 := Aside0.mk H
    clear H
    go_enter Tryd.func3, Tryd.ntmps3
    try go_wp2_with (first | ((with_reducible refine gate_dst (N := 3) rfl ?_); refine box_event ?hg (N := 3) ?hd (cs := #[.slice A0_0 l0_0.length c0_0, .string a0_1]) (t := 24) ?hr ?_; (case hd => rfl); (case hg => rfl); (case hr => first | (go_simp; done) | (go_simp; rfl)); intro gb164 hg w10 hbox hb; have n0_ := Aside0.mk (below_step (by repeat (first | (with_reducible first | exact HB.out | apply below_alloc | apply pw_below_drewN | apply below_drew1) | exact HB.out)) hb); have n1_ := Aside0.mk (hbox); have n2_ := Aside0.mk ((by rw [hg]; exact (below_size (by repeat (first | (with_reducible first | exact HB.out | apply below_alloc | apply pw_below_drewN | apply below_drew1) | exact HB.out))) : w.heap.size ≤ gb164)); have n3_ := Aside0.mk ((by rw [hg]; exact (below_size (by repeat (first | (with_reducible first | exact HB.out | apply below_alloc | apply pw_below_drewN | apply below_drew1) | exact HB.out))) : w.heap.size ≤ gb164)); clear HB; have HB := n0_; have BK164 := n1_; have GW164 := n2_; have GE164 := n3_; clear n0_ n1_ n2_ n3_; clear hb hbox hg) | ((with_reducible refine gate_dst (N := 4) rfl ?_); refine box_event ?hg (N := 4) ?hd (cs := #[.slice A1_0 l1_0.length c1_0, .string a1_1]) (t := 24) ?hr ?_; (case hd => rfl); (case hg => rfl); (case hr => first | (go_simp; done) | (go_simp; rfl)); intro gb165 hg w11 hbox hb; have n0_ := Aside0.mk (blk_below (g := gb164) (o := .cells #[.slice A0_0 l0_0.length c0_0, .string a0_1] 24 (0, 0)) (by (with_reducible repeat (first | refine blk_drewN ?_ _ | refine blk_drew ?_ | refine blk_alloc ?_ _)); exact BK164.out) hb); have n1_ := Aside0.mk (below_step (by repeat (first | (with_reducible first | exact HB.out | apply below_alloc | apply pw_below_drewN | apply below_drew1 | refine below_set ?_ GE164.out) | exact HB.out)) hb); have n2_ := Aside0.mk (hbox); have n3_ := Aside0.mk ((by rw [hg]; exact (below_size (by repeat (first | (with_reducible first | exact HB.out | apply below_alloc | apply pw_below_drewN | apply below_drew1 | refine below_set ?_ GE164.out) | exact HB.out))) : w.heap.size ≤ gb165)); have n4_ := Aside0.mk ((by rw [hg]; exact (below_size (by repeat (first | (with_reducible first | exact HB.out | apply below_alloc | apply pw_below_drewN | apply below_drew1 | refine below_set ?_ GE164.out) | exact HB.out))) : w.heap.size ≤ gb165)); have n5_ := Aside0.mk ((by rw [hg]; exact Nat.ne_of_lt (blk_lt (g := gb164) (o := .cells #[.slice A0_0 l0_0.length c0_0, .string a0_1] 24 (0, 0)) (by (with_reducible repeat (first | refine blk_drewN ?_ _ | refine blk_drew ?_ | refine blk_alloc ?_ _)); exact BK164.out)) : gb164 ≠ gb165)); have n6_ := Aside0.mk ((by rw [hg]; exact Nat.ne_of_gt (blk_lt (g := gb164) (o := .cells #[.slice A0_0 l0_0.length c0_0, .string a0_1] 24 (0, 0)) (by (with_reducible repeat (first | refine blk_drewN ?_ _ | refine blk_drew ?_ | refine blk_alloc ?_ _)); exact BK164.out)) : gb165 ≠ gb164)); clear BK164; clear HB; have BK164 := n0_; have HB := n1_; have BK165 := n2_; have GW165 := n3_; have GE165 := n4_; have NB164_165 := n5_; have NB165_164 := n6_; clear n0_ n1_ n2_ n3_ n4_ n5_ n6_; clear hb hbox hg) | ((with_reducible refine gate_dst (N := 5) rfl ?_); refine box_event ?hg (N := 5) ?hd (cs := #[.slice A2_0 l2_0.length c2_0, .string a2_1]) (t := 24) ?hr ?_; (case hd => rfl); (case hg => rfl); (case hr => first | (go_simp; done) | (go_simp; rfl)); intro gb166 hg w12 hbox hb; have n0_ := Aside0.mk (blk_below (g := gb164) (o := .cells #[.slice A0_0 l0_0.length c0_0, .string a0_1] 24 (0, 0)) (by (with_reducible repeat (first | refine blk_drewN ?_ _ | refine blk_drew ?_ | refine blk_alloc ?_ _)); exact BK164.out) hb); have n1_ := Aside0.mk (blk_below (g := gb165) (o := .cells #[.slice A1_0 l1_0.length c1_0, .string a1_1] 24 (0, 0)) (by (with_reducible repeat (first | refine blk_drewN ?_ _ | refine blk_drew ?_ | refine blk_alloc ?_ _)); exact BK165.out) hb); have n2_ := Aside0.mk (below_step (by repeat (first | (with_reducible first | exact HB.out | apply below_alloc | apply pw_below_drewN | apply below_drew1 | refine below_set ?_ GE164.out | refine below_set ?_ GE165.out) | exact HB.out)) hb); have n3_ := Aside0.mk (hbox); have n4_ := Aside0.mk ((by rw [hg]; exact (below_size (by repeat (first | (with_reducible first | exact HB.out | apply below_alloc | apply pw_below_drewN | apply below_drew1 | refine below_set ?_ GE164.out | refine below_set ?_ GE165.out) | exact HB.out))) : w.heap.size ≤ gb166)); have n5_ := Aside0.mk ((by rw [hg]; exact (below_size (by repeat (first | (with_reducible first | exact HB.out | apply below_alloc | apply pw_below_drewN | apply below_drew1 | refine below_set ?_ GE164.out | refine below_set ?_ GE165.out) | exact HB.out))) : w.heap.size ≤ gb166)); have n6_ := Aside0.mk ((by rw [hg]; exact Nat.ne_of_lt (blk_lt (g := gb164) (o := .cells #[.slice A0_0 l0_0.length c0_0, .string a0_1] 24 (0, 0)) (by (with_reducible repeat (first | refine blk_drewN ?_ _ | refine blk_drew ?_ | refine blk_alloc ?_ _)); exact BK164.out)) : gb164 ≠ gb166)); have n7_ := Aside0.mk ((by rw [hg]; exact Nat.ne_of_gt (blk_lt (g := gb164) (o := .cells #[.slice A0_0 l0_0.length c0_0, .string a0_1] 24 (0, 0)) (by (with_reducible repeat (first | refine blk_drewN ?_ _ | refine blk_drew ?_ | refine blk_alloc ?_ _)); exact BK164.out)) : gb166 ≠ gb164)); have n8_ := Aside0.mk ((by rw [hg]; exact Nat.ne_of_lt (blk_lt (g := gb165) (o := .cells #[.slice A1_0 l1_0.length c1_0, .string a1_1] 24 (0, 0)) (by (with_reducible repeat (first | refine blk_drewN ?_ _ | refine blk_drew ?_ | refine blk_alloc ?_ _)); exact BK165.out)) : gb165 ≠ gb166)); have n9_ := Aside0.mk ((by rw [hg]; exact Nat.ne_of_gt (blk_lt (g := gb165) (o := .cells #[.slice A1_0 l1_0.length c1_0, .string a1_1] 24 (0, 0)) (by (with_reducible repeat (first | refine blk_drewN ?_ _ | refine blk_drew ?_ | refine blk_alloc ?_ _)); exact BK165.out)) : gb166 ≠ gb165)); clear BK164; clear BK165; clear HB; have BK164 := n0_; have BK165 := n1_; have HB := n2_; have BK166 := n3_; have GW166 := n4_; have GE166 := n5_; have NB164_166 := n6_; have NB166_164 := n7_; have NB165_166 := n8_; have NB166_165 := n9_; clear n0_ n1_ n2_ n3_ n4_ n5_ n6_ n7_ n8_ n9_; clear hb hbox hg) | ((with_reducible refine gate_callee (f := 8) rfl ?_); refine goesL_ (some 10) rfl rfl Tryd.func8 (by kernel_rfl) rfl #[] rfl (by (try simp only [List.map_toArray, List.map_cons, List.map_nil]); first | done | rfl | (simp only [List.length_drop, List.length_take]; rfl)) ?_; (with_reducible refine (sutlerlaw17_works.calls  true _ A4.out (LD.out.below (by repeat (first | (with_reducible first | exact HB.out | apply below_alloc | apply pw_below_drewN | apply below_drew1 | refine below_set ?_ GE164.out | refine below_set ?_ GE165.out | refine below_set ?_ GE166.out) | exact HB.out)))).mono ?_); rintro e w13 ⟨rfl, hb⟩; refine ⟨_, rfl, ?_⟩; have n0_ := Aside0.mk (blk_below (g := gb164) (o := .cells #[.slice A0_0 l0_0.length c0_0, .string a0_1] 24 (0, 0)) (by (with_reducible repeat (first | refine blk_drewN ?_ _ | refine blk_drew ?_ | refine blk_alloc ?_ _)); exact BK164.out) hb); have n1_ := Aside0.mk (blk_below (g := gb165) (o := .cells #[.slice A1_0 l1_0.length c1_0, .string a1_1] 24 (0, 0)) (by (with_reducible repeat (first | refine blk_drewN ?_ _ | refine blk_drew ?_ | refine blk_alloc ?_ _)); exact BK165.out) hb); have n2_ := Aside0.mk (blk_below (g := gb166) (o := .cells #[.slice A2_0 l2_0.length c2_0, .string a2_1] 24 (0, 0)) (by (with_reducible repeat (first | refine blk_drewN ?_ _ | refine blk_drew ?_ | refine blk_alloc ?_ _)); exact BK166.out) hb); have n3_ := Aside0.mk (below_step (by repeat (first | (with_reducible first | exact HB.out | apply below_alloc | apply pw_below_drewN | apply below_drew1 | refine below_set ?_ GE164.out | refine below_set ?_ GE165.out | refine below_set ?_ GE166.out) | exact HB.out)) hb); clear BK164; clear BK165; clear BK166; clear HB; have BK164 := n0_; have BK165 := n1_; have BK166 := n2_; have HB := n3_; clear n0_ n1_ n2_ n3_; (try clear hb); (try clear hb2); (try clear hk); (try clear hi)))
    have n0_ := Aside0.mk (blk_drew BK164.out)
    have n1_ := Aside0.mk (blk_drew BK165.out)
    have n2_ := Aside0.mk (blk_drew BK166.out)
    have n3_ := Aside0.mk (below_drew1 HB.out)
    clear BK164
    clear BK165
    clear BK166
    clear HB
    have BK164 := n0_
    have BK165 := n1_
    have BK166 := n2_
    have HB := n3_
    clear n0_ n1_ n2_ n3_
    refine start_ (n := 12) (S := fun w' => w'.cell? ⟨gb164, 0, none⟩ = some (.slice A0_0 l0_0.length c0_0) ∧ w'.cell? ⟨gb164, 1, none⟩ = some (.string a0_1) ∧ w'.cell? ⟨gb165, 0, none⟩ = some (.slice A1_0 l1_0.length c1_0) ∧ w'.cell? ⟨gb165, 1, none⟩ = some (.string a1_1) ∧ w'.cell? ⟨gb166, 0, none⟩ = some (.slice A2_0 l2_0.length c2_0) ∧ w'.cell? ⟨gb166, 1, none⟩ = some (.string a2_1)) (ds := []) #[false, false, false, false, false, false, false, false, false, false, false, false] (by kernel_rfl) rfl rfl ⟨(blk_cell BK164.out 0).trans rfl, (blk_cell BK164.out 1).trans rfl, (blk_cell BK165.out 0).trans rfl, (blk_cell BK165.out 1).trans rfl, (blk_cell BK166.out 0).trans rfl, (blk_cell BK166.out 1).trans rfl⟩ (fun hHeld => ?_); refine with_tabW sutlerlaw17_VersionOrders.tab3 sutlerlaw17_VersionOrders.bits3 (fun HT_ HW_ => ?_)
    generalize w13.drew = w14 at BK164 BK165 BK166 HB hHeld ⊢
    refine take_ (i := 0) (N := some 12) (v := ?_) (a' := ?_) #[true, false, false, false, false, false, false, false, false, false, false, false] rfl rfl (take_ofW HT_.out HW_.out (by kernel_rfl)) (fun _ _ _ h => h) (Or.inl ⟨by rfl, ?_⟩) hHeld ?_ ?_
    rotate_left
    · rintro w' ⟨s0, s1, s2, s3, s4, s5⟩
      go_simp
      with_reducible rfl
    rotate_left
    · simp only [Act.put, List.setIfInBounds_toArray, List.set_cons_zero, List.set_cons_succ, i64_w, i32_w]
      rfl
    refine take_ (i := 1) (N := some 13) (v := ?_) (a' := ?_) #[true, true, false, false, false, false, false, false, false, false, false, false] rfl rfl (take_ofW HT_.out HW_.out (by kernel_rfl)) (fun _ _ _ h => h) (Or.inl ⟨by rfl, ?_⟩) hHeld ?_ ?_
    rotate_left
    · rintro w' ⟨s0, s1, s2, s3, s4, s5⟩
      go_simp
      with_reducible rfl
    rotate_left
    · simp only [Act.put, List.setIfInBounds_toArray, List.set_cons_zero, List.set_cons_succ, i64_w, i32_w]
      rfl
    refine take_ (i := 3) (N := some 15) (v := ?_) (a' := ?_) #[true, true, false, true, false, false, false, false, false, false, false, false] rfl rfl (take_ofW HT_.out HW_.out (by kernel_rfl)) (fun _ _ _ h => h) (Or.inl ⟨by rfl, ?_⟩) hHeld ?_ ?_
    rotate_left
    · rintro w' ⟨s0, s1, s2, s3, s4, s5⟩
      go_simp
      with_reducible rfl
    rotate_left
    · simp only [Act.put, List.setIfInBounds_toArray, List.set_cons_zero, List.set_cons_succ, i64_w, i32_w]
      rfl
    refine take_ (i := 4) (N := some 16) (v := ?_) (a' := ?_) #[true, true, false, true, true, false, false, false, false, false, false, false] rfl rfl (take_ofW HT_.out HW_.out (by kernel_rfl)) (fun _ _ _ h => h) (Or.inl ⟨by rfl, ?_⟩) hHeld ?_ ?_
    rotate_left
    · rintro w' ⟨s0, s1, s2, s3, s4, s5⟩
      go_simp
      with_reducible rfl
    rotate_left
    · simp only [Act.put, List.setIfInBounds_toArray, List.set_cons_zero, List.set_cons_succ, i64_w, i32_w]
      rfl
    refine take_ (i := 6) (N := some 18) (v := ?_) (a' := ?_) #[true, true, false, true, true, false, true, false, false, false, false, false] rfl rfl (take_ofW HT_.out HW_.out (by kernel_rfl)) (fun _ _ _ h => h) (Or.inl ⟨by rfl, ?_⟩) hHeld ?_ ?_
    rotate_left
    · rintro w' ⟨s0, s1, s2, s3, s4, s5⟩
      go_simp
      with_reducible rfl
    rotate_left
    · simp only [Act.put, List.setIfInBounds_toArray, List.set_cons_zero, List.set_cons_succ, i64_w, i32_w]
      rfl
    refine take_ (i := 7) (N := some 19) (v := ?_) (a' := ?_) #[true, true, false, true, true, false, true, true, false, false, false, false] rfl rfl (take_ofW HT_.out HW_.out (by kernel_rfl)) (fun _ _ _ h => h) (Or.inl ⟨by rfl, ?_⟩) hHeld ?_ ?_
    rotate_left
    · rintro w' ⟨s0, s1, s2, s3, s4, s5⟩
      go_simp
      with_reducible rfl
    rotate_left
    · simp only [Act.put, List.setIfInBounds_toArray, List.set_cons_zero, List.set_cons_succ, i64_w, i32_w]
      rfl
    refine one_ (i := 2) (N := some 14) #[true, true, true, true, true, false, true, true, false, false, false, false] rfl rfl (one_of HT_.out (by kernel_rfl)) (by decide) (fun K hK => ?_)
    refine goes_ Tryd.func9 (by kernel_rfl) rfl #[.agg #[.slice A0_0 l0_0.length c0_0, .string a0_1], .agg #[.slice A1_0 l1_0.length c1_0, .string a1_1]] (by rfl) rfl rfl (by (try simp only [List.map_toArray, List.map_cons, List.map_nil]); first | done | rfl | (simp only [List.length_drop, List.length_take]; rfl)) ?_
    with_reducible refine (version_Compare.calls _ _ l0_0 a0_1 _ _ l1_0 a1_1 t168 _ ?side1 ?side2 ?side3 ?side4 A6.out).mono ?_
    (case side1 => repeat (first | exact (Kd.C_below HR0_0.out HB.out) | (with_reducible refine Kd.C_alloc ?_ _) | (with_reducible refine Kd.C_drewN ?_ _) | (with_reducible refine Kd.C_drew ?_)))
    (case side2 => exact HC0_0.out)
    (case side3 => repeat (first | exact (Kd.C_below HR1_0.out HB.out) | (with_reducible refine Kd.C_alloc ?_ _) | (with_reducible refine Kd.C_drewN ?_ _) | (with_reducible refine Kd.C_drew ?_)))
    (case side4 => exact HC1_0.out)
    rintro e w15 ⟨rfl, hb⟩
    refine ⟨_, rfl, ?_⟩
    have n0_ := Aside0.mk (blk_below (g := gb164) (o := .cells #[.slice A0_0 l0_0.length c0_0, .string a0_1] 24 (0, 0)) (by (with_reducible repeat (first | refine blk_drewN ?_ _ | refine blk_drew ?_ | refine blk_alloc ?_ _)); exact BK164.out) hb)
    have n1_ := Aside0.mk (blk_below (g := gb165) (o := .cells #[.slice A1_0 l1_0.length c1_0, .string a1_1] 24 (0, 0)) (by (with_reducible repeat (first | refine blk_drewN ?_ _ | refine blk_drew ?_ | refine blk_alloc ?_ _)); exact BK165.out) hb)
    have n2_ := Aside0.mk (blk_below (g := gb166) (o := .cells #[.slice A2_0 l2_0.length c2_0, .string a2_1] 24 (0, 0)) (by (with_reducible repeat (first | refine blk_drewN ?_ _ | refine blk_drew ?_ | refine blk_alloc ?_ _)); exact BK166.out) hb)
    have n3_ := Aside0.mk (below_step (by repeat (first | (with_reducible first | exact HB.out | apply below_alloc | apply pw_below_drewN | apply below_drew1 | refine below_set ?_ GE164.out | refine below_set ?_ GE165.out | refine below_set ?_ GE166.out) | exact HB.out)) hb)
    clear BK164
    clear BK165
    clear BK166
    clear HB
    have BK164 := n0_
    have BK165 := n1_
    have BK166 := n2_
    have HB := n3_
    clear n0_ n1_ n2_ n3_
    (try clear hb)
    (try clear hb2)
    (try clear hk)
    (try clear hi)
    refine hK.out _ _ ⟨(blk_cell BK164.out 0).trans rfl, (blk_cell BK164.out 1).trans rfl, (blk_cell BK165.out 0).trans rfl, (blk_cell BK165.out 1).trans rfl, (blk_cell BK166.out 0).trans rfl, (blk_cell BK166.out 1).trans rfl⟩ (fun hHeld => ?_)
    clear hK K
    refine norm_ (a' := ?_) ?_ ?_
    rotate_left
    · show Act.put _ (some 14) _ = _
      simp only [Act.put, List.setIfInBounds_toArray, List.set_cons_zero, List.set_cons_succ, i64_w, i32_w]
      rfl
    refine one_ (i := 5) (N := some 17) #[true, true, true, true, true, true, true, true, false, false, false, false] rfl rfl (one_of HT_.out (by kernel_rfl)) (by decide) (fun K hK => ?_)
    refine goes_ Tryd.func9 (by kernel_rfl) rfl #[.agg #[.slice A1_0 l1_0.length c1_0, .string a1_1], .agg #[.slice A2_0 l2_0.length c2_0, .string a2_1]] (by rfl) rfl rfl (by (try simp only [List.map_toArray, List.map_cons, List.map_nil]); first | done | rfl | (simp only [List.length_drop, List.length_take]; rfl)) ?_
    with_reducible refine (version_Compare.calls _ _ l1_0 a1_1 _ _ l2_0 a2_1 t169 _ ?side1 ?side2 ?side3 ?side4 A7.out).mono ?_
    (case side1 => repeat (first | exact (Kd.C_below HR1_0.out HB.out) | (with_reducible refine Kd.C_alloc ?_ _) | (with_reducible refine Kd.C_drewN ?_ _) | (with_reducible refine Kd.C_drew ?_)))
    (case side2 => exact HC1_0.out)
    (case side3 => repeat (first | exact (Kd.C_below HR2_0.out HB.out) | (with_reducible refine Kd.C_alloc ?_ _) | (with_reducible refine Kd.C_drewN ?_ _) | (with_reducible refine Kd.C_drew ?_)))
    (case side4 => exact HC2_0.out)
    rintro e w16 ⟨rfl, hb⟩
    refine ⟨_, rfl, ?_⟩
    have n0_ := Aside0.mk (blk_below (g := gb164) (o := .cells #[.slice A0_0 l0_0.length c0_0, .string a0_1] 24 (0, 0)) (by (with_reducible repeat (first | refine blk_drewN ?_ _ | refine blk_drew ?_ | refine blk_alloc ?_ _)); exact BK164.out) hb)
    have n1_ := Aside0.mk (blk_below (g := gb165) (o := .cells #[.slice A1_0 l1_0.length c1_0, .string a1_1] 24 (0, 0)) (by (with_reducible repeat (first | refine blk_drewN ?_ _ | refine blk_drew ?_ | refine blk_alloc ?_ _)); exact BK165.out) hb)
    have n2_ := Aside0.mk (blk_below (g := gb166) (o := .cells #[.slice A2_0 l2_0.length c2_0, .string a2_1] 24 (0, 0)) (by (with_reducible repeat (first | refine blk_drewN ?_ _ | refine blk_drew ?_ | refine blk_alloc ?_ _)); exact BK166.out) hb)
    have n3_ := Aside0.mk (below_step (by repeat (first | (with_reducible first | exact HB.out | apply below_alloc | apply pw_below_drewN | apply below_drew1 | refine below_set ?_ GE164.out | refine below_set ?_ GE165.out | refine below_set ?_ GE166.out) | exact HB.out)) hb)
    clear BK164
    clear BK165
    clear BK166
    clear HB
    have BK164 := n0_
    have BK165 := n1_
    have BK166 := n2_
    have HB := n3_
    clear n0_ n1_ n2_ n3_
    (try clear hb)
    (try clear hb2)
    (try clear hk)
    (try clear hi)
    refine hK.out _ _ ⟨(blk_cell BK164.out 0).trans rfl, (blk_cell BK164.out 1).trans rfl, (blk_cell BK165.out 0).trans rfl, (blk_cell BK165.out 1).trans rfl, (blk_cell BK166.out 0).trans rfl, (blk_cell BK166.out 1).trans rfl⟩ (fun hHeld => ?_)
    clear hK K
    refine norm_ (a' := ?_) ?_ ?_
    rotate_left
    · show Act.put _ (some 17) _ = _
      simp only [Act.put, List.setIfInBounds_toArray, List.set_cons_zero, List.set_cons_succ, i64_w, i32_w]
      rfl
    refine one_ (i := 8) (N := some 20) #[true, true, true, true, true, true, true, true, true, false, false, false] rfl rfl (one_of HT_.out (by kernel_rfl)) (by decide) (fun K hK => ?_)
    refine goes_ Tryd.func9 (by kernel_rfl) rfl #[.agg #[.slice A0_0 l0_0.length c0_0, .string a0_1], .agg #[.slice A2_0 l2_0.length c2_0, .string a2_1]] (by rfl) rfl rfl (by (try simp only [List.map_toArray, List.map_cons, List.map_nil]); first | done | rfl | (simp only [List.length_drop, List.length_take]; rfl)) ?_
    with_reducible refine (version_Compare.calls _ _ l0_0 a0_1 _ _ l2_0 a2_1 t170 _ ?side1 ?side2 ?side3 ?side4 A8.out).mono ?_
    (case side1 => repeat (first | exact (Kd.C_below HR0_0.out HB.out) | (with_reducible refine Kd.C_alloc ?_ _) | (with_reducible refine Kd.C_drewN ?_ _) | (with_reducible refine Kd.C_drew ?_)))
    (case side2 => exact HC0_0.out)
    (case side3 => repeat (first | exact (Kd.C_below HR2_0.out HB.out) | (with_reducible refine Kd.C_alloc ?_ _) | (with_reducible refine Kd.C_drewN ?_ _) | (with_reducible refine Kd.C_drew ?_)))
    (case side4 => exact HC2_0.out)
    rintro e w17 ⟨rfl, hb⟩
    refine ⟨_, rfl, ?_⟩
    have n0_ := Aside0.mk (blk_below (g := gb164) (o := .cells #[.slice A0_0 l0_0.length c0_0, .string a0_1] 24 (0, 0)) (by (with_reducible repeat (first | refine blk_drewN ?_ _ | refine blk_drew ?_ | refine blk_alloc ?_ _)); exact BK164.out) hb)
    have n1_ := Aside0.mk (blk_below (g := gb165) (o := .cells #[.slice A1_0 l1_0.length c1_0, .string a1_1] 24 (0, 0)) (by (with_reducible repeat (first | refine blk_drewN ?_ _ | refine blk_drew ?_ | refine blk_alloc ?_ _)); exact BK165.out) hb)
    have n2_ := Aside0.mk (blk_below (g := gb166) (o := .cells #[.slice A2_0 l2_0.length c2_0, .string a2_1] 24 (0, 0)) (by (with_reducible repeat (first | refine blk_drewN ?_ _ | refine blk_drew ?_ | refine blk_alloc ?_ _)); exact BK166.out) hb)
    have n3_ := Aside0.mk (below_step (by repeat (first | (with_reducible first | exact HB.out | apply below_alloc | apply pw_below_drewN | apply below_drew1 | refine below_set ?_ GE164.out | refine below_set ?_ GE165.out | refine below_set ?_ GE166.out) | exact HB.out)) hb)
    clear BK164
    clear BK165
    clear BK166
    clear HB
    have BK164 := n0_
    have BK165 := n1_
    have BK166 := n2_
    have HB := n3_
    clear n0_ n1_ n2_ n3_
    (try clear hb)
    (try clear hb2)
    (try clear hk)
    (try clear hi)
    refine hK.out _ _ ⟨(blk_cell BK164.out 0).trans rfl, (blk_cell BK164.out 1).trans rfl, (blk_cell BK165.out 0).trans rfl, (blk_cell BK165.out 1).trans rfl, (blk_cell BK166.out 0).trans rfl, (blk_cell BK166.out 1).trans rfl⟩ (fun hHeld => ?_)
    clear hK K
    refine norm_ (a' := ?_) ?_ ?_
    rotate_left
    · show Act.put _ (some 20) _ = _
      simp only [Act.put, List.setIfInBounds_toArray, List.set_cons_zero, List.set_cons_succ, i64_w, i32_w]
      rfl
    refine pure_ (i := 9) (N := some 7) (v := ?_) (a' := ?_) #[true, true, true, true, true, true, true, true, true, true, false, false] rfl rfl (any_of HT_.out (by kernel_rfl)) (fun _ _ _ h => h) (Or.inl ⟨by rfl, ?_⟩) ?_ ?_
    rotate_left
    · intro w'
      go_simp
      with_reducible rfl
    rotate_left
    · simp only [Act.put, List.setIfInBounds_toArray, List.set_cons_zero, List.set_cons_succ, i64_w, i32_w]
      rfl
    refine pure_ (i := 10) (N := some 8) (v := ?_) (a' := ?_) #[true, true, true, true, true, true, true, true, true, true, true, false] rfl rfl (any_of HT_.out (by kernel_rfl)) (fun _ _ _ h => h) (Or.inl ⟨by rfl, ?_⟩) ?_ ?_
    rotate_left
    · intro w'
      go_simp
      with_reducible rfl
    rotate_left
    · simp only [Act.put, List.setIfInBounds_toArray, List.set_cons_zero, List.set_cons_succ, i64_w, i32_w]
      rfl
    refine pure_ (i := 11) (N := some 9) (v := ?_) (a' := ?_) #[true, true, true, true, true, true, true, true, true, true, true, true] rfl rfl (any_of HT_.out (by kernel_rfl)) (fun _ _ _ h => h) (Or.inl ⟨by rfl, ?_⟩) ?_ ?_
    rotate_left
    · intro w'
      go_simp
      with_reducible rfl
    rotate_left
    · simp only [Act.put, List.setIfInBounds_toArray, List.set_cons_zero, List.set_cons_succ, i64_w, i32_w]
      rfl
    refine done_ (done_of HT_.out (by kernel_rfl)) ?_
    go_upto_region 4 with (fail)
    go_cut [32] (fun v32 wc => ∃ (kq : Nat) (x32_8 : Bool), v32 = .bool x32_8 ∧ Aside0 (sutlerlaw17_VersionOrders.j0 kq t168 t169 t170 x32_8 = some r) ∧ Aside0 (kq ≤ k) ∧ Aside0 (wc.heap[gb164]? = some (.cells #[(.slice A0_0 l0_0.length c0_0), .string a0_1] 24 (0, 0))) ∧ Aside0 (wc.heap[gb165]? = some (.cells #[(.slice A1_0 l1_0.length c1_0), .string a1_1] 24 (0, 0))) ∧ Aside0 (wc.heap[gb166]? = some (.cells #[(.slice A2_0 l2_0.length c2_0), .string a2_1] 24 (0, 0))) ∧ Aside0 (Below w.heap.size w wc))
    case first =>
      have H := HC9.out
      clear HC9
      replace H := Option.bind_eq_some_iff.mp H
      obtain ⟨t171, A180, H⟩ := H
      replace H : (if t171 = (wrap64 (-t168)) then ((version_Compare.f l0_0 a0_1 l0_0 a0_1).bind fun t172 => (sutlerlaw17_VersionOrders.j0 k t168 t169 t170 (t172 != 0))) else (sutlerlaw17_VersionOrders.j0 k t168 t169 t170 true)) = some r := H
      have A18 := Aside0.mk A180
      clear A180
      by_cases c19 : t171 = (wrap64 (-t168))
      · rw [if_pos c19] at H
        have c19b0 : (t171 == (wrap64 (-t168))) = true := beq_iff_eq.mpr c19
        have c19b1 : (t171 != (wrap64 (-t168))) = false := bne_eq_false_iff_eq.mpr c19
        clear c19
        (first | rw [c19b0] | (simp only [i64_w, i32_w]; rw [c19b0]) | skip)
        replace H := Option.bind_eq_some_iff.mp H
        obtain ⟨t172, A200, H⟩ := H
        replace H : (sutlerlaw17_VersionOrders.j0 k t168 t169 t170 (t172 != 0)) = some r := H
        have A20 := Aside0.mk A200
        clear A200
        have H' := Aside0.mk H
        clear H
        have hnb21 := NB165_164.out
        have hnc21 := NB164_165.out
        have hnb22 := NB165_166.out
        have hnc22 := NB166_165.out
        have hcz23_0 : w17.cell? ⟨gb165, 0, none⟩ = some (.slice A1_0 l1_0.length c1_0) := (blk_cell BK165.out 0).trans rfl
        have hcz23_1 : w17.cell? ⟨gb165, 1, none⟩ = some (.string a1_1) := (blk_cell BK165.out 1).trans rfl
        have hfz23_0 := blk_frozen BK165.out 0
        have hfz23_1 := blk_frozen BK165.out 1
        have hnb24 := NB164_166.out
        have hnc24 := NB166_164.out
        have hcz25_0 : w17.cell? ⟨gb164, 0, none⟩ = some (.slice A0_0 l0_0.length c0_0) := (blk_cell BK164.out 0).trans rfl
        have hcz25_1 : w17.cell? ⟨gb164, 1, none⟩ = some (.string a0_1) := (blk_cell BK164.out 1).trans rfl
        have hfz25_0 := blk_frozen BK164.out 0
        have hfz25_1 := blk_frozen BK164.out 1
        go_wp2_with (first | ((with_reducible refine gate_callee (f := 9) rfl ?_); refine goesL_ (some 23) rfl rfl Tryd.func9 (by kernel_rfl) rfl #[.agg #[.slice A1_0 l1_0.length c1_0, .string a1_1], .agg #[.slice A0_0 l0_0.length c0_0, .string a0_1]] rfl (by (try simp only [List.map_toArray, List.map_cons, List.map_nil]); first | done | rfl | (simp only [List.length_drop, List.length_take]; rfl)) ?_; (with_reducible refine (version_Compare.calls _ _ l1_0 a1_1 _ _ l0_0 a0_1 t171 _ ?side1 ?side2 ?side3 ?side4 A18.out).mono ?_); (case side1 => repeat (first | exact (Kd.C_below HR1_0.out HB.out) | (with_reducible refine Kd.C_alloc ?_ _) | (with_reducible refine Kd.C_drewN ?_ _) | (with_reducible refine Kd.C_drew ?_))); (case side2 => exact HC1_0.out); (case side3 => repeat (first | exact (Kd.C_below HR0_0.out HB.out) | (with_reducible refine Kd.C_alloc ?_ _) | (with_reducible refine Kd.C_drewN ?_ _) | (with_reducible refine Kd.C_drew ?_))); (case side4 => exact HC0_0.out); rintro e w26 ⟨rfl, hb⟩; refine ⟨_, rfl, ?_⟩; have n0_ := Aside0.mk (blk_below (g := gb164) (o := .cells #[.slice A0_0 l0_0.length c0_0, .string a0_1] 24 (0, 0)) (by (with_reducible repeat (first | refine blk_drewN ?_ _ | refine blk_drew ?_ | refine blk_alloc ?_ _)); exact BK164.out) hb); have n1_ := Aside0.mk (blk_below (g := gb165) (o := .cells #[.slice A1_0 l1_0.length c1_0, .string a1_1] 24 (0, 0)) (by (with_reducible repeat (first | refine blk_drewN ?_ _ | refine blk_drew ?_ | refine blk_alloc ?_ _)); exact BK165.out) hb); have n2_ := Aside0.mk (blk_below (g := gb166) (o := .cells #[.slice A2_0 l2_0.length c2_0, .string a2_1] 24 (0, 0)) (by (with_reducible repeat (first | refine blk_drewN ?_ _ | refine blk_drew ?_ | refine blk_alloc ?_ _)); exact BK166.out) hb); have n3_ := Aside0.mk (below_step (by repeat (first | (with_reducible first | exact HB.out | apply below_alloc | apply pw_below_drewN | apply below_drew1 | refine below_set ?_ GE164.out | refine below_set ?_ GE165.out | refine below_set ?_ GE166.out) | exact HB.out)) hb); clear BK164; clear BK165; clear BK166; clear HB; have BK164 := n0_; have BK165 := n1_; have BK166 := n2_; have HB := n3_; clear n0_ n1_ n2_ n3_; (try clear hb); (try clear hb2); (try clear hk); (try clear hi); have hcz27_0 : w26.cell? ⟨gb164, 0, none⟩ = some (.slice A0_0 l0_0.length c0_0) := (blk_cell BK164.out 0).trans rfl; have hcz27_1 : w26.cell? ⟨gb164, 1, none⟩ = some (.string a0_1) := (blk_cell BK164.out 1).trans rfl; have hfz27_0 := blk_frozen BK164.out 0; have hfz27_1 := blk_frozen BK164.out 1) | (go_at_call 9; (with_reducible refine (version_Compare.calls _ _ l0_0 a0_1 _ _ l0_0 a0_1 t172 _ ?side1 ?side2 ?side3 ?side4 A20.out).mono ?_); (case side1 => repeat (first | exact (Kd.C_below HR0_0.out HB.out) | (with_reducible refine Kd.C_alloc ?_ _) | (with_reducible refine Kd.C_drewN ?_ _) | (with_reducible refine Kd.C_drew ?_))); (case side2 => exact HC0_0.out); (case side3 => repeat (first | exact (Kd.C_below HR0_0.out HB.out) | (with_reducible refine Kd.C_alloc ?_ _) | (with_reducible refine Kd.C_drewN ?_ _) | (with_reducible refine Kd.C_drew ?_))); (case side4 => exact HC0_0.out); rintro e w28 ⟨rfl, hb⟩; have n0_ := Aside0.mk (blk_below (g := gb164) (o := .cells #[.slice A0_0 l0_0.length c0_0, .string a0_1] 24 (0, 0)) (by (with_reducible repeat (first | refine blk_drewN ?_ _ | refine blk_drew ?_ | refine blk_alloc ?_ _)); exact BK164.out) hb); have n1_ := Aside0.mk (blk_below (g := gb165) (o := .cells #[.slice A1_0 l1_0.length c1_0, .string a1_1] 24 (0, 0)) (by (with_reducible repeat (first | refine blk_drewN ?_ _ | refine blk_drew ?_ | refine blk_alloc ?_ _)); exact BK165.out) hb); have n2_ := Aside0.mk (blk_below (g := gb166) (o := .cells #[.slice A2_0 l2_0.length c2_0, .string a2_1] 24 (0, 0)) (by (with_reducible repeat (first | refine blk_drewN ?_ _ | refine blk_drew ?_ | refine blk_alloc ?_ _)); exact BK166.out) hb); have n3_ := Aside0.mk (below_step (by repeat (first | (with_reducible first | exact HB.out | apply below_alloc | apply pw_below_drewN | apply below_drew1 | refine below_set ?_ GE164.out | refine below_set ?_ GE165.out | refine below_set ?_ GE166.out) | exact HB.out)) hb); clear BK164; clear BK165; clear BK166; clear HB; have BK164 := n0_; have BK165 := n1_; have BK166 := n2_; have HB := n3_; clear n0_ n1_ n2_ n3_; (try clear hb); (try clear hb2); (try clear hk); (try clear hi)))
        go_meet
        case rel => exact ⟨_, ((t172 != 0)), (by first | rfl | (simp; done) | (simp [*]; done)), H', ⟨by first | omega | exact Nat.le_refl _⟩, ⟨by (with_reducible repeat (first | refine blk_drewN ?_ _ | refine blk_drew ?_ | refine blk_alloc ?_ _)); exact BK164.out⟩, ⟨by (with_reducible repeat (first | refine blk_drewN ?_ _ | refine blk_drew ?_ | refine blk_alloc ?_ _)); exact BK165.out⟩, ⟨by (with_reducible repeat (first | refine blk_drewN ?_ _ | refine blk_drew ?_ | refine blk_alloc ?_ _)); exact BK166.out⟩, ⟨by repeat (first | (with_reducible first | exact HB.out | apply below_alloc | apply pw_below_drewN | apply below_drew1 | refine below_set ?_ GE164.out | refine below_set ?_ GE165.out | refine below_set ?_ GE166.out) | exact HB.out)⟩⟩
      · rw [if_neg c19] at H
        have c19b0 : (t171 == (wrap64 (-t168))) = false := beq_eq_false_iff_ne.mpr c19
        have c19b1 : (t171 != (wrap64 (-t168))) = true := bne_iff_ne.mpr c19
        (first | rw [c19b0] | (simp only [i64_w, i32_w]; rw [c19b0]) | skip)
        have H' := Aside0.mk H
        clear H
        have hnb29 := NB165_164.out
        have hnc29 := NB164_165.out
        have hnb30 := NB165_166.out
        have hnc30 := NB166_165.out
        have hcz31_0 : w17.cell? ⟨gb165, 0, none⟩ = some (.slice A1_0 l1_0.length c1_0) := (blk_cell BK165.out 0).trans rfl
        have hcz31_1 : w17.cell? ⟨gb165, 1, none⟩ = some (.string a1_1) := (blk_cell BK165.out 1).trans rfl
        have hfz31_0 := blk_frozen BK165.out 0
        have hfz31_1 := blk_frozen BK165.out 1
        have hnb32 := NB164_166.out
        have hnc32 := NB166_164.out
        have hcz33_0 : w17.cell? ⟨gb164, 0, none⟩ = some (.slice A0_0 l0_0.length c0_0) := (blk_cell BK164.out 0).trans rfl
        have hcz33_1 : w17.cell? ⟨gb164, 1, none⟩ = some (.string a0_1) := (blk_cell BK164.out 1).trans rfl
        have hfz33_0 := blk_frozen BK164.out 0
        have hfz33_1 := blk_frozen BK164.out 1
        go_wp2_with (first | ((with_reducible refine gate_callee (f := 9) rfl ?_); refine goesL_ (some 23) rfl rfl Tryd.func9 (by kernel_rfl) rfl #[.agg #[.slice A1_0 l1_0.length c1_0, .string a1_1], .agg #[.slice A0_0 l0_0.length c0_0, .string a0_1]] rfl (by (try simp only [List.map_toArray, List.map_cons, List.map_nil]); first | done | rfl | (simp only [List.length_drop, List.length_take]; rfl)) ?_; (with_reducible refine (version_Compare.calls _ _ l1_0 a1_1 _ _ l0_0 a0_1 t171 _ ?side1 ?side2 ?side3 ?side4 A18.out).mono ?_); (case side1 => repeat (first | exact (Kd.C_below HR1_0.out HB.out) | (with_reducible refine Kd.C_alloc ?_ _) | (with_reducible refine Kd.C_drewN ?_ _) | (with_reducible refine Kd.C_drew ?_))); (case side2 => exact HC1_0.out); (case side3 => repeat (first | exact (Kd.C_below HR0_0.out HB.out) | (with_reducible refine Kd.C_alloc ?_ _) | (with_reducible refine Kd.C_drewN ?_ _) | (with_reducible refine Kd.C_drew ?_))); (case side4 => exact HC0_0.out); rintro e w34 ⟨rfl, hb⟩; refine ⟨_, rfl, ?_⟩; have n0_ := Aside0.mk (blk_below (g := gb164) (o := .cells #[.slice A0_0 l0_0.length c0_0, .string a0_1] 24 (0, 0)) (by (with_reducible repeat (first | refine blk_drewN ?_ _ | refine blk_drew ?_ | refine blk_alloc ?_ _)); exact BK164.out) hb); have n1_ := Aside0.mk (blk_below (g := gb165) (o := .cells #[.slice A1_0 l1_0.length c1_0, .string a1_1] 24 (0, 0)) (by (with_reducible repeat (first | refine blk_drewN ?_ _ | refine blk_drew ?_ | refine blk_alloc ?_ _)); exact BK165.out) hb); have n2_ := Aside0.mk (blk_below (g := gb166) (o := .cells #[.slice A2_0 l2_0.length c2_0, .string a2_1] 24 (0, 0)) (by (with_reducible repeat (first | refine blk_drewN ?_ _ | refine blk_drew ?_ | refine blk_alloc ?_ _)); exact BK166.out) hb); have n3_ := Aside0.mk (below_step (by repeat (first | (with_reducible first | exact HB.out | apply below_alloc | apply pw_below_drewN | apply below_drew1 | refine below_set ?_ GE164.out | refine below_set ?_ GE165.out | refine below_set ?_ GE166.out) | exact HB.out)) hb); clear BK164; clear BK165; clear BK166; clear HB; have BK164 := n0_; have BK165 := n1_; have BK166 := n2_; have HB := n3_; clear n0_ n1_ n2_ n3_; (try clear hb); (try clear hb2); (try clear hk); (try clear hi)))
        go_meet
        case rel => exact ⟨_, (true), (by first | rfl | (simp; done) | (simp [*]; done)), H', ⟨by first | omega | exact Nat.le_refl _⟩, ⟨by (with_reducible repeat (first | refine blk_drewN ?_ _ | refine blk_drew ?_ | refine blk_alloc ?_ _)); exact BK164.out⟩, ⟨by (with_reducible repeat (first | refine blk_drewN ?_ _ | refine blk_drew ?_ | refine blk_alloc ?_ _)); exact BK165.out⟩, ⟨by (with_reducible repeat (first | refine blk_drewN ?_ _ | refine blk_drew ?_ | refine blk_alloc ?_ _)); exact BK166.out⟩, ⟨by repeat (first | (with_reducible first | exact HB.out | apply below_alloc | apply pw_below_drewN | apply below_drew1 | refine below_set ?_ GE164.out | refine below_set ?_ GE165.out | refine below_set ?_ GE166.out) | exact HB.out)⟩⟩
    case rest =>
      clear HC9
      try clear c1
      try clear c2
      try clear p2
      try clear c3
      try clear c5
      try clear p6
      try clear c8
      try clear c9
      try clear c19
      try clear c19b0
      try clear c19b1
      try clear c21
      try clear c22
      try clear c24
      try clear c29
      try clear c30
      try clear c32
      try clear hcz23_0
      try clear hcz23_1
      try clear hcz25_0
      try clear hcz25_1
      try clear hcz27_0
      try clear hcz27_1
      try clear hcz31_0
      try clear hcz31_1
      try clear hcz33_0
      try clear hcz33_1
      try clear hfz23_0
      try clear hfz23_1
      try clear hfz25_0
      try clear hfz25_1
      try clear hfz27_0
      try clear hfz27_1
      try clear hfz31_0
      try clear hfz31_1
      try clear hfz33_0
      try clear hfz33_1
      obtain ⟨kq, x32_8, rfl, HA, HJ8, BK164, BK165, BK166, HB⟩ := hcut
      cases kq with
      | zero => exact absurd HA.out (by simp [sutlerlaw17_VersionOrders.j0])
      | succ kj8 =>
        have H := HA.out
        clear HA
        simp only [sutlerlaw17_VersionOrders.j0] at H
        by_cases c35 : x32_8 = true
        · subst c35
          have H1 : (some false) = some r := by rw [if_pos rfl] at H; exact H
          clear H
          have H := H1
          clear H1
          obtain rfl := Option.some.inj H
          go_wp2
          go_ret
          exact ⟨by first | rfl | (simp [errW_none, errW_some] <;> rfl) | (simp [*, errW_none, errW_some] <;> rfl), by repeat (first | (with_reducible first | exact HB.out | apply below_alloc | apply pw_below_drewN | apply below_drew1 | refine below_set ?_ GE164.out | refine below_set ?_ GE165.out | refine below_set ?_ GE166.out) | exact HB.out)⟩
        · replace c35 := Bool.eq_false_iff.mpr c35
          subst c35
          have H1 : (if t168 ≤ 0 then (if t169 ≤ 0 then (if t170 > 0 then (some false) else (if t168 ≥ 0 then (if t169 ≥ 0 then (if t170 < 0 then (some false) else (if t168 = 0 then (if t169 = 0 then (if t170 = 0 then (if t168 < 0 then (some (!(decide (t170 ≥ 0)))) else (some (!false))) else (some false)) else (if t168 < 0 then (some (!(decide (t170 ≥ 0)))) else (some (!false)))) else (if t168 < 0 then (some (!(decide (t170 ≥ 0)))) else (some (!false))))) else (if t168 = 0 then (if t169 = 0 then (if t170 = 0 then (if t168 < 0 then (some (!(decide (t170 ≥ 0)))) else (some (!false))) else (some false)) else (if t168 < 0 then (some (!(decide (t170 ≥ 0)))) else (some (!false)))) else (if t168 < 0 then (some (!(decide (t170 ≥ 0)))) else (some (!false))))) else (if t168 = 0 then (if t169 = 0 then (if t170 = 0 then (if t168 < 0 then (some (!(decide (t170 ≥ 0)))) else (some (!false))) else (some false)) else (if t168 < 0 then (some (!(decide (t170 ≥ 0)))) else (some (!false)))) else (if t168 < 0 then (some (!(decide (t170 ≥ 0)))) else (some (!false)))))) else (if t168 ≥ 0 then (if t169 ≥ 0 then (if t170 < 0 then (some false) else (if t168 = 0 then (if t169 = 0 then (if t170 = 0 then (if t168 < 0 then (some (!false)) else (some (!false))) else (some false)) else (if t168 < 0 then (some (!false)) else (some (!false)))) else (if t168 < 0 then (some (!false)) else (some (!false))))) else (if t168 = 0 then (if t169 = 0 then (if t170 = 0 then (if t168 < 0 then (some (!false)) else (some (!false))) else (some false)) else (if t168 < 0 then (some (!false)) else (some (!false)))) else (if t168 < 0 then (some (!false)) else (some (!false))))) else (if t168 = 0 then (if t169 = 0 then (if t170 = 0 then (if t168 < 0 then (some (!false)) else (some (!false))) else (some false)) else (if t168 < 0 then (some (!false)) else (some (!false)))) else (if t168 < 0 then (some (!false)) else (some (!false)))))) else (if t168 ≥ 0 then (if t169 ≥ 0 then (if t170 < 0 then (some false) else (if t168 = 0 then (if t169 = 0 then (if t170 = 0 then (if t168 < 0 then (if t169 ≤ 0 then (some (!(decide (t170 ≥ 0)))) else (some (!false))) else (some (!false))) else (some false)) else (if t168 < 0 then (if t169 ≤ 0 then (some (!(decide (t170 ≥ 0)))) else (some (!false))) else (some (!false)))) else (if t168 < 0 then (if t169 ≤ 0 then (some (!(decide (t170 ≥ 0)))) else (some (!false))) else (some (!false))))) else (if t168 = 0 then (if t169 = 0 then (if t170 = 0 then (if t168 < 0 then (if t169 ≤ 0 then (some (!(decide (t170 ≥ 0)))) else (some (!false))) else (some (!false))) else (some false)) else (if t168 < 0 then (if t169 ≤ 0 then (some (!(decide (t170 ≥ 0)))) else (some (!false))) else (some (!false)))) else (if t168 < 0 then (if t169 ≤ 0 then (some (!(decide (t170 ≥ 0)))) else (some (!false))) else (some (!false))))) else (if t168 = 0 then (if t169 = 0 then (if t170 = 0 then (if t168 < 0 then (if t169 ≤ 0 then (some (!(decide (t170 ≥ 0)))) else (some (!false))) else (some (!false))) else (some false)) else (if t168 < 0 then (if t169 ≤ 0 then (some (!(decide (t170 ≥ 0)))) else (some (!false))) else (some (!false)))) else (if t168 < 0 then (if t169 ≤ 0 then (some (!(decide (t170 ≥ 0)))) else (some (!false))) else (some (!false)))))) = some r := by rw [if_neg (show ¬ (false = true) by decide)] at H; exact H
          clear H
          have H := H1
          clear H1
          by_cases c36 : t168 ≤ 0
          · rw [if_pos c36] at H
            have c36b0 : decide (t168 ≤ 0) = true := decide_eq_true c36
            clear c36
            by_cases c37 : t169 ≤ 0
            · rw [if_pos c37] at H
              have c37b0 : decide (t169 ≤ 0) = true := decide_eq_true c37
              clear c37
              by_cases c38 : t170 > 0
              · rw [if_pos c38] at H
                have c38b0 : decide (0 < t170) = true := decide_eq_true c38
                clear c38
                obtain rfl := Option.some.inj H
                go_wp2
                go_ret
                exact ⟨by first | rfl | (simp [errW_none, errW_some] <;> rfl) | (simp [*, errW_none, errW_some] <;> rfl), by repeat (first | (with_reducible first | exact HB.out | apply below_alloc | apply pw_below_drewN | apply below_drew1 | refine below_set ?_ GE164.out | refine below_set ?_ GE165.out | refine below_set ?_ GE166.out) | exact HB.out)⟩
              · rw [if_neg c38] at H
                have c38b0 : decide (0 < t170) = false := decide_eq_false c38
                clear c38
                by_cases c39 : t168 ≥ 0
                · rw [if_pos c39] at H
                  have c39b0 : decide (0 ≤ t168) = true := decide_eq_true c39
                  clear c39
                  by_cases c40 : t169 ≥ 0
                  · rw [if_pos c40] at H
                    have c40b0 : decide (0 ≤ t169) = true := decide_eq_true c40
                    clear c40
                    by_cases c41 : t170 < 0
                    · rw [if_pos c41] at H
                      have c41b0 : decide (t170 < 0) = true := decide_eq_true c41
                      clear c41
                      obtain rfl := Option.some.inj H
                      go_wp2
                      go_ret
                      exact ⟨by first | rfl | (simp [errW_none, errW_some] <;> rfl) | (simp [*, errW_none, errW_some] <;> rfl), by repeat (first | (with_reducible first | exact HB.out | apply below_alloc | apply pw_below_drewN | apply below_drew1 | refine below_set ?_ GE164.out | refine below_set ?_ GE165.out | refine below_set ?_ GE166.out) | exact HB.out)⟩
                    · rw [if_neg c41] at H
                      have c41b0 : decide (t170 < 0) = false := decide_eq_false c41
                      clear c41
                      by_cases c42 : t168 = 0
                      · rw [if_pos c42] at H
                        have c42b0 : (t168 == 0) = true := beq_iff_eq.mpr c42
                        have c42b1 : (t168 != 0) = false := bne_eq_false_iff_eq.mpr c42
                        clear c42
                        by_cases c43 : t169 = 0
                        · rw [if_pos c43] at H
                          have c43b0 : (t169 == 0) = true := beq_iff_eq.mpr c43
                          have c43b1 : (t169 != 0) = false := bne_eq_false_iff_eq.mpr c43
                          clear c43
                          by_cases c44 : t170 = 0
                          · rw [if_pos c44] at H
                            have c44b0 : (t170 == 0) = true := beq_iff_eq.mpr c44
                            have c44b1 : (t170 != 0) = false := bne_eq_false_iff_eq.mpr c44
                            clear c44
                            by_cases c45 : t168 < 0
                            · rw [if_pos c45] at H
                              have c45b0 : decide (t168 < 0) = true := decide_eq_true c45
                              clear c45
                              obtain rfl := Option.some.inj H
                              go_wp2
                              go_ret
                              exact ⟨by first | rfl | (simp [errW_none, errW_some] <;> rfl) | (simp [*, errW_none, errW_some] <;> rfl), by repeat (first | (with_reducible first | exact HB.out | apply below_alloc | apply pw_below_drewN | apply below_drew1 | refine below_set ?_ GE164.out | refine below_set ?_ GE165.out | refine below_set ?_ GE166.out) | exact HB.out)⟩
                            · rw [if_neg c45] at H
                              have c45b0 : decide (t168 < 0) = false := decide_eq_false c45
                              clear c45
                              obtain rfl := Option.some.inj H
                              go_wp2
                              go_ret
                              exact ⟨by first | rfl | (simp [errW_none, errW_some] <;> rfl) | (simp [*, errW_none, errW_some] <;> rfl), by repeat (first | (with_reducible first | exact HB.out | apply below_alloc | apply pw_below_drewN | apply below_drew1 | refine below_set ?_ GE164.out | refine below_set ?_ GE165.out | refine below_set ?_ GE166.out) | exact HB.out)⟩
                          · rw [if_neg c44] at H
                            have c44b0 : (t170 == 0) = false := beq_eq_false_iff_ne.mpr c44
                            have c44b1 : (t170 != 0) = true := bne_iff_ne.mpr c44
                            obtain rfl := Option.some.inj H
                            go_wp2
                            go_ret
                            exact ⟨by first | rfl | (simp [errW_none, errW_some] <;> rfl) | (simp [*, errW_none, errW_some] <;> rfl), by repeat (first | (with_reducible first | exact HB.out | apply below_alloc | apply pw_below_drewN | apply below_drew1 | refine below_set ?_ GE164.out | refine below_set ?_ GE165.out | refine below_set ?_ GE166.out) | exact HB.out)⟩
                        · rw [if_neg c43] at H
                          have c43b0 : (t169 == 0) = false := beq_eq_false_iff_ne.mpr c43
                          have c43b1 : (t169 != 0) = true := bne_iff_ne.mpr c43
                          by_cases c46 : t168 < 0
                          · rw [if_pos c46] at H
                            have c46b0 : decide (t168 < 0) = true := decide_eq_true c46
                            clear c46
                            obtain rfl := Option.some.inj H
                            go_wp2
                            go_ret
                            exact ⟨by first | rfl | (simp [errW_none, errW_some] <;> rfl) | (simp [*, errW_none, errW_some] <;> rfl), by repeat (first | (with_reducible first | exact HB.out | apply below_alloc | apply pw_below_drewN | apply below_drew1 | refine below_set ?_ GE164.out | refine below_set ?_ GE165.out | refine below_set ?_ GE166.out) | exact HB.out)⟩
                          · rw [if_neg c46] at H
                            have c46b0 : decide (t168 < 0) = false := decide_eq_false c46
                            clear c46
                            obtain rfl := Option.some.inj H
                            go_wp2
                            go_ret
                            exact ⟨by first | rfl | (simp [errW_none, errW_some] <;> rfl) | (simp [*, errW_none, errW_some] <;> rfl), by repeat (first | (with_reducible first | exact HB.out | apply below_alloc | apply pw_below_drewN | apply below_drew1 | refine below_set ?_ GE164.out | refine below_set ?_ GE165.out | refine below_set ?_ GE166.out) | exact HB.out)⟩
                      · rw [if_neg c42] at H
                        have c42b0 : (t168 == 0) = false := beq_eq_false_iff_ne.mpr c42
                        have c42b1 : (t168 != 0) = true := bne_iff_ne.mpr c42
                        by_cases c47 : t168 < 0
                        · rw [if_pos c47] at H
                          have c47b0 : decide (t168 < 0) = true := decide_eq_true c47
                          clear c47
                          obtain rfl := Option.some.inj H
                          go_wp2
                          go_ret
                          exact ⟨by first | rfl | (simp [errW_none, errW_some] <;> rfl) | (simp [*, errW_none, errW_some] <;> rfl), by repeat (first | (with_reducible first | exact HB.out | apply below_alloc | apply pw_below_drewN | apply below_drew1 | refine below_set ?_ GE164.out | refine below_set ?_ GE165.out | refine below_set ?_ GE166.out) | exact HB.out)⟩
                        · rw [if_neg c47] at H
                          have c47b0 : decide (t168 < 0) = false := decide_eq_false c47
                          clear c47
                          obtain rfl := Option.some.inj H
                          go_wp2
                          go_ret
                          exact ⟨by first | rfl | (simp [errW_none, errW_some] <;> rfl) | (simp [*, errW_none, errW_some] <;> rfl), by repeat (first | (with_reducible first | exact HB.out | apply below_alloc | apply pw_below_drewN | apply below_drew1 | refine below_set ?_ GE164.out | refine below_set ?_ GE165.out | refine below_set ?_ GE166.out) | exact HB.out)⟩
                  · rw [if_neg c40] at H
                    have c40b0 : decide (0 ≤ t169) = false := decide_eq_false c40
                    clear c40
                    by_cases c48 : t168 = 0
                    · rw [if_pos c48] at H
                      have c48b0 : (t168 == 0) = true := beq_iff_eq.mpr c48
                      have c48b1 : (t168 != 0) = false := bne_eq_false_iff_eq.mpr c48
                      clear c48
                      by_cases c49 : t169 = 0
                      · rw [if_pos c49] at H
                        have c49b0 : (t169 == 0) = true := beq_iff_eq.mpr c49
                        have c49b1 : (t169 != 0) = false := bne_eq_false_iff_eq.mpr c49
                        clear c49
                        by_cases c50 : t170 = 0
                        · rw [if_pos c50] at H
                          have c50b0 : (t170 == 0) = true := beq_iff_eq.mpr c50
                          have c50b1 : (t170 != 0) = false := bne_eq_false_iff_eq.mpr c50
                          clear c50
                          by_cases c51 : t168 < 0
                          · rw [if_pos c51] at H
                            have c51b0 : decide (t168 < 0) = true := decide_eq_true c51
                            clear c51
                            obtain rfl := Option.some.inj H
                            go_wp2
                            go_ret
                            exact ⟨by first | rfl | (simp [errW_none, errW_some] <;> rfl) | (simp [*, errW_none, errW_some] <;> rfl), by repeat (first | (with_reducible first | exact HB.out | apply below_alloc | apply pw_below_drewN | apply below_drew1 | refine below_set ?_ GE164.out | refine below_set ?_ GE165.out | refine below_set ?_ GE166.out) | exact HB.out)⟩
                          · rw [if_neg c51] at H
                            have c51b0 : decide (t168 < 0) = false := decide_eq_false c51
                            clear c51
                            obtain rfl := Option.some.inj H
                            go_wp2
                            go_ret
                            exact ⟨by first | rfl | (simp [errW_none, errW_some] <;> rfl) | (simp [*, errW_none, errW_some] <;> rfl), by repeat (first | (with_reducible first | exact HB.out | apply below_alloc | apply pw_below_drewN | apply below_drew1 | refine below_set ?_ GE164.out | refine below_set ?_ GE165.out | refine below_set ?_ GE166.out) | exact HB.out)⟩
                        · rw [if_neg c50] at H
                          have c50b0 : (t170 == 0) = false := beq_eq_false_iff_ne.mpr c50
                          have c50b1 : (t170 != 0) = true := bne_iff_ne.mpr c50
                          obtain rfl := Option.some.inj H
                          go_wp2
                          go_ret
                          exact ⟨by first | rfl | (simp [errW_none, errW_some] <;> rfl) | (simp [*, errW_none, errW_some] <;> rfl), by repeat (first | (with_reducible first | exact HB.out | apply below_alloc | apply pw_below_drewN | apply below_drew1 | refine below_set ?_ GE164.out | refine below_set ?_ GE165.out | refine below_set ?_ GE166.out) | exact HB.out)⟩
                      · rw [if_neg c49] at H
                        have c49b0 : (t169 == 0) = false := beq_eq_false_iff_ne.mpr c49
                        have c49b1 : (t169 != 0) = true := bne_iff_ne.mpr c49
                        by_cases c52 : t168 < 0
                        · rw [if_pos c52] at H
                          have c52b0 : decide (t168 < 0) = true := decide_eq_true c52
                          clear c52
                          obtain rfl := Option.some.inj H
                          go_wp2
                          go_ret
                          exact ⟨by first | rfl | (simp [errW_none, errW_some] <;> rfl) | (simp [*, errW_none, errW_some] <;> rfl), by repeat (first | (with_reducible first | exact HB.out | apply below_alloc | apply pw_below_drewN | apply below_drew1 | refine below_set ?_ GE164.out | refine below_set ?_ GE165.out | refine below_set ?_ GE166.out) | exact HB.out)⟩
                        · rw [if_neg c52] at H
                          have c52b0 : decide (t168 < 0) = false := decide_eq_false c52
                          clear c52
                          obtain rfl := Option.some.inj H
                          go_wp2
                          go_ret
                          exact ⟨by first | rfl | (simp [errW_none, errW_some] <;> rfl) | (simp [*, errW_none, errW_some] <;> rfl), by repeat (first | (with_reducible first | exact HB.out | apply below_alloc | apply pw_below_drewN | apply below_drew1 | refine below_set ?_ GE164.out | refine below_set ?_ GE165.out | refine below_set ?_ GE166.out) | exact HB.out)⟩
                    · rw [if_neg c48] at H
                      have c48b0 : (t168 == 0) = false := beq_eq_false_iff_ne.mpr c48
                      have c48b1 : (t168 != 0) = true := bne_iff_ne.mpr c48
                      by_cases c53 : t168 < 0
                      · rw [if_pos c53] at H
                        have c53b0 : decide (t168 < 0) = true := decide_eq_true c53
                        clear c53
                        obtain rfl := Option.some.inj H
                        go_wp2
                        go_ret
                        exact ⟨by first | rfl | (simp [errW_none, errW_some] <;> rfl) | (simp [*, errW_none, errW_some] <;> rfl), by repeat (first | (with_reducible first | exact HB.out | apply below_alloc | apply pw_below_drewN | apply below_drew1 | refine below_set ?_ GE164.out | refine below_set ?_ GE165.out | refine below_set ?_ GE166.out) | exact HB.out)⟩
                      · rw [if_neg c53] at H
                        have c53b0 : decide (t168 < 0) = false := decide_eq_false c53
                        clear c53
                        obtain rfl := Option.some.inj H
                        go_wp2
                        go_ret
                        exact ⟨by first | rfl | (simp [errW_none, errW_some] <;> rfl) | (simp [*, errW_none, errW_some] <;> rfl), by repeat (first | (with_reducible first | exact HB.out | apply below_alloc | apply pw_below_drewN | apply below_drew1 | refine below_set ?_ GE164.out | refine below_set ?_ GE165.out | refine below_set ?_ GE166.out) | exact HB.out)⟩
                · rw [if_neg c39] at H
                  have c39b0 : decide (0 ≤ t168) = false := decide_eq_false c39
                  clear c39
                  by_cases c54 : t168 = 0
                  · rw [if_pos c54] at H
                    have c54b0 : (t168 == 0) = true := beq_iff_eq.mpr c54
                    have c54b1 : (t168 != 0) = false := bne_eq_false_iff_eq.mpr c54
                    clear c54
                    by_cases c55 : t169 = 0
                    · rw [if_pos c55] at H
                      have c55b0 : (t169 == 0) = true := beq_iff_eq.mpr c55
                      have c55b1 : (t169 != 0) = false := bne_eq_false_iff_eq.mpr c55
                      clear c55
                      by_cases c56 : t170 = 0
                      · rw [if_pos c56] at H
                        have c56b0 : (t170 == 0) = true := beq_iff_eq.mpr c56
                        have c56b1 : (t170 != 0) = false := bne_eq_false_iff_eq.mpr c56
                        clear c56
                        by_cases c57 : t168 < 0
                        · rw [if_pos c57] at H
                          have c57b0 : decide (t168 < 0) = true := decide_eq_true c57
                          clear c57
                          obtain rfl := Option.some.inj H
                          go_wp2
                          go_ret
                          exact ⟨by first | rfl | (simp [errW_none, errW_some] <;> rfl) | (simp [*, errW_none, errW_some] <;> rfl), by repeat (first | (with_reducible first | exact HB.out | apply below_alloc | apply pw_below_drewN | apply below_drew1 | refine below_set ?_ GE164.out | refine below_set ?_ GE165.out | refine below_set ?_ GE166.out) | exact HB.out)⟩
                        · rw [if_neg c57] at H
                          have c57b0 : decide (t168 < 0) = false := decide_eq_false c57
                          clear c57
                          obtain rfl := Option.some.inj H
                          go_wp2
                          go_ret
                          exact ⟨by first | rfl | (simp [errW_none, errW_some] <;> rfl) | (simp [*, errW_none, errW_some] <;> rfl), by repeat (first | (with_reducible first | exact HB.out | apply below_alloc | apply pw_below_drewN | apply below_drew1 | refine below_set ?_ GE164.out | refine below_set ?_ GE165.out | refine below_set ?_ GE166.out) | exact HB.out)⟩
                      · rw [if_neg c56] at H
                        have c56b0 : (t170 == 0) = false := beq_eq_false_iff_ne.mpr c56
                        have c56b1 : (t170 != 0) = true := bne_iff_ne.mpr c56
                        obtain rfl := Option.some.inj H
                        go_wp2
                        go_ret
                        exact ⟨by first | rfl | (simp [errW_none, errW_some] <;> rfl) | (simp [*, errW_none, errW_some] <;> rfl), by repeat (first | (with_reducible first | exact HB.out | apply below_alloc | apply pw_below_drewN | apply below_drew1 | refine below_set ?_ GE164.out | refine below_set ?_ GE165.out | refine below_set ?_ GE166.out) | exact HB.out)⟩
                    · rw [if_neg c55] at H
                      have c55b0 : (t169 == 0) = false := beq_eq_false_iff_ne.mpr c55
                      have c55b1 : (t169 != 0) = true := bne_iff_ne.mpr c55
                      by_cases c58 : t168 < 0
                      · rw [if_pos c58] at H
                        have c58b0 : decide (t168 < 0) = true := decide_eq_true c58
                        clear c58
                        obtain rfl := Option.some.inj H
                        go_wp2
                        go_ret
                        exact ⟨by first | rfl | (simp [errW_none, errW_some] <;> rfl) | (simp [*, errW_none, errW_some] <;> rfl), by repeat (first | (with_reducible first | exact HB.out | apply below_alloc | apply pw_below_drewN | apply below_drew1 | refine below_set ?_ GE164.out | refine below_set ?_ GE165.out | refine below_set ?_ GE166.out) | exact HB.out)⟩
                      · rw [if_neg c58] at H
                        have c58b0 : decide (t168 < 0) = false := decide_eq_false c58
                        clear c58
                        obtain rfl := Option.some.inj H
                        go_wp2
                        go_ret
                        exact ⟨by first | rfl | (simp [errW_none, errW_some] <;> rfl) | (simp [*, errW_none, errW_some] <;> rfl), by repeat (first | (with_reducible first | exact HB.out | apply below_alloc | apply pw_below_drewN | apply below_drew1 | refine below_set ?_ GE164.out | refine below_set ?_ GE165.out | refine below_set ?_ GE166.out) | exact HB.out)⟩
                  · rw [if_neg c54] at H
                    have c54b0 : (t168 == 0) = false := beq_eq_false_iff_ne.mpr c54
                    have c54b1 : (t168 != 0) = true := bne_iff_ne.mpr c54
                    by_cases c59 : t168 < 0
                    · rw [if_pos c59] at H
                      have c59b0 : decide (t168 < 0) = true := decide_eq_true c59
                      clear c59
                      obtain rfl := Option.some.inj H
                      go_wp2
                      go_ret
                      exact ⟨by first | rfl | (simp [errW_none, errW_some] <;> rfl) | (simp [*, errW_none, errW_some] <;> rfl), by repeat (first | (with_reducible first | exact HB.out | apply below_alloc | apply pw_below_drewN | apply below_drew1 | refine below_set ?_ GE164.out | refine below_set ?_ GE165.out | refine below_set ?_ GE166.out) | exact HB.out)⟩
                    · rw [if_neg c59] at H
                      have c59b0 : decide (t168 < 0) = false := decide_eq_false c59
                      clear c59
                      obtain rfl := Option.some.inj H
                      go_wp2
                      go_ret
                      exact ⟨by first | rfl | (simp [errW_none, errW_some] <;> rfl) | (simp [*, errW_none, errW_some] <;> rfl), by repeat (first | (with_reducible first | exact HB.out | apply below_alloc | apply pw_below_drewN | apply below_drew1 | refine below_set ?_ GE164.out | refine below_set ?_ GE165.out | refine below_set ?_ GE166.out) | exact HB.out)⟩
            · rw [if_neg c37] at H
              have c37b0 : decide (t169 ≤ 0) = false := decide_eq_false c37
              clear c37
              by_cases c60 : t168 ≥ 0
              · rw [if_pos c60] at H
                have c60b0 : decide (0 ≤ t168) = true := decide_eq_true c60
                clear c60
                by_cases c61 : t169 ≥ 0
                · rw [if_pos c61] at H
                  have c61b0 : decide (0 ≤ t169) = true := decide_eq_true c61
                  clear c61
                  by_cases c62 : t170 < 0
                  · rw [if_pos c62] at H
                    have c62b0 : decide (t170 < 0) = true := decide_eq_true c62
                    clear c62
                    obtain rfl := Option.some.inj H
                    go_wp2
                    go_ret
                    exact ⟨by first | rfl | (simp [errW_none, errW_some] <;> rfl) | (simp [*, errW_none, errW_some] <;> rfl), by repeat (first | (with_reducible first | exact HB.out | apply below_alloc | apply pw_below_drewN | apply below_drew1 | refine below_set ?_ GE164.out | refine below_set ?_ GE165.out | refine below_set ?_ GE166.out) | exact HB.out)⟩
                  · rw [if_neg c62] at H
                    have c62b0 : decide (t170 < 0) = false := decide_eq_false c62
                    clear c62
                    by_cases c63 : t168 = 0
                    · rw [if_pos c63] at H
                      have c63b0 : (t168 == 0) = true := beq_iff_eq.mpr c63
                      have c63b1 : (t168 != 0) = false := bne_eq_false_iff_eq.mpr c63
                      clear c63
                      by_cases c64 : t169 = 0
                      · rw [if_pos c64] at H
                        have c64b0 : (t169 == 0) = true := beq_iff_eq.mpr c64
                        have c64b1 : (t169 != 0) = false := bne_eq_false_iff_eq.mpr c64
                        clear c64
                        by_cases c65 : t170 = 0
                        · rw [if_pos c65] at H
                          have c65b0 : (t170 == 0) = true := beq_iff_eq.mpr c65
                          have c65b1 : (t170 != 0) = false := bne_eq_false_iff_eq.mpr c65
                          clear c65
                          by_cases c66 : t168 < 0
                          · rw [if_pos c66] at H
                            have c66b0 : decide (t168 < 0) = true := decide_eq_true c66
                            clear c66
                            obtain rfl := Option.some.inj H
                            go_wp2
                            go_ret
                            exact ⟨by first | rfl | (simp [errW_none, errW_some] <;> rfl) | (simp [*, errW_none, errW_some] <;> rfl), by repeat (first | (with_reducible first | exact HB.out | apply below_alloc | apply pw_below_drewN | apply below_drew1 | refine below_set ?_ GE164.out | refine below_set ?_ GE165.out | refine below_set ?_ GE166.out) | exact HB.out)⟩
                          · rw [if_neg c66] at H
                            have c66b0 : decide (t168 < 0) = false := decide_eq_false c66
                            clear c66
                            obtain rfl := Option.some.inj H
                            go_wp2
                            go_ret
                            exact ⟨by first | rfl | (simp [errW_none, errW_some] <;> rfl) | (simp [*, errW_none, errW_some] <;> rfl), by repeat (first | (with_reducible first | exact HB.out | apply below_alloc | apply pw_below_drewN | apply below_drew1 | refine below_set ?_ GE164.out | refine below_set ?_ GE165.out | refine below_set ?_ GE166.out) | exact HB.out)⟩
                        · rw [if_neg c65] at H
                          have c65b0 : (t170 == 0) = false := beq_eq_false_iff_ne.mpr c65
                          have c65b1 : (t170 != 0) = true := bne_iff_ne.mpr c65
                          obtain rfl := Option.some.inj H
                          go_wp2
                          go_ret
                          exact ⟨by first | rfl | (simp [errW_none, errW_some] <;> rfl) | (simp [*, errW_none, errW_some] <;> rfl), by repeat (first | (with_reducible first | exact HB.out | apply below_alloc | apply pw_below_drewN | apply below_drew1 | refine below_set ?_ GE164.out | refine below_set ?_ GE165.out | refine below_set ?_ GE166.out) | exact HB.out)⟩
                      · rw [if_neg c64] at H
                        have c64b0 : (t169 == 0) = false := beq_eq_false_iff_ne.mpr c64
                        have c64b1 : (t169 != 0) = true := bne_iff_ne.mpr c64
                        by_cases c67 : t168 < 0
                        · rw [if_pos c67] at H
                          have c67b0 : decide (t168 < 0) = true := decide_eq_true c67
                          clear c67
                          obtain rfl := Option.some.inj H
                          go_wp2
                          go_ret
                          exact ⟨by first | rfl | (simp [errW_none, errW_some] <;> rfl) | (simp [*, errW_none, errW_some] <;> rfl), by repeat (first | (with_reducible first | exact HB.out | apply below_alloc | apply pw_below_drewN | apply below_drew1 | refine below_set ?_ GE164.out | refine below_set ?_ GE165.out | refine below_set ?_ GE166.out) | exact HB.out)⟩
                        · rw [if_neg c67] at H
                          have c67b0 : decide (t168 < 0) = false := decide_eq_false c67
                          clear c67
                          obtain rfl := Option.some.inj H
                          go_wp2
                          go_ret
                          exact ⟨by first | rfl | (simp [errW_none, errW_some] <;> rfl) | (simp [*, errW_none, errW_some] <;> rfl), by repeat (first | (with_reducible first | exact HB.out | apply below_alloc | apply pw_below_drewN | apply below_drew1 | refine below_set ?_ GE164.out | refine below_set ?_ GE165.out | refine below_set ?_ GE166.out) | exact HB.out)⟩
                    · rw [if_neg c63] at H
                      have c63b0 : (t168 == 0) = false := beq_eq_false_iff_ne.mpr c63
                      have c63b1 : (t168 != 0) = true := bne_iff_ne.mpr c63
                      by_cases c68 : t168 < 0
                      · rw [if_pos c68] at H
                        have c68b0 : decide (t168 < 0) = true := decide_eq_true c68
                        clear c68
                        obtain rfl := Option.some.inj H
                        go_wp2
                        go_ret
                        exact ⟨by first | rfl | (simp [errW_none, errW_some] <;> rfl) | (simp [*, errW_none, errW_some] <;> rfl), by repeat (first | (with_reducible first | exact HB.out | apply below_alloc | apply pw_below_drewN | apply below_drew1 | refine below_set ?_ GE164.out | refine below_set ?_ GE165.out | refine below_set ?_ GE166.out) | exact HB.out)⟩
                      · rw [if_neg c68] at H
                        have c68b0 : decide (t168 < 0) = false := decide_eq_false c68
                        clear c68
                        obtain rfl := Option.some.inj H
                        go_wp2
                        go_ret
                        exact ⟨by first | rfl | (simp [errW_none, errW_some] <;> rfl) | (simp [*, errW_none, errW_some] <;> rfl), by repeat (first | (with_reducible first | exact HB.out | apply below_alloc | apply pw_below_drewN | apply below_drew1 | refine below_set ?_ GE164.out | refine below_set ?_ GE165.out | refine below_set ?_ GE166.out) | exact HB.out)⟩
                · rw [if_neg c61] at H
                  have c61b0 : decide (0 ≤ t169) = false := decide_eq_false c61
                  clear c61
                  by_cases c69 : t168 = 0
                  · rw [if_pos c69] at H
                    have c69b0 : (t168 == 0) = true := beq_iff_eq.mpr c69
                    have c69b1 : (t168 != 0) = false := bne_eq_false_iff_eq.mpr c69
                    clear c69
                    by_cases c70 : t169 = 0
                    · rw [if_pos c70] at H
                      have c70b0 : (t169 == 0) = true := beq_iff_eq.mpr c70
                      have c70b1 : (t169 != 0) = false := bne_eq_false_iff_eq.mpr c70
                      clear c70
                      by_cases c71 : t170 = 0
                      · rw [if_pos c71] at H
                        have c71b0 : (t170 == 0) = true := beq_iff_eq.mpr c71
                        have c71b1 : (t170 != 0) = false := bne_eq_false_iff_eq.mpr c71
                        clear c71
                        by_cases c72 : t168 < 0
                        · rw [if_pos c72] at H
                          have c72b0 : decide (t168 < 0) = true := decide_eq_true c72
                          clear c72
                          obtain rfl := Option.some.inj H
                          go_wp2
                          go_ret
                          exact ⟨by first | rfl | (simp [errW_none, errW_some] <;> rfl) | (simp [*, errW_none, errW_some] <;> rfl), by repeat (first | (with_reducible first | exact HB.out | apply below_alloc | apply pw_below_drewN | apply below_drew1 | refine below_set ?_ GE164.out | refine below_set ?_ GE165.out | refine below_set ?_ GE166.out) | exact HB.out)⟩
                        · rw [if_neg c72] at H
                          have c72b0 : decide (t168 < 0) = false := decide_eq_false c72
                          clear c72
                          obtain rfl := Option.some.inj H
                          go_wp2
                          go_ret
                          exact ⟨by first | rfl | (simp [errW_none, errW_some] <;> rfl) | (simp [*, errW_none, errW_some] <;> rfl), by repeat (first | (with_reducible first | exact HB.out | apply below_alloc | apply pw_below_drewN | apply below_drew1 | refine below_set ?_ GE164.out | refine below_set ?_ GE165.out | refine below_set ?_ GE166.out) | exact HB.out)⟩
                      · rw [if_neg c71] at H
                        have c71b0 : (t170 == 0) = false := beq_eq_false_iff_ne.mpr c71
                        have c71b1 : (t170 != 0) = true := bne_iff_ne.mpr c71
                        obtain rfl := Option.some.inj H
                        go_wp2
                        go_ret
                        exact ⟨by first | rfl | (simp [errW_none, errW_some] <;> rfl) | (simp [*, errW_none, errW_some] <;> rfl), by repeat (first | (with_reducible first | exact HB.out | apply below_alloc | apply pw_below_drewN | apply below_drew1 | refine below_set ?_ GE164.out | refine below_set ?_ GE165.out | refine below_set ?_ GE166.out) | exact HB.out)⟩
                    · rw [if_neg c70] at H
                      have c70b0 : (t169 == 0) = false := beq_eq_false_iff_ne.mpr c70
                      have c70b1 : (t169 != 0) = true := bne_iff_ne.mpr c70
                      by_cases c73 : t168 < 0
                      · rw [if_pos c73] at H
                        have c73b0 : decide (t168 < 0) = true := decide_eq_true c73
                        clear c73
                        obtain rfl := Option.some.inj H
                        go_wp2
                        go_ret
                        exact ⟨by first | rfl | (simp [errW_none, errW_some] <;> rfl) | (simp [*, errW_none, errW_some] <;> rfl), by repeat (first | (with_reducible first | exact HB.out | apply below_alloc | apply pw_below_drewN | apply below_drew1 | refine below_set ?_ GE164.out | refine below_set ?_ GE165.out | refine below_set ?_ GE166.out) | exact HB.out)⟩
                      · rw [if_neg c73] at H
                        have c73b0 : decide (t168 < 0) = false := decide_eq_false c73
                        clear c73
                        obtain rfl := Option.some.inj H
                        go_wp2
                        go_ret
                        exact ⟨by first | rfl | (simp [errW_none, errW_some] <;> rfl) | (simp [*, errW_none, errW_some] <;> rfl), by repeat (first | (with_reducible first | exact HB.out | apply below_alloc | apply pw_below_drewN | apply below_drew1 | refine below_set ?_ GE164.out | refine below_set ?_ GE165.out | refine below_set ?_ GE166.out) | exact HB.out)⟩
                  · rw [if_neg c69] at H
                    have c69b0 : (t168 == 0) = false := beq_eq_false_iff_ne.mpr c69
                    have c69b1 : (t168 != 0) = true := bne_iff_ne.mpr c69
                    by_cases c74 : t168 < 0
                    · rw [if_pos c74] at H
                      have c74b0 : decide (t168 < 0) = true := decide_eq_true c74
                      clear c74
                      obtain rfl := Option.some.inj H
                      go_wp2
                      go_ret
                      exact ⟨by first | rfl | (simp [errW_none, errW_some] <;> rfl) | (simp [*, errW_none, errW_some] <;> rfl), by repeat (first | (with_reducible first | exact HB.out | apply below_alloc | apply pw_below_drewN | apply below_drew1 | refine below_set ?_ GE164.out | refine below_set ?_ GE165.out | refine below_set ?_ GE166.out) | exact HB.out)⟩
                    · rw [if_neg c74] at H
                      have c74b0 : decide (t168 < 0) = false := decide_eq_false c74
                      clear c74
                      obtain rfl := Option.some.inj H
                      go_wp2
                      go_ret
                      exact ⟨by first | rfl | (simp [errW_none, errW_some] <;> rfl) | (simp [*, errW_none, errW_some] <;> rfl), by repeat (first | (with_reducible first | exact HB.out | apply below_alloc | apply pw_below_drewN | apply below_drew1 | refine below_set ?_ GE164.out | refine below_set ?_ GE165.out | refine below_set ?_ GE166.out) | exact HB.out)⟩
              · rw [if_neg c60] at H
                have c60b0 : decide (0 ≤ t168) = false := decide_eq_false c60
                clear c60
                by_cases c75 : t168 = 0
                · rw [if_pos c75] at H
                  have c75b0 : (t168 == 0) = true := beq_iff_eq.mpr c75
                  have c75b1 : (t168 != 0) = false := bne_eq_false_iff_eq.mpr c75
                  clear c75
                  by_cases c76 : t169 = 0
                  · rw [if_pos c76] at H
                    have c76b0 : (t169 == 0) = true := beq_iff_eq.mpr c76
                    have c76b1 : (t169 != 0) = false := bne_eq_false_iff_eq.mpr c76
                    clear c76
                    by_cases c77 : t170 = 0
                    · rw [if_pos c77] at H
                      have c77b0 : (t170 == 0) = true := beq_iff_eq.mpr c77
                      have c77b1 : (t170 != 0) = false := bne_eq_false_iff_eq.mpr c77
                      clear c77
                      by_cases c78 : t168 < 0
                      · rw [if_pos c78] at H
                        have c78b0 : decide (t168 < 0) = true := decide_eq_true c78
                        clear c78
                        obtain rfl := Option.some.inj H
                        go_wp2
                        go_ret
                        exact ⟨by first | rfl | (simp [errW_none, errW_some] <;> rfl) | (simp [*, errW_none, errW_some] <;> rfl), by repeat (first | (with_reducible first | exact HB.out | apply below_alloc | apply pw_below_drewN | apply below_drew1 | refine below_set ?_ GE164.out | refine below_set ?_ GE165.out | refine below_set ?_ GE166.out) | exact HB.out)⟩
                      · rw [if_neg c78] at H
                        have c78b0 : decide (t168 < 0) = false := decide_eq_false c78
                        clear c78
                        obtain rfl := Option.some.inj H
                        go_wp2
                        go_ret
                        exact ⟨by first | rfl | (simp [errW_none, errW_some] <;> rfl) | (simp [*, errW_none, errW_some] <;> rfl), by repeat (first | (with_reducible first | exact HB.out | apply below_alloc | apply pw_below_drewN | apply below_drew1 | refine below_set ?_ GE164.out | refine below_set ?_ GE165.out | refine below_set ?_ GE166.out) | exact HB.out)⟩
                    · rw [if_neg c77] at H
                      have c77b0 : (t170 == 0) = false := beq_eq_false_iff_ne.mpr c77
                      have c77b1 : (t170 != 0) = true := bne_iff_ne.mpr c77
                      obtain rfl := Option.some.inj H
                      go_wp2
                      go_ret
                      exact ⟨by first | rfl | (simp [errW_none, errW_some] <;> rfl) | (simp [*, errW_none, errW_some] <;> rfl), by repeat (first | (with_reducible first | exact HB.out | apply below_alloc | apply pw_below_drewN | apply below_drew1 | refine below_set ?_ GE164.out | refine below_set ?_ GE165.out | refine below_set ?_ GE166.out) | exact HB.out)⟩
                  · rw [if_neg c76] at H
                    have c76b0 : (t169 == 0) = false := beq_eq_false_iff_ne.mpr c76
                    have c76b1 : (t169 != 0) = true := bne_iff_ne.mpr c76
                    by_cases c79 : t168 < 0
                    · rw [if_pos c79] at H
                      have c79b0 : decide (t168 < 0) = true := decide_eq_true c79
                      clear c79
                      obtain rfl := Option.some.inj H
                      go_wp2
                      go_ret
                      exact ⟨by first | rfl | (simp [errW_none, errW_some] <;> rfl) | (simp [*, errW_none, errW_some] <;> rfl), by repeat (first | (with_reducible first | exact HB.out | apply below_alloc | apply pw_below_drewN | apply below_drew1 | refine below_set ?_ GE164.out | refine below_set ?_ GE165.out | refine below_set ?_ GE166.out) | exact HB.out)⟩
                    · rw [if_neg c79] at H
                      have c79b0 : decide (t168 < 0) = false := decide_eq_false c79
                      clear c79
                      obtain rfl := Option.some.inj H
                      go_wp2
                      go_ret
                      exact ⟨by first | rfl | (simp [errW_none, errW_some] <;> rfl) | (simp [*, errW_none, errW_some] <;> rfl), by repeat (first | (with_reducible first | exact HB.out | apply below_alloc | apply pw_below_drewN | apply below_drew1 | refine below_set ?_ GE164.out | refine below_set ?_ GE165.out | refine below_set ?_ GE166.out) | exact HB.out)⟩
                · rw [if_neg c75] at H
                  have c75b0 : (t168 == 0) = false := beq_eq_false_iff_ne.mpr c75
                  have c75b1 : (t168 != 0) = true := bne_iff_ne.mpr c75
                  by_cases c80 : t168 < 0
                  · rw [if_pos c80] at H
                    have c80b0 : decide (t168 < 0) = true := decide_eq_true c80
                    clear c80
                    obtain rfl := Option.some.inj H
                    go_wp2
                    go_ret
                    exact ⟨by first | rfl | (simp [errW_none, errW_some] <;> rfl) | (simp [*, errW_none, errW_some] <;> rfl), by repeat (first | (with_reducible first | exact HB.out | apply below_alloc | apply pw_below_drewN | apply below_drew1 | refine below_set ?_ GE164.out | refine below_set ?_ GE165.out | refine below_set ?_ GE166.out) | exact HB.out)⟩
                  · rw [if_neg c80] at H
                    have c80b0 : decide (t168 < 0) = false := decide_eq_false c80
                    clear c80
                    obtain rfl := Option.some.inj H
                    go_wp2
                    go_ret
                    exact ⟨by first | rfl | (simp [errW_none, errW_some] <;> rfl) | (simp [*, errW_none, errW_some] <;> rfl), by repeat (first | (with_reducible first | exact HB.out | apply below_alloc | apply pw_below_drewN | apply below_drew1 | refine below_set ?_ GE164.out | refine below_set ?_ GE165.out | refine below_set ?_ GE166.out) | exact HB.out)⟩
          · rw [if_neg c36] at H
            have c36b0 : decide (t168 ≤ 0) = false := decide_eq_false c36
            clear c36
            by_cases c81 : t168 ≥ 0
            · rw [if_pos c81] at H
              have c81b0 : decide (0 ≤ t168) = true := decide_eq_true c81
              clear c81
              by_cases c82 : t169 ≥ 0
              · rw [if_pos c82] at H
                have c82b0 : decide (0 ≤ t169) = true := decide_eq_true c82
                clear c82
                by_cases c83 : t170 < 0
                · rw [if_pos c83] at H
                  have c83b0 : decide (t170 < 0) = true := decide_eq_true c83
                  clear c83
                  obtain rfl := Option.some.inj H
                  go_wp2
                  go_ret
                  exact ⟨by first | rfl | (simp [errW_none, errW_some] <;> rfl) | (simp [*, errW_none, errW_some] <;> rfl), by repeat (first | (with_reducible first | exact HB.out | apply below_alloc | apply pw_below_drewN | apply below_drew1 | refine below_set ?_ GE164.out | refine below_set ?_ GE165.out | refine below_set ?_ GE166.out) | exact HB.out)⟩
                · rw [if_neg c83] at H
                  have c83b0 : decide (t170 < 0) = false := decide_eq_false c83
                  clear c83
                  by_cases c84 : t168 = 0
                  · rw [if_pos c84] at H
                    have c84b0 : (t168 == 0) = true := beq_iff_eq.mpr c84
                    have c84b1 : (t168 != 0) = false := bne_eq_false_iff_eq.mpr c84
                    clear c84
                    by_cases c85 : t169 = 0
                    · rw [if_pos c85] at H
                      have c85b0 : (t169 == 0) = true := beq_iff_eq.mpr c85
                      have c85b1 : (t169 != 0) = false := bne_eq_false_iff_eq.mpr c85
                      clear c85
                      by_cases c86 : t170 = 0
                      · rw [if_pos c86] at H
                        have c86b0 : (t170 == 0) = true := beq_iff_eq.mpr c86
                        have c86b1 : (t170 != 0) = false := bne_eq_false_iff_eq.mpr c86
                        clear c86
                        by_cases c87 : t168 < 0
                        · rw [if_pos c87] at H
                          have c87b0 : decide (t168 < 0) = true := decide_eq_true c87
                          clear c87
                          by_cases c88 : t169 ≤ 0
                          · rw [if_pos c88] at H
                            have c88b0 : decide (t169 ≤ 0) = true := decide_eq_true c88
                            clear c88
                            obtain rfl := Option.some.inj H
                            go_wp2
                            go_ret
                            exact ⟨by first | rfl | (simp [errW_none, errW_some] <;> rfl) | (simp [*, errW_none, errW_some] <;> rfl), by repeat (first | (with_reducible first | exact HB.out | apply below_alloc | apply pw_below_drewN | apply below_drew1 | refine below_set ?_ GE164.out | refine below_set ?_ GE165.out | refine below_set ?_ GE166.out) | exact HB.out)⟩
                          · rw [if_neg c88] at H
                            have c88b0 : decide (t169 ≤ 0) = false := decide_eq_false c88
                            clear c88
                            obtain rfl := Option.some.inj H
                            go_wp2
                            go_ret
                            exact ⟨by first | rfl | (simp [errW_none, errW_some] <;> rfl) | (simp [*, errW_none, errW_some] <;> rfl), by repeat (first | (with_reducible first | exact HB.out | apply below_alloc | apply pw_below_drewN | apply below_drew1 | refine below_set ?_ GE164.out | refine below_set ?_ GE165.out | refine below_set ?_ GE166.out) | exact HB.out)⟩
                        · rw [if_neg c87] at H
                          have c87b0 : decide (t168 < 0) = false := decide_eq_false c87
                          clear c87
                          obtain rfl := Option.some.inj H
                          go_wp2
                          go_ret
                          exact ⟨by first | rfl | (simp [errW_none, errW_some] <;> rfl) | (simp [*, errW_none, errW_some] <;> rfl), by repeat (first | (with_reducible first | exact HB.out | apply below_alloc | apply pw_below_drewN | apply below_drew1 | refine below_set ?_ GE164.out | refine below_set ?_ GE165.out | refine below_set ?_ GE166.out) | exact HB.out)⟩
                      · rw [if_neg c86] at H
                        have c86b0 : (t170 == 0) = false := beq_eq_false_iff_ne.mpr c86
                        have c86b1 : (t170 != 0) = true := bne_iff_ne.mpr c86
                        obtain rfl := Option.some.inj H
                        go_wp2
                        go_ret
                        exact ⟨by first | rfl | (simp [errW_none, errW_some] <;> rfl) | (simp [*, errW_none, errW_some] <;> rfl), by repeat (first | (with_reducible first | exact HB.out | apply below_alloc | apply pw_below_drewN | apply below_drew1 | refine below_set ?_ GE164.out | refine below_set ?_ GE165.out | refine below_set ?_ GE166.out) | exact HB.out)⟩
                    · rw [if_neg c85] at H
                      have c85b0 : (t169 == 0) = false := beq_eq_false_iff_ne.mpr c85
                      have c85b1 : (t169 != 0) = true := bne_iff_ne.mpr c85
                      by_cases c89 : t168 < 0
                      · rw [if_pos c89] at H
                        have c89b0 : decide (t168 < 0) = true := decide_eq_true c89
                        clear c89
                        by_cases c90 : t169 ≤ 0
                        · rw [if_pos c90] at H
                          have c90b0 : decide (t169 ≤ 0) = true := decide_eq_true c90
                          clear c90
                          obtain rfl := Option.some.inj H
                          go_wp2
                          go_ret
                          exact ⟨by first | rfl | (simp [errW_none, errW_some] <;> rfl) | (simp [*, errW_none, errW_some] <;> rfl), by repeat (first | (with_reducible first | exact HB.out | apply below_alloc | apply pw_below_drewN | apply below_drew1 | refine below_set ?_ GE164.out | refine below_set ?_ GE165.out | refine below_set ?_ GE166.out) | exact HB.out)⟩
                        · rw [if_neg c90] at H
                          have c90b0 : decide (t169 ≤ 0) = false := decide_eq_false c90
                          clear c90
                          obtain rfl := Option.some.inj H
                          go_wp2
                          go_ret
                          exact ⟨by first | rfl | (simp [errW_none, errW_some] <;> rfl) | (simp [*, errW_none, errW_some] <;> rfl), by repeat (first | (with_reducible first | exact HB.out | apply below_alloc | apply pw_below_drewN | apply below_drew1 | refine below_set ?_ GE164.out | refine below_set ?_ GE165.out | refine below_set ?_ GE166.out) | exact HB.out)⟩
                      · rw [if_neg c89] at H
                        have c89b0 : decide (t168 < 0) = false := decide_eq_false c89
                        clear c89
                        obtain rfl := Option.some.inj H
                        go_wp2
                        go_ret
                        exact ⟨by first | rfl | (simp [errW_none, errW_some] <;> rfl) | (simp [*, errW_none, errW_some] <;> rfl), by repeat (first | (with_reducible first | exact HB.out | apply below_alloc | apply pw_below_drewN | apply below_drew1 | refine below_set ?_ GE164.out | refine below_set ?_ GE165.out | refine below_set ?_ GE166.out) | exact HB.out)⟩
                  · rw [if_neg c84] at H
                    have c84b0 : (t168 == 0) = false := beq_eq_false_iff_ne.mpr c84
                    have c84b1 : (t168 != 0) = true := bne_iff_ne.mpr c84
                    by_cases c91 : t168 < 0
                    · rw [if_pos c91] at H
                      have c91b0 : decide (t168 < 0) = true := decide_eq_true c91
                      clear c91
                      by_cases c92 : t169 ≤ 0
                      · rw [if_pos c92] at H
                        have c92b0 : decide (t169 ≤ 0) = true := decide_eq_true c92
                        clear c92
                        obtain rfl := Option.some.inj H
                        go_wp2
                        go_ret
                        exact ⟨by first | rfl | (simp [errW_none, errW_some] <;> rfl) | (simp [*, errW_none, errW_some] <;> rfl), by repeat (first | (with_reducible first | exact HB.out | apply below_alloc | apply pw_below_drewN | apply below_drew1 | refine below_set ?_ GE164.out | refine below_set ?_ GE165.out | refine below_set ?_ GE166.out) | exact HB.out)⟩
                      · rw [if_neg c92] at H
                        have c92b0 : decide (t169 ≤ 0) = false := decide_eq_false c92
                        clear c92
                        obtain rfl := Option.some.inj H
                        go_wp2
                        go_ret
                        exact ⟨by first | rfl | (simp [errW_none, errW_some] <;> rfl) | (simp [*, errW_none, errW_some] <;> rfl), by repeat (first | (with_reducible first | exact HB.out | apply below_alloc | apply pw_below_drewN | apply below_drew1 | refine below_set ?_ GE164.out | refine below_set ?_ GE165.out | refine below_set ?_ GE166.out) | exact HB.out)⟩
                    · rw [if_neg c91] at H
                      have c91b0 : decide (t168 < 0) = false := decide_eq_false c91
                      clear c91
                      obtain rfl := Option.some.inj H
                      go_wp2
                      go_ret
                      exact ⟨by first | rfl | (simp [errW_none, errW_some] <;> rfl) | (simp [*, errW_none, errW_some] <;> rfl), by repeat (first | (with_reducible first | exact HB.out | apply below_alloc | apply pw_below_drewN | apply below_drew1 | refine below_set ?_ GE164.out | refine below_set ?_ GE165.out | refine below_set ?_ GE166.out) | exact HB.out)⟩
              · rw [if_neg c82] at H
                have c82b0 : decide (0 ≤ t169) = false := decide_eq_false c82
                clear c82
                by_cases c93 : t168 = 0
                · rw [if_pos c93] at H
                  have c93b0 : (t168 == 0) = true := beq_iff_eq.mpr c93
                  have c93b1 : (t168 != 0) = false := bne_eq_false_iff_eq.mpr c93
                  clear c93
                  by_cases c94 : t169 = 0
                  · rw [if_pos c94] at H
                    have c94b0 : (t169 == 0) = true := beq_iff_eq.mpr c94
                    have c94b1 : (t169 != 0) = false := bne_eq_false_iff_eq.mpr c94
                    clear c94
                    by_cases c95 : t170 = 0
                    · rw [if_pos c95] at H
                      have c95b0 : (t170 == 0) = true := beq_iff_eq.mpr c95
                      have c95b1 : (t170 != 0) = false := bne_eq_false_iff_eq.mpr c95
                      clear c95
                      by_cases c96 : t168 < 0
                      · rw [if_pos c96] at H
                        have c96b0 : decide (t168 < 0) = true := decide_eq_true c96
                        clear c96
                        by_cases c97 : t169 ≤ 0
                        · rw [if_pos c97] at H
                          have c97b0 : decide (t169 ≤ 0) = true := decide_eq_true c97
                          clear c97
                          obtain rfl := Option.some.inj H
                          go_wp2
                          go_ret
                          exact ⟨by first | rfl | (simp [errW_none, errW_some] <;> rfl) | (simp [*, errW_none, errW_some] <;> rfl), by repeat (first | (with_reducible first | exact HB.out | apply below_alloc | apply pw_below_drewN | apply below_drew1 | refine below_set ?_ GE164.out | refine below_set ?_ GE165.out | refine below_set ?_ GE166.out) | exact HB.out)⟩
                        · rw [if_neg c97] at H
                          have c97b0 : decide (t169 ≤ 0) = false := decide_eq_false c97
                          clear c97
                          obtain rfl := Option.some.inj H
                          go_wp2
                          go_ret
                          exact ⟨by first | rfl | (simp [errW_none, errW_some] <;> rfl) | (simp [*, errW_none, errW_some] <;> rfl), by repeat (first | (with_reducible first | exact HB.out | apply below_alloc | apply pw_below_drewN | apply below_drew1 | refine below_set ?_ GE164.out | refine below_set ?_ GE165.out | refine below_set ?_ GE166.out) | exact HB.out)⟩
                      · rw [if_neg c96] at H
                        have c96b0 : decide (t168 < 0) = false := decide_eq_false c96
                        clear c96
                        obtain rfl := Option.some.inj H
                        go_wp2
                        go_ret
                        exact ⟨by first | rfl | (simp [errW_none, errW_some] <;> rfl) | (simp [*, errW_none, errW_some] <;> rfl), by repeat (first | (with_reducible first | exact HB.out | apply below_alloc | apply pw_below_drewN | apply below_drew1 | refine below_set ?_ GE164.out | refine below_set ?_ GE165.out | refine below_set ?_ GE166.out) | exact HB.out)⟩
                    · rw [if_neg c95] at H
                      have c95b0 : (t170 == 0) = false := beq_eq_false_iff_ne.mpr c95
                      have c95b1 : (t170 != 0) = true := bne_iff_ne.mpr c95
                      obtain rfl := Option.some.inj H
                      go_wp2
                      go_ret
                      exact ⟨by first | rfl | (simp [errW_none, errW_some] <;> rfl) | (simp [*, errW_none, errW_some] <;> rfl), by repeat (first | (with_reducible first | exact HB.out | apply below_alloc | apply pw_below_drewN | apply below_drew1 | refine below_set ?_ GE164.out | refine below_set ?_ GE165.out | refine below_set ?_ GE166.out) | exact HB.out)⟩
                  · rw [if_neg c94] at H
                    have c94b0 : (t169 == 0) = false := beq_eq_false_iff_ne.mpr c94
                    have c94b1 : (t169 != 0) = true := bne_iff_ne.mpr c94
                    by_cases c98 : t168 < 0
                    · rw [if_pos c98] at H
                      have c98b0 : decide (t168 < 0) = true := decide_eq_true c98
                      clear c98
                      by_cases c99 : t169 ≤ 0
                      · rw [if_pos c99] at H
                        have c99b0 : decide (t169 ≤ 0) = true := decide_eq_true c99
                        clear c99
                        obtain rfl := Option.some.inj H
                        go_wp2
                        go_ret
                        exact ⟨by first | rfl | (simp [errW_none, errW_some] <;> rfl) | (simp [*, errW_none, errW_some] <;> rfl), by repeat (first | (with_reducible first | exact HB.out | apply below_alloc | apply pw_below_drewN | apply below_drew1 | refine below_set ?_ GE164.out | refine below_set ?_ GE165.out | refine below_set ?_ GE166.out) | exact HB.out)⟩
                      · rw [if_neg c99] at H
                        have c99b0 : decide (t169 ≤ 0) = false := decide_eq_false c99
                        clear c99
                        obtain rfl := Option.some.inj H
                        go_wp2
                        go_ret
                        exact ⟨by first | rfl | (simp [errW_none, errW_some] <;> rfl) | (simp [*, errW_none, errW_some] <;> rfl), by repeat (first | (with_reducible first | exact HB.out | apply below_alloc | apply pw_below_drewN | apply below_drew1 | refine below_set ?_ GE164.out | refine below_set ?_ GE165.out | refine below_set ?_ GE166.out) | exact HB.out)⟩
                    · rw [if_neg c98] at H
                      have c98b0 : decide (t168 < 0) = false := decide_eq_false c98
                      clear c98
                      obtain rfl := Option.some.inj H
                      go_wp2
                      go_ret
                      exact ⟨by first | rfl | (simp [errW_none, errW_some] <;> rfl) | (simp [*, errW_none, errW_some] <;> rfl), by repeat (first | (with_reducible first | exact HB.out | apply below_alloc | apply pw_below_drewN | apply below_drew1 | refine below_set ?_ GE164.out | refine below_set ?_ GE165.out | refine below_set ?_ GE166.out) | exact HB.out)⟩
                · rw [if_neg c93] at H
                  have c93b0 : (t168 == 0) = false := beq_eq_false_iff_ne.mpr c93
                  have c93b1 : (t168 != 0) = true := bne_iff_ne.mpr c93
                  by_cases c100 : t168 < 0
                  · rw [if_pos c100] at H
                    have c100b0 : decide (t168 < 0) = true := decide_eq_true c100
                    clear c100
                    by_cases c101 : t169 ≤ 0
                    · rw [if_pos c101] at H
                      have c101b0 : decide (t169 ≤ 0) = true := decide_eq_true c101
                      clear c101
                      obtain rfl := Option.some.inj H
                      go_wp2
                      go_ret
                      exact ⟨by first | rfl | (simp [errW_none, errW_some] <;> rfl) | (simp [*, errW_none, errW_some] <;> rfl), by repeat (first | (with_reducible first | exact HB.out | apply below_alloc | apply pw_below_drewN | apply below_drew1 | refine below_set ?_ GE164.out | refine below_set ?_ GE165.out | refine below_set ?_ GE166.out) | exact HB.out)⟩
                    · rw [if_neg c101] at H
                      have c101b0 : decide (t169 ≤ 0) = false := decide_eq_false c101
                      clear c101
                      obtain rfl := Option.some.inj H
                      go_wp2
                      go_ret
                      exact ⟨by first | rfl | (simp [errW_none, errW_some] <;> rfl) | (simp [*, errW_none, errW_some] <;> rfl), by repeat (first | (with_reducible first | exact HB.out | apply below_alloc | apply pw_below_drewN | apply below_drew1 | refine below_set ?_ GE164.out | refine below_set ?_ GE165.out | refine below_set ?_ GE166.out) | exact HB.out)⟩
                  · rw [if_neg c100] at H
                    have c100b0 : decide (t168 < 0) = false := decide_eq_false c100
                    clear c100
                    obtain rfl := Option.some.inj H
                    go_wp2
                    go_ret
                    exact ⟨by first | rfl | (simp [errW_none, errW_some] <;> rfl) | (simp [*, errW_none, errW_some] <;> rfl), by repeat (first | (with_reducible first | exact HB.out | apply below_alloc | apply pw_below_drewN | apply below_drew1 | refine below_set ?_ GE164.out | refine below_set ?_ GE165.out | refine below_set ?_ GE166.out) | exact HB.out)⟩
            · rw [if_neg c81] at H
              have c81b0 : decide (0 ≤ t168) = false := decide_eq_false c81
              clear c81
              by_cases c102 : t168 = 0
              · rw [if_pos c102] at H
                have c102b0 : (t168 == 0) = true := beq_iff_eq.mpr c102
                have c102b1 : (t168 != 0) = false := bne_eq_false_iff_eq.mpr c102
                clear c102
                by_cases c103 : t169 = 0
                · rw [if_pos c103] at H
                  have c103b0 : (t169 == 0) = true := beq_iff_eq.mpr c103
                  have c103b1 : (t169 != 0) = false := bne_eq_false_iff_eq.mpr c103
                  clear c103
                  by_cases c104 : t170 = 0
                  · rw [if_pos c104] at H
                    have c104b0 : (t170 == 0) = true := beq_iff_eq.mpr c104
                    have c104b1 : (t170 != 0) = false := bne_eq_false_iff_eq.mpr c104
                    clear c104
                    by_cases c105 : t168 < 0
                    · rw [if_pos c105] at H
                      have c105b0 : decide (t168 < 0) = true := decide_eq_true c105
                      clear c105
                      by_cases c106 : t169 ≤ 0
                      · rw [if_pos c106] at H
                        have c106b0 : decide (t169 ≤ 0) = true := decide_eq_true c106
                        clear c106
                        obtain rfl := Option.some.inj H
                        go_wp2
                        go_ret
                        exact ⟨by first | rfl | (simp [errW_none, errW_some] <;> rfl) | (simp [*, errW_none, errW_some] <;> rfl), by repeat (first | (with_reducible first | exact HB.out | apply below_alloc | apply pw_below_drewN | apply below_drew1 | refine below_set ?_ GE164.out | refine below_set ?_ GE165.out | refine below_set ?_ GE166.out) | exact HB.out)⟩
                      · rw [if_neg c106] at H
                        have c106b0 : decide (t169 ≤ 0) = false := decide_eq_false c106
                        clear c106
                        obtain rfl := Option.some.inj H
                        go_wp2
                        go_ret
                        exact ⟨by first | rfl | (simp [errW_none, errW_some] <;> rfl) | (simp [*, errW_none, errW_some] <;> rfl), by repeat (first | (with_reducible first | exact HB.out | apply below_alloc | apply pw_below_drewN | apply below_drew1 | refine below_set ?_ GE164.out | refine below_set ?_ GE165.out | refine below_set ?_ GE166.out) | exact HB.out)⟩
                    · rw [if_neg c105] at H
                      have c105b0 : decide (t168 < 0) = false := decide_eq_false c105
                      clear c105
                      obtain rfl := Option.some.inj H
                      go_wp2
                      go_ret
                      exact ⟨by first | rfl | (simp [errW_none, errW_some] <;> rfl) | (simp [*, errW_none, errW_some] <;> rfl), by repeat (first | (with_reducible first | exact HB.out | apply below_alloc | apply pw_below_drewN | apply below_drew1 | refine below_set ?_ GE164.out | refine below_set ?_ GE165.out | refine below_set ?_ GE166.out) | exact HB.out)⟩
                  · rw [if_neg c104] at H
                    have c104b0 : (t170 == 0) = false := beq_eq_false_iff_ne.mpr c104
                    have c104b1 : (t170 != 0) = true := bne_iff_ne.mpr c104
                    obtain rfl := Option.some.inj H
                    go_wp2
                    go_ret
                    exact ⟨by first | rfl | (simp [errW_none, errW_some] <;> rfl) | (simp [*, errW_none, errW_some] <;> rfl), by repeat (first | (with_reducible first | exact HB.out | apply below_alloc | apply pw_below_drewN | apply below_drew1 | refine below_set ?_ GE164.out | refine below_set ?_ GE165.out | refine below_set ?_ GE166.out) | exact HB.out)⟩
                · rw [if_neg c103] at H
                  have c103b0 : (t169 == 0) = false := beq_eq_false_iff_ne.mpr c103
                  have c103b1 : (t169 != 0) = true := bne_iff_ne.mpr c103
                  by_cases c107 : t168 < 0
                  · rw [if_pos c107] at H
                    have c107b0 : decide (t168 < 0) = true := decide_eq_true c107
                    clear c107
                    by_cases c108 : t169 ≤ 0
                    · rw [if_pos c108] at H
                      have c108b0 : decide (t169 ≤ 0) = true := decide_eq_true c108
                      clear c108
                      obtain rfl := Option.some.inj H
                      go_wp2
                      go_ret
                      exact ⟨by first | rfl | (simp [errW_none, errW_some] <;> rfl) | (simp [*, errW_none, errW_some] <;> rfl), by repeat (first | (with_reducible first | exact HB.out | apply below_alloc | apply pw_below_drewN | apply below_drew1 | refine below_set ?_ GE164.out | refine below_set ?_ GE165.out | refine below_set ?_ GE166.out) | exact HB.out)⟩
                    · rw [if_neg c108] at H
                      have c108b0 : decide (t169 ≤ 0) = false := decide_eq_false c108
                      clear c108
                      obtain rfl := Option.some.inj H
                      go_wp2
                      go_ret
                      exact ⟨by first | rfl | (simp [errW_none, errW_some] <;> rfl) | (simp [*, errW_none, errW_some] <;> rfl), by repeat (first | (with_reducible first | exact HB.out | apply below_alloc | apply pw_below_drewN | apply below_drew1 | refine below_set ?_ GE164.out | refine below_set ?_ GE165.out | refine below_set ?_ GE166.out) | exact HB.out)⟩
                  · rw [if_neg c107] at H
                    have c107b0 : decide (t168 < 0) = false := decide_eq_false c107
                    clear c107
                    obtain rfl := Option.some.inj H
                    go_wp2
                    go_ret
                    exact ⟨by first | rfl | (simp [errW_none, errW_some] <;> rfl) | (simp [*, errW_none, errW_some] <;> rfl), by repeat (first | (with_reducible first | exact HB.out | apply below_alloc | apply pw_below_drewN | apply below_drew1 | refine below_set ?_ GE164.out | refine below_set ?_ GE165.out | refine below_set ?_ GE166.out) | exact HB.out)⟩
              · rw [if_neg c102] at H
                have c102b0 : (t168 == 0) = false := beq_eq_false_iff_ne.mpr c102
                have c102b1 : (t168 != 0) = true := bne_iff_ne.mpr c102
                by_cases c109 : t168 < 0
                · rw [if_pos c109] at H
                  have c109b0 : decide (t168 < 0) = true := decide_eq_true c109
                  clear c109
                  by_cases c110 : t169 ≤ 0
                  · rw [if_pos c110] at H
                    have c110b0 : decide (t169 ≤ 0) = true := decide_eq_true c110
                    clear c110
                    obtain rfl := Option.some.inj H
                    go_wp2
                    go_ret
                    exact ⟨by first | rfl | (simp [errW_none, errW_some] <;> rfl) | (simp [*, errW_none, errW_some] <;> rfl), by repeat (first | (with_reducible first | exact HB.out | apply below_alloc | apply pw_below_drewN | apply below_drew1 | refine below_set ?_ GE164.out | refine below_set ?_ GE165.out | refine below_set ?_ GE166.out) | exact HB.out)⟩
                  · rw [if_neg c110] at H
                    have c110b0 : decide (t169 ≤ 0) = false := decide_eq_false c110
                    clear c110
                    obtain rfl := Option.some.inj H
                    go_wp2
                    go_ret
                    exact ⟨by first | rfl | (simp [errW_none, errW_some] <;> rfl) | (simp [*, errW_none, errW_some] <;> rfl), by repeat (first | (with_reducible first | exact HB.out | apply below_alloc | apply pw_below_drewN | apply below_drew1 | refine below_set ?_ GE164.out | refine below_set ?_ GE165.out | refine below_set ?_ GE166.out) | exact HB.out)⟩
                · rw [if_neg c109] at H
                  have c109b0 : decide (t168 < 0) = false := decide_eq_false c109
                  clear c109
                  obtain rfl := Option.some.inj H
                  go_wp2
                  go_ret
                  exact ⟨by first | rfl | (simp [errW_none, errW_some] <;> rfl) | (simp [*, errW_none, errW_some] <;> rfl), by repeat (first | (with_reducible first | exact HB.out | apply below_alloc | apply pw_below_drewN | apply below_drew1 | refine below_set ?_ GE164.out | refine below_set ?_ GE165.out | refine below_set ?_ GE166.out) | exact HB.out)⟩
  · replace c5 := Bool.eq_false_iff.mpr c5
    subst c5
    have H1 : (some false) = some r := by rw [if_neg (show ¬ (false = true) by decide)] at H; exact H
    clear H
    have H := H1
    clear H1
    obtain rfl := Option.some.inj H
    go_enter Tryd.func3, Tryd.ntmps3
    go_wp2_with (first | ((with_reducible refine gate_dst (N := 3) rfl ?_); refine box_event ?hg (N := 3) ?hd (cs := #[.slice A0_0 l0_0.length c0_0, .string a0_1]) (t := 24) ?hr ?_; (case hd => rfl); (case hg => rfl); (case hr => first | (go_simp; done) | (go_simp; rfl)); intro gb164 hg w111 hbox hb; have n0_ := Aside0.mk (below_step (by repeat (first | (with_reducible first | exact HB.out | apply below_alloc | apply pw_below_drewN | apply below_drew1) | exact HB.out)) hb); have n1_ := Aside0.mk (hbox); have n2_ := Aside0.mk ((by rw [hg]; exact (below_size (by repeat (first | (with_reducible first | exact HB.out | apply below_alloc | apply pw_below_drewN | apply below_drew1) | exact HB.out))) : w.heap.size ≤ gb164)); have n3_ := Aside0.mk ((by rw [hg]; exact (below_size (by repeat (first | (with_reducible first | exact HB.out | apply below_alloc | apply pw_below_drewN | apply below_drew1) | exact HB.out))) : w.heap.size ≤ gb164)); clear HB; have HB := n0_; have BK164 := n1_; have GW164 := n2_; have GE164 := n3_; clear n0_ n1_ n2_ n3_; clear hb hbox hg) | ((with_reducible refine gate_dst (N := 4) rfl ?_); refine box_event ?hg (N := 4) ?hd (cs := #[.slice A1_0 l1_0.length c1_0, .string a1_1]) (t := 24) ?hr ?_; (case hd => rfl); (case hg => rfl); (case hr => first | (go_simp; done) | (go_simp; rfl)); intro gb165 hg w112 hbox hb; have n0_ := Aside0.mk (blk_below (g := gb164) (o := .cells #[.slice A0_0 l0_0.length c0_0, .string a0_1] 24 (0, 0)) (by (with_reducible repeat (first | refine blk_drewN ?_ _ | refine blk_drew ?_ | refine blk_alloc ?_ _)); exact BK164.out) hb); have n1_ := Aside0.mk (below_step (by repeat (first | (with_reducible first | exact HB.out | apply below_alloc | apply pw_below_drewN | apply below_drew1 | refine below_set ?_ GE164.out) | exact HB.out)) hb); have n2_ := Aside0.mk (hbox); have n3_ := Aside0.mk ((by rw [hg]; exact (below_size (by repeat (first | (with_reducible first | exact HB.out | apply below_alloc | apply pw_below_drewN | apply below_drew1 | refine below_set ?_ GE164.out) | exact HB.out))) : w.heap.size ≤ gb165)); have n4_ := Aside0.mk ((by rw [hg]; exact (below_size (by repeat (first | (with_reducible first | exact HB.out | apply below_alloc | apply pw_below_drewN | apply below_drew1 | refine below_set ?_ GE164.out) | exact HB.out))) : w.heap.size ≤ gb165)); have n5_ := Aside0.mk ((by rw [hg]; exact Nat.ne_of_lt (blk_lt (g := gb164) (o := .cells #[.slice A0_0 l0_0.length c0_0, .string a0_1] 24 (0, 0)) (by (with_reducible repeat (first | refine blk_drewN ?_ _ | refine blk_drew ?_ | refine blk_alloc ?_ _)); exact BK164.out)) : gb164 ≠ gb165)); have n6_ := Aside0.mk ((by rw [hg]; exact Nat.ne_of_gt (blk_lt (g := gb164) (o := .cells #[.slice A0_0 l0_0.length c0_0, .string a0_1] 24 (0, 0)) (by (with_reducible repeat (first | refine blk_drewN ?_ _ | refine blk_drew ?_ | refine blk_alloc ?_ _)); exact BK164.out)) : gb165 ≠ gb164)); clear BK164; clear HB; have BK164 := n0_; have HB := n1_; have BK165 := n2_; have GW165 := n3_; have GE165 := n4_; have NB164_165 := n5_; have NB165_164 := n6_; clear n0_ n1_ n2_ n3_ n4_ n5_ n6_; clear hb hbox hg) | ((with_reducible refine gate_dst (N := 5) rfl ?_); refine box_event ?hg (N := 5) ?hd (cs := #[.slice A2_0 l2_0.length c2_0, .string a2_1]) (t := 24) ?hr ?_; (case hd => rfl); (case hg => rfl); (case hr => first | (go_simp; done) | (go_simp; rfl)); intro gb166 hg w113 hbox hb; have n0_ := Aside0.mk (blk_below (g := gb164) (o := .cells #[.slice A0_0 l0_0.length c0_0, .string a0_1] 24 (0, 0)) (by (with_reducible repeat (first | refine blk_drewN ?_ _ | refine blk_drew ?_ | refine blk_alloc ?_ _)); exact BK164.out) hb); have n1_ := Aside0.mk (blk_below (g := gb165) (o := .cells #[.slice A1_0 l1_0.length c1_0, .string a1_1] 24 (0, 0)) (by (with_reducible repeat (first | refine blk_drewN ?_ _ | refine blk_drew ?_ | refine blk_alloc ?_ _)); exact BK165.out) hb); have n2_ := Aside0.mk (below_step (by repeat (first | (with_reducible first | exact HB.out | apply below_alloc | apply pw_below_drewN | apply below_drew1 | refine below_set ?_ GE164.out | refine below_set ?_ GE165.out) | exact HB.out)) hb); have n3_ := Aside0.mk (hbox); have n4_ := Aside0.mk ((by rw [hg]; exact (below_size (by repeat (first | (with_reducible first | exact HB.out | apply below_alloc | apply pw_below_drewN | apply below_drew1 | refine below_set ?_ GE164.out | refine below_set ?_ GE165.out) | exact HB.out))) : w.heap.size ≤ gb166)); have n5_ := Aside0.mk ((by rw [hg]; exact (below_size (by repeat (first | (with_reducible first | exact HB.out | apply below_alloc | apply pw_below_drewN | apply below_drew1 | refine below_set ?_ GE164.out | refine below_set ?_ GE165.out) | exact HB.out))) : w.heap.size ≤ gb166)); have n6_ := Aside0.mk ((by rw [hg]; exact Nat.ne_of_lt (blk_lt (g := gb164) (o := .cells #[.slice A0_0 l0_0.length c0_0, .string a0_1] 24 (0, 0)) (by (with_reducible repeat (first | refine blk_drewN ?_ _ | refine blk_drew ?_ | refine blk_alloc ?_ _)); exact BK164.out)) : gb164 ≠ gb166)); have n7_ := Aside0.mk ((by rw [hg]; exact Nat.ne_of_gt (blk_lt (g := gb164) (o := .cells #[.slice A0_0 l0_0.length c0_0, .string a0_1] 24 (0, 0)) (by (with_reducible repeat (first | refine blk_drewN ?_ _ | refine blk_drew ?_ | refine blk_alloc ?_ _)); exact BK164.out)) : gb166 ≠ gb164)); have n8_ := Aside0.mk ((by rw [hg]; exact Nat.ne_of_lt (blk_lt (g := gb165) (o := .cells #[.slice A1_0 l1_0.length c1_0, .string a1_1] 24 (0, 0)) (by (with_reducible repeat (first | refine blk_drewN ?_ _ | refine blk_drew ?_ | refine blk_alloc ?_ _)); exact BK165.out)) : gb165 ≠ gb166)); have n9_ := Aside0.mk ((by rw [hg]; exact Nat.ne_of_gt (blk_lt (g := gb165) (o := .cells #[.slice A1_0 l1_0.length c1_0, .string a1_1] 24 (0, 0)) (by (with_reducible repeat (first | refine blk_drewN ?_ _ | refine blk_drew ?_ | refine blk_alloc ?_ _)); exact BK165.out)) : gb166 ≠ gb165)); clear BK164; clear BK165; clear HB; have BK164 := n0_; have BK165 := n1_; have HB := n2_; have BK166 := n3_; have GW166 := n4_; have GE166 := n5_; have NB164_166 := n6_; have NB166_164 := n7_; have NB165_166 := n8_; have NB166_165 := n9_; clear n0_ n1_ n2_ n3_ n4_ n5_ n6_ n7_ n8_ n9_; clear hb hbox hg) | ((with_reducible refine gate_callee (f := 8) rfl ?_); refine goesL_ (some 10) rfl rfl Tryd.func8 (by kernel_rfl) rfl #[] rfl (by (try simp only [List.map_toArray, List.map_cons, List.map_nil]); first | done | rfl | (simp only [List.length_drop, List.length_take]; rfl)) ?_; (with_reducible refine (sutlerlaw17_works.calls  false _ A4.out (LD.out.below (by repeat (first | (with_reducible first | exact HB.out | apply below_alloc | apply pw_below_drewN | apply below_drew1 | refine below_set ?_ GE164.out | refine below_set ?_ GE165.out | refine below_set ?_ GE166.out) | exact HB.out)))).mono ?_); rintro e w114 ⟨rfl, hb⟩; refine ⟨_, rfl, ?_⟩; have n0_ := Aside0.mk (blk_below (g := gb164) (o := .cells #[.slice A0_0 l0_0.length c0_0, .string a0_1] 24 (0, 0)) (by (with_reducible repeat (first | refine blk_drewN ?_ _ | refine blk_drew ?_ | refine blk_alloc ?_ _)); exact BK164.out) hb); have n1_ := Aside0.mk (blk_below (g := gb165) (o := .cells #[.slice A1_0 l1_0.length c1_0, .string a1_1] 24 (0, 0)) (by (with_reducible repeat (first | refine blk_drewN ?_ _ | refine blk_drew ?_ | refine blk_alloc ?_ _)); exact BK165.out) hb); have n2_ := Aside0.mk (blk_below (g := gb166) (o := .cells #[.slice A2_0 l2_0.length c2_0, .string a2_1] 24 (0, 0)) (by (with_reducible repeat (first | refine blk_drewN ?_ _ | refine blk_drew ?_ | refine blk_alloc ?_ _)); exact BK166.out) hb); have n3_ := Aside0.mk (below_step (by repeat (first | (with_reducible first | exact HB.out | apply below_alloc | apply pw_below_drewN | apply below_drew1 | refine below_set ?_ GE164.out | refine below_set ?_ GE165.out | refine below_set ?_ GE166.out) | exact HB.out)) hb); clear BK164; clear BK165; clear BK166; clear HB; have BK164 := n0_; have BK165 := n1_; have BK166 := n2_; have HB := n3_; clear n0_ n1_ n2_ n3_; (try clear hb); (try clear hb2); (try clear hk); (try clear hi)))
    go_ret
    exact ⟨by first | rfl | (simp [errW_none, errW_some] <;> rfl) | (simp [*, errW_none, errW_some] <;> rfl), by repeat (first | (with_reducible first | exact HB.out | apply below_alloc | apply pw_below_drewN | apply below_drew1 | refine below_set ?_ GE164.out | refine below_set ?_ GE165.out | refine below_set ?_ GE166.out) | exact HB.out)⟩

end Go.Proofs.YtbikimkmkchkhaaDoor.PAll
