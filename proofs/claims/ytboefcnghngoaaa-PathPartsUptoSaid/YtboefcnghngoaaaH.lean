/- path.All. -/
import Derived.RangeFuncNested
import Derived.RangeFuncBound
import Derived.RangeFuncCalls
import Derived.RangeFuncLeaves
import Derived.RangeFuncBox
import Derived.Shelf.Abstract
import Derived.Shelf.RegionOpen
import Derived.WalkKit
import Derived.OwnWalkIn
import Derived.TacticsInMore
import Derived.LoopNIn
import Derived.LoopIn
import Derived.Maps.AppendAt
import Derived.Test.YtboefcnghngoaaaPart
import Derived.Outline
import Derived.Deep.QuietTactic
import Derived.BigQuiet
import Derived.WalkSpells
import Derived.Deep.DeepFit
import Derived.Lib.Hide
import Derived.Lib.IndexBytes
import Derived.Test.YtboefcnghngoaaaShelf
import Derived.Test.YtboefcnghngoaaaSpec
import Derived.Test.YtboefcnghngoaaaE
import Derived.Test.YtboefcnghngoaaaRound
namespace Go.Proofs.Ytboefcnghngoaaa
open Go.RowKit Go.Shelf Go.Lib Sp
attribute [local go_sem] Oper.semAt_some

theorem info9a : (Try.prog.info? 9).map (fun i => (i.zero, i.size, i.bytes)) = some (some (.string ⟨#[]⟩), 1, 16) := by kernel_rfl

/-- The parents, and the path. -/
def ups (s : ByteArray) (pre : List (Span s)) : List ByteArray := pre.map fun x => s.extract 0 x.1.2

set_option maxRecDepth 100000 in
set_option maxHeartbeats 2000000 in
/-- path.All of a text that is not empty. -/
theorem all_calls (s : ByteArray) (hs : s.size ≤ 1099511627776) (hne : s.toList.isEmpty = false) (w : World) :
    Calls Try.prog 26 #[.string s] w fun e w' => ∃ v ys, e = .returned v ∧ (ys : List (Span s)).map (·.1) = spans 0 s.data.toList ∧ ownsPart w' w.heap.size 9 1 v ys.length (strsOf (ups s ys)) ∧ Below w.heap.size w w' := by
  obtain ⟨i0, hi, hz0, hz1, hz2⟩ := info_parts info9a
  refine (callsIn_wide (n := 3)).1 ?_
  refine callsIn_of_wp_marks Try.func26 rfl trivial ?_ rfl
  simp only [Try.ntmps26, List.size_toArray, List.length_cons, List.length_nil, Nat.reduceAdd, Nat.reduceSub, Array.replicate_succ, Array.replicate_zero, List.push_toArray, List.append_toArray, List.nil_append, List.cons_append]
  gi_wp2_with (refine ⟨trivial, ?_⟩; gi_at_call 32; refine (parts_in _ _ _).mono ?_; rintro e w' ⟨rfl, rfl⟩)
  have b1 : Boxed (((w.alloc (.cells #[.string s] 9)).alloc (.cells #[.slice none 0 0] 34)).alloc (.cells #[.string s] 9)) w.heap.size 9 (.string s) := ((Boxed.new w 9 (.string s)).alloc _).alloc _
  have b2 := (Boxed.new (w.alloc (.cells #[.string s] 9)) 34 (.slice none 0 0)).alloc (.cells #[.string s] 9)
  have b3 := Boxed.new ((w.alloc (.cells #[.string s] 9)).alloc (.cells #[.slice none 0 0] 34)) 9 (.string s)
  simp only [World.size_alloc] at b2 b3
  have hB0 : Below w.heap.size w (((w.alloc (.cells #[.string s] 9)).alloc (.cells #[.slice none 0 0] 34)).alloc (.cells #[.string s] 9)) := (((Below.refl _ w).alloc (Nat.le_refl _) _).alloc (by simp) _).alloc (by simp; omega) _
  obtain ⟨W2, hW2⟩ : ∃ W2, ((w.alloc (.cells #[.string s] 9)).alloc (.cells #[.slice none 0 0] 34)).alloc (.cells #[.string s] 9) = W2 := ⟨_, rfl⟩
  have hsz2 : W2.heap.size = w.heap.size + 3 := by rw [← hW2]; simp
  rw [hW2] at b1 b2 b3 hB0 ⊢
  clear hW2
  refine' wpIn_rangeFunc_ownF (n := 3) rfl (by decide) (gf := 42) (lb := #[.pointer (some ⟨w.heap.size + 1 + 1, 0, none⟩)]) rfl trivial (enters_of Try.func42 (by kernel_rfl) rfl)
    (parts_stops s (by omega) 2 (by omega) (w.heap.size + 1 + 1) _ b3) KeepB.trans (KeepB.put b3.lt) (Below.refl _ _) (fun _ => rfl)
    (fun pre W => ((∃ v, Boxed W (w.heap.size + 1) 34 v ∧ ownsPart W (w.heap.size + 3) 9 1 v pre.length (strsOf (ups s pre))) ∧ Boxed W w.heap.size 9 (.string s) ∧ Boxed W (w.heap.size + 1 + 1) 9 (.string s)) ∧ Below w.heap.size w W)
    (fun _ _ _ => False)
    (OwnFrom.and (Own.from (fun s A B row hs hg hr => by
      obtain ⟨⟨v, h1, h2⟩, h6, h7⟩ := hs
      exact ⟨⟨v, boxed_own h1 hg hr, part_own h2 hg hr⟩, boxed_own h6 hg hr, boxed_own h7 hg hr⟩) _) (ownFrom_below (Nat.le_refl _) (by omega)))
    (fun _ _ _ _ _ hs _ _ => hs)
    ⟨⟨⟨_, b2, ownsPart.nil _ _ _ _⟩, b1, b3⟩, hB0⟩
    _ ?assign ?body ?done ?stop
  case assign =>
    intro l x W K hK
    dsimp only [encSpan]
    gi_wp2
    exact hK
  case body =>
    rintro l pre x W ⟨⟨⟨v, hv, hrow⟩, h1, h3⟩, hB⟩ hlt
    have hpl : pre.length ≤ s.size := by have := spans_length s.data.toList 0; have h9 := length_wt ((parts 0 s.data.toList).map (·.2)); rw [wt_parts] at h9; have := Lib.size_eq s; simp at h9; omega
    obtain ⟨⟨a, b⟩, hab, hbs⟩ := x
    simp only at hab hbs
    have hst : strsOf (ups s (pre ++ [⟨(a, b), hab, hbs⟩])) = strsOf (ups s pre) ++ [.string (s.extract 0 b)] := by simp [strsOf, ups]
    have HST := Lib.hid hst; clear hst
    have hbsz := hB.size
    have hlt1 := hv.lt; have hlt2 := h1.lt; have hlt3 := h3.lt
    have hmx : Try.prog.follows .mixedOrders = true := by kernel_rfl
    have hc := hv.cell; have hf := hv.frozen; have hc1 := h1.cell
    have hsl : IntKind.i64.wrap ((a : Int) + ((b - a : Nat) : Int)) = (b : Int) := by rw [IntWalk.i64_in _ (by omega)]; omega
    have hbi : (b : Int) ≤ (s.size : Int) := by omega
    have hrow2 : ownsPart (W.alloc (.cells #[.string (s.extract 0 b)] 9)).drew (w.heap.size + 3) 9 1 v pre.length (strsOf (ups s pre)) := (hrow.alloc (.cells #[.string (s.extract 0 b)] 9)).kept (row := none) ⟨rfl, rfl, rfl, Nat.le_refl _, fun _ _ _ => rfl⟩ (by cases v.ownBlock <;> simp)
    obtain ⟨v', w3, hrun, hown', hgrow, _⟩ := run_append_part (P := Try.prog) (W.alloc (.cells #[.string (s.extract 0 b)] 9)).drew (w.heap.size + 3) 34 34 9 i0 (.string ⟨#[]⟩) 1 16 Try.underlying34 hi hz0 hz1 hz2 rfl (by decide) v pre.length _ hrow2 ⟨W.heap.size, 0, none⟩ 1 1 [.string (s.extract 0 b)] rfl (cell_one_new _ _ _) (by simp [Value.oneCell']) (by unfold maxLen; omega) (by omega) (by simp; omega)
    have hgrow' : (W.alloc (.cells #[.string (s.extract 0 b)] 9)).grownBy w3 v.ownBlock := ⟨hgrow.os, hgrow.tape, hgrow.output, hgrow.size, hgrow.block⟩
    obtain ⟨g', cap', rfl⟩ := part_succ hown'
    obtain ⟨hv1, hv2, hr2, hk2, hb2, hoth⟩ := part_appended (n₀ := w.heap.size) hv (by decide) hrow (by omega) (by omega) (by omega) hown' hgrow'
    have hc3 := hv1.cell; have hf3 := hv1.frozen
    clear hrow2 hown' hgrow
    dsimp only
    gi_wp2
    have far : ∀ B', B' < w.heap.size + 3 → some B' ≠ v.ownBlock := fun B' h e => by have := (hrow.lt _ e.symm).1; omega
    have hnn := hoth h3 (far _ (by omega)) (by omega)
    have fin : KeepsOthers W (w3.setCell ⟨w.heap.size + 1, 0, none⟩ (.slice (some ⟨g', 0, none⟩) (pre.length + 1) cap')) ∧ KeepB (w.heap.size + 1 + 1) W (w3.setCell ⟨w.heap.size + 1, 0, none⟩ (.slice (some ⟨g', 0, none⟩) (pre.length + 1) cap')) ∧
        ((∃ v, Boxed (w3.setCell ⟨w.heap.size + 1, 0, none⟩ (.slice (some ⟨g', 0, none⟩) (pre.length + 1) cap')) (w.heap.size + 1) 34 v ∧ ownsPart (w3.setCell ⟨w.heap.size + 1, 0, none⟩ (.slice (some ⟨g', 0, none⟩) (pre.length + 1) cap')) (w.heap.size + 3) 9 1 v (pre ++ [(⟨(a, b), hab, hbs⟩ : Span s)]).length (strsOf (ups s (pre ++ [⟨(a, b), hab, hbs⟩])))) ∧
          Boxed (w3.setCell ⟨w.heap.size + 1, 0, none⟩ (.slice (some ⟨g', 0, none⟩) (pre.length + 1) cap')) w.heap.size 9 (.string s) ∧ Boxed (w3.setCell ⟨w.heap.size + 1, 0, none⟩ (.slice (some ⟨g', 0, none⟩) (pre.length + 1) cap')) (w.heap.size + 1 + 1) 9 (.string s)) ∧
        Below w.heap.size w (w3.setCell ⟨w.heap.size + 1, 0, none⟩ (.slice (some ⟨g', 0, none⟩) (pre.length + 1) cap')) :=
      ⟨hk2, Eq.trans hnn h3.symm, ⟨⟨_, hv2, by rw [HST.out]; simpa using hr2⟩, hoth h1 (far _ (by omega)) (by omega), hnn⟩, hB.trans hb2⟩
    refine wpIn_region_round rfl hmx (by kernel_rfl) ?_
    refine wpAnyIn_take (i := 2) (v := .int .i64 (a : Int)) rfl rfl (by kernel_rfl) (by kernel_rfl) (by kernel_rfl) (fun _ _ _ h => h) ⟨Or.inl ⟨by rfl, by intro wq; go_simp⟩, fun _ => rfl⟩ ?_
    refine wpAnyIn_take (i := 3) (v := .string (s.extract a b)) rfl rfl (by kernel_rfl) (by kernel_rfl) (by kernel_rfl) (fun _ _ _ h => h) ⟨Or.inl ⟨by rfl, by intro wq; go_simp⟩, fun _ => rfl⟩ ?_
    refine wpAnyIn_take (i := 4) (v := .int .i64 ((b - a : Nat) : Int)) rfl rfl (by kernel_rfl) (by kernel_rfl) (by kernel_rfl) (fun _ _ _ h => h) ⟨Or.inl ⟨by rfl, by intro wq; go_simp⟩, fun _ => rfl⟩ ?_
    refine wpAnyIn_take (i := 5) (v := .int .i64 (b : Int)) rfl rfl (by kernel_rfl) (by kernel_rfl) (by kernel_rfl) (fun _ _ _ h => h) ⟨Or.inl ⟨by rfl, by intro wq; go_simp⟩, fun _ => rfl⟩ ?_
    refine wpAnyIn_ready (rs := [0, 1]) (by kernel_rfl) (by simp) ?_
    refine AllReadyIn.cons rfl (fun K hK => ?_) (AllReadyIn.cons rfl (fun K hK => ?_) AllReadyIn.nil)
    · go_simp
      refine hK _ _ ?_
      clear hK K
      refine wpAnyIn_ready (rs := [1]) (by kernel_rfl) (by simp) ?_
      refine AllReadyIn.cons rfl (fun K hK => ?_) AllReadyIn.nil
      go_simp
      refine hK _ _ ?_
      clear hK K
      refine wpAnyIn_take (i := 6) (v := .string (s.extract 0 b)) rfl rfl (by kernel_rfl) (by kernel_rfl) (by kernel_rfl) (fun _ _ _ h => h) ⟨Or.inl ⟨by rfl, by intro wq; go_simp⟩, fun _ => rfl⟩ ?_
      refine wpAnyIn_ready (rs := [7]) (by kernel_rfl) (by simp) ?_
      refine AllReadyIn.cons rfl (fun K hK => ?_) AllReadyIn.nil
      go_simp
      refine hK _ _ ?_
      clear hK K
      refine wpAnyIn_ready (rs := [8]) (by kernel_rfl) (by simp) ?_
      refine AllReadyIn.cons rfl (fun K hK => ?_) AllReadyIn.nil
      refine if_wanted rfl ?_
      refine oper_append (.tmp 13) (.tmp 20) 34 rfl rfl rfl hrun ?_
      refine hK _ _ ?_
      clear hK K
      refine wpAnyIn_ready (rs := [9]) (by kernel_rfl) (by simp) ?_
      refine AllReadyIn.cons rfl (fun K hK => ?_) AllReadyIn.nil
      go_simp
      refine hK _ _ ?_
      clear hK K
      refine wpAnyIn_done (by kernel_rfl) ?_ _
      exact fin
    · go_simp
      refine hK _ _ ?_
      clear hK K
      refine wpAnyIn_take (i := 6) (v := .string (s.extract 0 b)) rfl rfl (by kernel_rfl) (by kernel_rfl) (by kernel_rfl) (fun _ _ _ h => h) ⟨Or.inl ⟨by rfl, by intro wq; go_simp⟩, fun _ => rfl⟩ ?_
      refine wpAnyIn_ready (rs := [0, 7]) (by kernel_rfl) (by simp) ?_
      refine AllReadyIn.cons rfl (fun K hK => ?_) (AllReadyIn.cons rfl (fun K hK => ?_) AllReadyIn.nil)
      · go_simp
        refine hK _ _ ?_
        clear hK K
        refine wpAnyIn_ready (rs := [7]) (by kernel_rfl) (by simp) ?_
        refine AllReadyIn.cons rfl (fun K hK => ?_) AllReadyIn.nil
        go_simp
        refine hK _ _ ?_
        clear hK K
        refine wpAnyIn_ready (rs := [8]) (by kernel_rfl) (by simp) ?_
        refine AllReadyIn.cons rfl (fun K hK => ?_) AllReadyIn.nil
        refine if_wanted rfl ?_
        refine oper_append (.tmp 13) (.tmp 20) 34 rfl rfl rfl hrun ?_
        refine hK _ _ ?_
        clear hK K
        refine wpAnyIn_ready (rs := [9]) (by kernel_rfl) (by simp) ?_
        refine AllReadyIn.cons rfl (fun K hK => ?_) AllReadyIn.nil
        go_simp
        refine hK _ _ ?_
        clear hK K
        refine wpAnyIn_done (by kernel_rfl) ?_ _
        exact fin
      · go_simp
        refine hK _ _ ?_
        clear hK K
        refine wpAnyIn_ready (rs := [0]) (by kernel_rfl) (by simp) ?_
        refine AllReadyIn.cons rfl (fun K hK => ?_) AllReadyIn.nil
        go_simp
        refine hK _ _ ?_
        clear hK K
        refine wpAnyIn_ready (rs := [8]) (by kernel_rfl) (by simp) ?_
        refine AllReadyIn.cons rfl (fun K hK => ?_) AllReadyIn.nil
        refine if_wanted rfl ?_
        refine oper_append (.tmp 13) (.tmp 20) 34 rfl rfl rfl hrun ?_
        refine hK _ _ ?_
        clear hK K
        refine wpAnyIn_ready (rs := [9]) (by kernel_rfl) (by simp) ?_
        refine AllReadyIn.cons rfl (fun K hK => ?_) AllReadyIn.nil
        go_simp
        refine hK _ _ ?_
        clear hK K
        refine wpAnyIn_done (by kernel_rfl) ?_ _
        exact fin
  case stop =>
    rintro D c pre W _ _ h _
    exact h.elim
  case done =>
    rintro D ys W hD hys ⟨⟨⟨v, hv, hrow⟩, h1, h3⟩, hB⟩ hK
    have hc := hv.cell
    gi_wp2
    refine ⟨by simp, .inl ⟨_, _, rfl, run_takeDeferred hK, ?_⟩⟩
    exact ⟨_, results_tmp rfl _ _ _, v, ys, rfl, hys, (part_own hrow (grownBy_putObj' _ D (.deferred none)) (fun r e => by cases e; exact ⟨_, hK, rfl⟩)).weaken (by omega), hB.trans (belowK_b (w := w) (Nat.le_refl _) W D _ _ (by omega) hK rfl rfl)⟩
end Go.Proofs.Ytboefcnghngoaaa
