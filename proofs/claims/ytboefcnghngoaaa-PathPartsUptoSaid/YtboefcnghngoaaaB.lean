/- path.Check and what stands on it. -/
import Derived.RangeFuncNested
import Derived.RangeFuncBound
import Derived.RangeFuncCalls
import Derived.RangeFuncLeaves
import Derived.RangeFuncBox
import Derived.Shelf.Abstract
import Derived.Shelf.RegionOpen
import Derived.WalkKit
import Derived.OwnWalkIn
import Derived.TacticsInMore
import Derived.LoopNIn
import Derived.LoopIn
import Derived.Maps.AppendAt
import Derived.Test.YtboefcnghngoaaaPart
import Derived.Outline
import Derived.Deep.QuietTactic
import Derived.BigQuiet
import Derived.WalkSpells
import Derived.Deep.DeepFit
import Derived.Lib.Hide
import Derived.Lib.IndexBytes
import Derived.Test.YtboefcnghngoaaaShelf
import Derived.Test.YtboefcnghngoaaaSpec
import Derived.Test.YtboefcnghngoaaaA
namespace Go.Proofs.Ytboefcnghngoaaa
open Go.RowKit Go.Shelf Go.Lib Sp
attribute [local go_sem] Oper.semAt_some

def seg (s : ByteArray) (x : Span s) : List UInt8 := (s.data.toList.drop x.1.1).take (x.1.2 - x.1.1)
theorem seg_texts (s : ByteArray) (ys : List (Span s)) (h : ys.map (·.1) = spans 0 s.data.toList) : ys.map (seg s) = texts s.data.toList := by
  rw [← texts_spans, ← h, List.map_map]; rfl
theorem seg_prefix (s : ByteArray) (ys : List (Span s)) (h : ys.map (·.1) <+: spans 0 s.data.toList) : ys.map (seg s) <+: texts s.data.toList := by
  rw [← texts_spans]
  have := List.IsPrefix.map (fun x : Nat × Nat => (s.data.toList.drop x.1).take (x.2 - x.1)) h
  rw [List.map_map] at this
  exact this

/-- The function value stops as the iterator does. -/
theorem parts_stops (s : ByteArray) (hs : s.size ≤ 4611686018427387903) (n : Nat) (hn : 1 ≤ n) (Bn : Nat) (w : World) (hBn : Boxed w Bn 9 (.string s)) :
    SeqStopsK Fence.wide n Try.prog 42 #[.pointer (some ⟨Bn, 0, none⟩)] (encSpan s) (KeepB Bn)
      (fun ys => ys.map (·.1) = spans 0 s.data.toList) (fun pre => pre.map (·.1) <+: spans 0 s.data.toList) (parts 0 s.data.toList).length w := fun l J Jx W hW _ _ hY h0 =>
  parts1_in s hs n hn l Bn J Jx hY W ((hW.block Bn hBn.lt).trans hBn) h0

theorem boxed_below {w W : World} {B : Nat} {t : TypeId} {v : Value} (h : Boxed w B t v) (hb : Below w.heap.size w W) : Boxed W B t v := (hb.block B h.lt).trans h

theorem boxed_own {A B : World} {row : Option Nat} {b : Nat} {t : TypeId} {v : Value} (h : Boxed A b t v) (hg : A.grownBy B row) (hr : ∀ r, row = some r → ∃ o : Obj, A.heap[r]? = some o ∧ o.isCells = false) : Boxed B b t v :=
  h.kept hg (fun e => by obtain ⟨o, ho, hc⟩ := hr _ e.symm; rw [show A.heap[b]? = _ from h] at ho; cases ho; cases hc)

set_option maxRecDepth 100000 in
set_option maxHeartbeats 2000000 in
/-- path.Check. -/
theorem check_calls (s : ByteArray) (hs : s.size ≤ 4611686018427387903) (w : World) : Calls Try.prog 12 #[.string s] w fun e w' => e = .returned (.int .i64 (if isPath s.data.toList then 0 else 140)) ∧ Below w.heap.size w w' := by
  obtain ⟨R, hR⟩ : ∃ R : Int, (if isPath s.data.toList then 0 else 140) = R := ⟨_, rfl⟩
  rw [hR]
  have hsz := Lib.size_eq s
  by_cases h200 : s.size ≤ 200
  · by_cases hne : s.toList = []
    · have hR0 : R = 0 := by rw [← hR, isPath]; rw [toList_data] at hne; simp [hne]
      have b0 : decide ((200 : Int) < (s.size : Int)) = false := decide_eq_false (by omega)
      have b1 : s.toList.isEmpty = true := by simp [hne]
      subst hR0
      clear hR hsz hne
      refine (callsIn_wide (n := 3)).1 ?_
      refine callsIn_of_wp_marks Try.func12 rfl trivial ?_ rfl
      simp only [Try.ntmps12, List.size_toArray, List.length_cons, List.length_nil, Nat.reduceAdd, Nat.reduceSub, Array.replicate_succ, Array.replicate_zero, List.push_toArray, List.append_toArray, List.nil_append, List.cons_append]
      gi_wp2
      refine ⟨.int .i64 0, ?_, rfl, (Below.refl _ w).alloc (Nat.le_refl _) _⟩
      simp [results, Try.f12, go_sem]
    · have hR1 : R = if (texts s.data.toList).all isName then 0 else 140 := by
        rw [← hR, isPath]; rw [toList_data] at hne
        have e1 : decide (s.data.toList.length ≤ 200) = true := by rw [← hsz]; exact decide_eq_true h200
        have e2 : s.data.toList.isEmpty = false := by cases h : s.data.toList with | nil => exact absurd h hne | cons => rfl
        rw [e1, e2]; simp
      have HR1 := Lib.hid hR1; clear hR1 hR hsz
      have b0 : decide ((200 : Int) < (s.size : Int)) = false := decide_eq_false (by omega)
      have b1 : s.toList.isEmpty = false := by cases h : s.toList with | nil => exact absurd h hne | cons => rfl
      refine (callsIn_wide (n := 3)).1 ?_
      refine callsIn_of_wp_marks Try.func12 rfl trivial ?_ rfl
      simp only [Try.ntmps12, List.size_toArray, List.length_cons, List.length_nil, Nat.reduceAdd, Nat.reduceSub, Array.replicate_succ, Array.replicate_zero, List.push_toArray, List.append_toArray, List.nil_append, List.cons_append]
      gi_wp2_with (refine ⟨trivial, ?_⟩; gi_at_call 32; refine (parts_in s _ _).mono ?_; rintro e w' ⟨rfl, rfl⟩)
      have bR := Boxed.new w 22 (.int .i64 0)
      have bS := Boxed.new (w.alloc (.cells #[.int .i64 0] 22)) 9 (.string s)
      rw [World.size_alloc] at bS
      have hB0 : Below w.heap.size w ((w.alloc (.cells #[.int .i64 0] 22)).alloc (.cells #[.string s] 9)) := ((Below.refl _ w).alloc (Nat.le_refl _) _).alloc (by simp) _
      refine wpIn_rangeFunc_ownF (n := 3) rfl (by decide) (gf := 42) (lb := #[.pointer (some ⟨w.heap.size + 1, 0, none⟩)]) rfl trivial (enters_of Try.func42 (by kernel_rfl) rfl)
        (parts_stops s hs 2 (by omega) (w.heap.size + 1) _ bS) KeepB.trans (KeepB.put (by simp)) (Below.refl _ _) (fun _ => rfl)
        (fun pre W => ((pre.map (seg s)).all isName = true ∧ Boxed W w.heap.size 22 (.int .i64 0) ∧ Boxed W (w.heap.size + 1) 9 (.string s)) ∧ Below w.heap.size w W)
        (fun c pre W => (c = .ret ∧ (pre.map (seg s)).all isName = false ∧ Boxed W w.heap.size 22 (.int .i64 140)) ∧ Below w.heap.size w W)
        (OwnFrom.and (Own.from (fun s A B row hs hg hr => ⟨hs.1, boxed_own hs.2.1 hg hr, boxed_own hs.2.2 hg hr⟩) _) (ownFrom_below (Nat.le_refl _) (by simp; omega)))
        (fun c => OwnFrom.and (Own.from (fun s A B row hs hg hr => ⟨hs.1, hs.2.1, boxed_own hs.2.2 hg hr⟩) _) (ownFrom_below (Nat.le_refl _) (by simp; omega)))
        ⟨⟨by simp, bR.alloc _, bS⟩, hB0⟩
        (fun x => { tmps := #[.string s, undef, .pointer (some ⟨w.heap.size, 0, none⟩), undef, .string (s.extract x.1.1 x.1.2), .bool false, .string s, .int .i64 s.size, .bool false, .bool false, .string s, .bool false, .string s, .func (.func 42) #[] #[.pointer (some ⟨w.heap.size + 1, 0, none⟩)], .int .i64 (x.1.1 : Int), .string (s.extract x.1.1 x.1.2), undef, undef, undef], defers := [] }) ?assign ?body ?done ?stop
      case assign =>
        intro l x W K hK
        dsimp only [encSpan]
        gi_wp2
        exact hK
      case body =>
        rintro l pre x W ⟨⟨hp, hb, hbs⟩, hB⟩ _
        have hc := hb.cell
        have hf := hb.frozen
        have hx : (s.extract x.1.1 x.1.2).data.toList = seg s x := Lib.extract_data _ _ _
        obtain ⟨N, hN⟩ : ∃ N, isName (seg s x) = N := ⟨_, rfl⟩
        have hN' : ∀ W, Calls Try.prog 33 #[.string (s.extract x.1.1 x.1.2)] W fun e w' => e = .returned (.bool N) ∧ Below W.heap.size W w' := fun W => by
          have := named_calls (s.extract x.1.1 x.1.2) W
          rwa [hx, hN] at this
        have HN := Lib.hid hN; clear hN hx
        have hlt := hb.lt
        cases N with
        | true =>
          gi_wp2_with (refine ⟨trivial, ?_⟩; gi_at_call 33; refine (CallsIn.inRound l (callsIn_wide.2 (hN' _))).mono ?_; rintro e w' ⟨rfl, hb'⟩)
          exact ⟨others_below hb', KeepB.of_below hb' hbs.lt, ⟨by rw [List.map_append, List.all_append, hp]; simp [HN.out], boxed_below hb hb', boxed_below hbs hb'⟩, hB.trans (hb'.mono hB.size)⟩
        | false =>
          gi_wp2_with (refine ⟨trivial, ?_⟩; gi_at_call 33; refine (CallsIn.inRound l (callsIn_wide.2 (hN' _))).mono ?_; rintro e w' ⟨rfl, hb'⟩; have hb1 := boxed_below hb hb'; have hc1 := hb1.cell; have hf1 := hb1.frozen)
          exact ⟨(others_below hb').trans (KeepsOthers.setCell _ _ _), ⟨rfl, by rw [List.map_append, List.all_append]; simp [HN.out], hb1.set _⟩, (hB.trans (hb'.mono hB.size)).setCell (p := ⟨w.heap.size, 0, none⟩) (Nat.le_refl _) _⟩
      case done =>
        rintro D ys W hD hys ⟨⟨hall, hb, _⟩, hB⟩ hK
        have hc := hb.cell
        have hf := hb.frozen
        have hR2 : R = 0 := by rw [HR1.out, ← seg_texts s ys hys, if_pos hall]
        subst hR2
        gi_wp2
        have hK' := (KeepsOthers.setCell W ⟨w.heap.size, 0, none⟩ (.int .i64 0)).same D _ hK rfl
        refine ⟨by simp, .inl ⟨_, _, rfl, run_takeDeferred hK', ?_⟩⟩
        have hb2 := hb.set (.int .i64 0)
        have hc5 := cell_kept hb2.cell (grownBy_putObj' _ D (.deferred none)) (fun r e => by cases e; exact ⟨_, hK', rfl⟩)
        refine ⟨.int .i64 0, ?_, rfl, (hB.setCell (p := ⟨w.heap.size, 0, none⟩) (Nat.le_refl _) _).trans (belowK_b (w := w) (Nat.le_refl _) _ D _ _ (by simp at hD; omega) hK' rfl rfl)⟩
        simp [results, Try.f12, go_sem, hc5]
      case stop =>
        rintro D c pre W hD hpre ⟨⟨rfl, hall, hb⟩, hB⟩ hK
        have hR2 : R = 140 := by
          rw [HR1.out, if_neg]
          intro ht
          have := seg_prefix s pre hpre
          rw [List.all_eq_true] at ht
          have h2 : (pre.map (seg s)).all isName = true := List.all_eq_true.2 fun x hx => ht x (this.subset hx)
          rw [hall] at h2; cases h2
        subst hR2
        gi_wp2
        refine ⟨by simp, .inl ⟨_, _, rfl, run_takeDeferred hK, ?_⟩⟩
        have hc5 := cell_kept hb.cell (grownBy_putObj' _ D (.deferred none)) (fun r e => by cases e; exact ⟨_, hK, rfl⟩)
        refine ⟨.int .i64 140, ?_, rfl, hB.trans (belowK_b (w := w) (Nat.le_refl _) W D _ _ (by simp at hD; omega) hK rfl rfl)⟩
        simp [results, Try.f12, go_sem, hc5]
  · have hR0 : R = 140 := by
      rw [← hR, isPath]
      have e1 : decide (s.data.toList.length ≤ 200) = false := by rw [← hsz]; exact decide_eq_false h200
      rw [e1]; simp
    have b0 : decide ((200 : Int) < (s.size : Int)) = true := decide_eq_true (by omega)
    subst hR0
    clear hR hsz
    refine (callsIn_wide (n := 3)).1 ?_
    refine callsIn_of_wp_marks Try.func12 rfl trivial ?_ rfl
    simp only [Try.ntmps12, List.size_toArray, List.length_cons, List.length_nil, Nat.reduceAdd, Nat.reduceSub, Array.replicate_succ, Array.replicate_zero, List.push_toArray, List.append_toArray, List.nil_append, List.cons_append]
    gi_wp2
    refine ⟨.int .i64 140, ?_, rfl, (Below.refl _ w).alloc (Nat.le_refl _) _⟩
    simp [results, Try.f12, go_sem]
end Go.Proofs.Ytboefcnghngoaaa
