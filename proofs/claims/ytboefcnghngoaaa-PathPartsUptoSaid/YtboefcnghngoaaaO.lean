/- path.All, told as a list of texts; the law PathParts. -/
import Derived.RangeFuncNested
import Derived.RangeFuncBound
import Derived.RangeFuncCalls
import Derived.RangeFuncLeaves
import Derived.RangeFuncBox
import Derived.Shelf.Abstract
import Derived.Shelf.RegionOpen
import Derived.WalkKit
import Derived.OwnWalkIn
import Derived.TacticsInMore
import Derived.LoopNIn
import Derived.LoopIn
import Derived.Maps.AppendAt
import Derived.Test.YtboefcnghngoaaaPart
import Derived.Outline
import Derived.Deep.QuietTactic
import Derived.BigQuiet
import Derived.WalkSpells
import Derived.Deep.DeepFit
import Derived.Lib.Hide
import Derived.Lib.IndexBytes
import Derived.Test.YtboefcnghngoaaaShelf
import Derived.Test.YtboefcnghngoaaaSpec
import Derived.Test.YtboefcnghngoaaaH
import Derived.Test.YtboefcnghngoaaaRefs2
namespace Go.Proofs.Ytboefcnghngoaaa
open Go.RowKit Go.Shelf Go.Lib Sp Go.Proofs.YtboefcnghngoaaaW.PrintWords
attribute [local go_sem] Oper.semAt_some

set_option maxRecDepth 100000 in
set_option maxHeartbeats 2000000 in
/-- path.All of an empty text. -/
theorem all_none (s : ByteArray) (he : s.toList.isEmpty = true) (w : World) :
    Calls Try.prog 26 #[.string s] w fun e w' => e = .returned (.slice none 0 0) ∧ Below w.heap.size w w' := by
  refine (callsIn_wide (n := 3)).1 ?_
  refine callsIn_of_wp_marks Try.func26 rfl trivial ?_ rfl
  simp only [Try.ntmps26, List.size_toArray, List.length_cons, List.length_nil, Nat.reduceAdd, Nat.reduceSub, Array.replicate_succ, Array.replicate_zero, List.push_toArray, List.append_toArray, List.nil_append, List.cons_append]
  gi_wp2
  refine ⟨.slice none 0 0, ?_, rfl, ((Below.refl _ w).alloc (Nat.le_refl _) _).alloc (by simp) _⟩
  simp [results, Try.f26, go_sem]

theorem part_C {W : World} {base : Nat} {v : Value} {l : List ByteArray} (h : ownsPart W base 9 1 v l.length (strsOf l)) :
    ∃ A c, v = .slice A l.length c ∧ l.length ≤ c ∧ Kd.C Kd.string W A l.length l := by
  rcases Nat.eq_zero_or_pos l.length with h0 | h0
  · rcases h.2 with ⟨rfl, -⟩ | ⟨g, cap, cur, rfl, -, -, h1, h2, -⟩
    · exact ⟨none, 0, by rw [h0], by omega, Kd.C_of_reads (d := ByteArray.empty) ⟨rfl, by omega, fun hp => by omega⟩⟩
    · exact ⟨_, cap, rfl, h1, Kd.C_of_reads (d := ByteArray.empty) ⟨rfl, by unfold maxLen at h2; omega, fun hp => by omega⟩⟩
  · rcases h.2 with ⟨rfl, h1⟩ | ⟨g, cap, cur, rfl, -, -, h1, h2, -⟩
    · omega
    · refine ⟨_, cap, rfl, h1, Kd.C_of_reads (d := ByteArray.empty) ⟨rfl, by unfold maxLen at h2; omega, fun _ => ⟨_, rfl, fun j hj => ?_⟩⟩⟩
      refine h.cells (g := g) rfl j _ ?_
      simp [strsOf, List.getD_eq_getElem?_getD, hj]

/-- path.All, of any text: the list that the reference's is. -/
theorem all_at (s : ByteArray) (hs : s.size < 1099511627776) : ∃ l : List ByteArray, l.length ≤ 1099511627777 ∧ Ev (fun k => PAll.sutlerref14_All.f k s) l ∧
    ∀ W, Calls Try.prog 26 #[.string s] W fun e w' => ∃ A c, e = .returned (.slice A l.length c) ∧ l.length ≤ c ∧ Kd.C Kd.string w' A l.length l ∧ Below W.heap.size W w' := by
  obtain ⟨R, h1, h2⟩ := rall_f s (by omega)
  have hsz := Lib.size_eq s
  by_cases h0 : s.data.toList = []
  · rw [if_pos h0] at h2
    have hR : R = [] := by simpa using h2
    subst hR
    refine ⟨[], by simp, h1, fun W => (all_none s (by rw [toList_data, h0]; rfl) W).mono ?_⟩
    rintro e w' ⟨rfl, hb⟩
    exact ⟨none, 0, rfl, by simp, Kd.C_of_reads (d := ByteArray.empty) ⟨rfl, by simp, fun hp => by simp at hp⟩, hb⟩
  · rw [if_neg h0] at h2
    have hl : R.length = (spans 0 s.data.toList).length := by rw [← List.length_map (f := fun x : ByteArray => x.data.toList), h2, List.length_map]
    have hl2 : (spans 0 s.data.toList).length ≤ s.data.toList.length + 1 := by
      have a1 := length_wt (texts s.data.toList); rw [wt_texts] at a1
      rw [← texts_spans, List.length_map] at a1; exact a1
    refine ⟨R, by omega, h1, fun W => (all_calls s (by omega) (by rw [toList_data]; cases h : s.data.toList with | nil => exact absurd h h0 | cons => rfl) W).mono ?_⟩
    rintro e w' ⟨v, ys, rfl, hys, hrow, hb⟩
    have hu : ups s ys = R := by
      refine list_eq ?_
      rw [h2, ← hys]
      unfold ups
      simp only [List.map_map]
      refine List.map_congr_left fun x _ => ?_
      show (s.extract 0 x.1.2).data.toList = _
      rw [extract_data]; rfl
    have hyl : ys.length = R.length := by rw [← hu]; simp [ups]
    rw [hu, hyl] at hrow
    obtain ⟨A, c, rfl, hc, hC⟩ := part_C hrow
    exact ⟨A, c, rfl, hc, hC, hb⟩
end Go.Proofs.Ytboefcnghngoaaa
