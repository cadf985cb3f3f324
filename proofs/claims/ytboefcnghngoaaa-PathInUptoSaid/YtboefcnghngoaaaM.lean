/- The law PathIn. -/
import Derived.RangeFuncNested
import Derived.RangeFuncBound
import Derived.RangeFuncCalls
import Derived.RangeFuncLeaves
import Derived.RangeFuncBox
import Derived.Shelf.Abstract
import Derived.Shelf.RegionOpen
import Derived.WalkKit
import Derived.OwnWalkIn
import Derived.TacticsInMore
import Derived.LoopNIn
import Derived.LoopIn
import Derived.Maps.AppendAt
import Derived.Test.YtboefcnghngoaaaPart
import Derived.Outline
import Derived.Deep.QuietTactic
import Derived.BigQuiet
import Derived.WalkSpells
import Derived.Deep.DeepFit
import Derived.Lib.Hide
import Derived.Lib.IndexBytes
import Derived.Test.YtboefcnghngoaaaShelf
import Derived.Test.YtboefcnghngoaaaSpec
import Derived.Test.YtboefcnghngoaaaE
import Derived.Test.YtboefcnghngoaaaRefs
import Derived.Test.YtboefcnghngoaaaK
namespace Go.Proofs.Ytboefcnghngoaaa
open Go.RowKit Go.Shelf Go.Lib Sp Go.Proofs.YtboefcnghngoaaaW.PrintWords
attribute [local go_sem] Oper.semAt_some

theorem names_step {way w : List (List UInt8)} {x : List UInt8} (hN : Names way) (h : stepWay way x = some w) : Names w := by
  unfold stepWay at h
  split at h
  · cases h; exact hN
  split at h
  · cases h; exact fun y hy => hN y (List.dropLast_subset _ hy)
  split at h
  · rename_i hn
    cases h
    intro y hy
    rcases List.mem_append.1 hy with hy | hy
    · exact hN y hy
    · rw [List.mem_singleton] at hy; rw [hy]; exact hn
  · cases h
theorem names_walk : ∀ {xs way w : List (List UInt8)}, Names way → walkWay way xs = some w → Names w
  | [], way, w, hN, h => by cases h; exact hN
  | x :: r, way, w, hN, h => by
    simp only [walkWay] at h
    cases hs : stepWay way x with
    | none => rw [hs] at h; cases h
    | some w' =>
      rw [hs] at h
      exact names_walk (xs := r) (names_step hN hs) h
theorem walk_names : ∀ {xs way : List (List UInt8)}, Names xs → walkWay way xs = some (way ++ xs)
  | [], way, _ => by simp [walkWay]
  | x :: r, way, hN => by
    have hx := hN x (by simp)
    have h1 : ¬(x = [] ∨ x = [46]) := by rintro (rfl | rfl) <;> revert hx <;> decide
    have h2 : ¬(x = [46, 46] ∧ way ≠ []) := by rintro ⟨rfl, -⟩; revert hx; decide
    simp only [walkWay, stepWay, if_neg h1, if_neg h2, hx, if_true, Option.bind_some]
    rw [walk_names (xs := r) fun y hy => hN y (by simp [hy])]
    simp
theorem path_jn {way : List (List UInt8)} (hN : Names way) (hl : (jn way).length ≤ 200) : isPath (jn way) = true := by
  by_cases h0 : way = []
  · subst h0; rfl
  · unfold isPath
    rw [texts_jn way h0 fun x hx => name_no (hN x hx)]
    have : way.all isName = true := List.all_eq_true.2 hN
    rw [this, decide_eq_true hl]; simp

theorem target_in (a t : List UInt8) : (targetL a t).2 = 0 ∧ isPath (targetL a t).1 = true ∧ targetL a (47 :: (targetL a t).1) = ((targetL a t).1, 0) ∨ targetL a t = ([], 140) := by
  by_cases h : a = [] ∨ t = [] ∨ isPath a = false
  · right; unfold targetL; rw [if_pos h]
  have h1 : a ≠ [] := fun e => h (.inl e)
  have h2 : isPath a = true := by have : ¬ isPath a = false := fun e => h (.inr (.inr e)); simpa using this
  have hS : Names (startWay a t) := by
    unfold startWay
    split
    · intro x hx; cases hx
    · exact fun y hy => names_of_path h1 h2 y (List.dropLast_subset _ hy)
  cases hw : walkWay (startWay a t) (texts t) with
  | none => right; unfold targetL; rw [if_neg h]; simp only [hw]
  | some way =>
    have hN := names_walk hS hw
    by_cases hl : 200 < (jn way).length
    · right; unfold targetL; rw [if_neg h]; simp only [hw]; rw [if_pos hl]
    · left
      have e : targetL a t = (jn way, 0) := by unfold targetL; rw [if_neg h]; simp only [hw]; rw [if_neg hl]
      rw [e]
      refine ⟨rfl, path_jn hN (by omega), ?_⟩
      unfold targetL
      rw [if_neg (by simp [h1, h2])]
      have hst : startWay a (47 :: jn way) = [] := by unfold startWay; exact if_pos rfl
      have hwk : walkWay (startWay a (47 :: jn way)) (texts (47 :: jn way)) = some way := by
        rw [hst, texts_slash]
        by_cases h0 : way = []
        · subst h0; rfl
        · rw [texts_jn way h0 fun x hx => name_no (hN x hx)]
          show walkWay [] way = some way
          rw [walk_names hN, List.nil_append]
      simp only [hwk]
      rw [if_neg hl]

set_option maxRecDepth 100000 in
set_option maxHeartbeats 2000000 in
theorem in_calls (a b : ByteArray) (hs : a.size + b.size ≤ 1073741824) (w : World) : Calls Try.prog 6 #[.string a, .string b] w fun e w' => e = .returned (.bool true) ∧ Below w.heap.size w w' := by
  have HB : Below w.heap.size w w := Below.refl _ _
  have hT := target_in a.data.toList b.data.toList
  obtain ⟨t, ht⟩ : ∃ t : ByteArray, t = bs (targetL a.data.toList b.data.toList).1 := ⟨_, rfl⟩
  obtain ⟨n, hn⟩ : ∃ n, n = (targetL a.data.toList b.data.toList).2 := ⟨_, rfl⟩
  have c1 : ∀ W, Calls Try.prog 15 #[.string a, .string b] W fun e w' => e = .returned (.tuple #[.string t, .int .i64 n]) ∧ Below W.heap.size W w' := fun W => by rw [ht, hn]; exact target_calls a b (by omega) W
  have hw := fun W => works_calls W
  rcases hT with ⟨h1, h2, h3⟩ | h1
  · have e1 : n = 0 := hn.trans h1
    subst e1
    have htd : t.data.toList = (targetL a.data.toList b.data.toList).1 := by rw [ht]; rfl
    have htl : t.size ≤ 200 := by
      rw [← htd] at h2
      rw [Lib.size_eq]
      unfold isPath at h2
      simp at h2
      have := Lib.size_eq t
      omega
    rw [← htd] at h2 h3
    have c3 : ∀ W, Calls Try.prog 12 #[.string t] W fun e w' => e = .returned (.int .i64 0) ∧ Below W.heap.size W w' := fun W => by
      have := check_calls t (by omega) W
      rwa [if_pos h2] at this
    have hcat : (⟨#[47]⟩ : ByteArray) ++ t = bs (47 :: t.data.toList) := by rw [bs_append]; rfl
    have c2 : ∀ W, Calls Try.prog 15 #[.string a, .string (bs (47 :: t.data.toList))] W fun e w' => e = .returned (.tuple #[.string t, .int .i64 0]) ∧ Below W.heap.size W w' := fun W => by
      have := target_calls a (bs (47 :: t.data.toList)) (by rw [bs_size, List.length_cons, ← Lib.size_eq]; omega) W
      rw [bs_data, h3] at this
      exact this
    rw [← hcat] at c2
    have q1 : ¬ 9223372036854775807 < 1 + t.size := by omega
    clear ht hn hs h1 h2 h3 htd htl hcat
    go_enter Try.func6, Try.ntmps6
    go_wp2_with fail
    refine (hw _).mono ?_; rintro e w5 ⟨rfl, hb⟩; replace HB := bl_trans HB hb; clear hb
    go_wp2_with fail
    refine (c1 _).mono ?_; rintro e w1 ⟨rfl, hb⟩; replace HB := bl_trans HB hb; clear hb
    go_wp2_with fail
    refine (c2 _).mono ?_; rintro e w2 ⟨rfl, hb⟩; replace HB := bl_trans HB hb; clear hb
    go_wp2_with fail
    refine (c3 _).mono ?_; rintro e w3 ⟨rfl, hb⟩; replace HB := bl_trans HB hb; clear hb
    go_wp2
    go_ret
    exact ⟨rfl, HB⟩
  · rw [h1] at ht hn
    subst hn
    have et : t.toList.isEmpty = true := by rw [ht, toList_data]; rfl
    subst ht
    clear hs h1
    go_enter Try.func6, Try.ntmps6
    go_wp2_with fail
    refine (hw _).mono ?_; rintro e w5 ⟨rfl, hb⟩; replace HB := bl_trans HB hb; clear hb
    go_wp2_with fail
    refine (c1 _).mono ?_; rintro e w1 ⟨rfl, hb⟩; replace HB := bl_trans HB hb; clear hb
    go_wp2
    go_ret
    exact ⟨rfl, HB⟩
end Go.Proofs.Ytboefcnghngoaaa
