/- path.Clean, Under. -/
import Derived.RangeFuncNested
import Derived.RangeFuncBound
import Derived.RangeFuncCalls
import Derived.RangeFuncLeaves
import Derived.RangeFuncBox
import Derived.Shelf.Abstract
import Derived.Shelf.RegionOpen
import Derived.WalkKit
import Derived.OwnWalkIn
import Derived.TacticsInMore
import Derived.LoopNIn
import Derived.LoopIn
import Derived.Maps.AppendAt
import Derived.Test.YtboefcnghngoaaaPart
import Derived.Outline
import Derived.Deep.QuietTactic
import Derived.BigQuiet
import Derived.WalkSpells
import Derived.Deep.DeepFit
import Derived.Lib.Hide
import Derived.Lib.IndexBytes
import Derived.Test.YtboefcnghngoaaaShelf
import Derived.Test.YtboefcnghngoaaaSpec
import Derived.Test.YtboefcnghngoaaaB
namespace Go.Proofs.Ytboefcnghngoaaa
open Go.RowKit Go.Shelf Go.Lib Sp
attribute [local go_sem] Oper.semAt_some

theorem cut2_le (l : List UInt8) : (cut2 l).length ≤ l.length := by
  unfold cut2
  exact Nat.le_trans (Lib.trimSuffix_le _ _) (Lib.trimPrefix_le _ _)

set_option maxHeartbeats 1000000 in
/-- path.Clean. -/
theorem clean_calls (s : ByteArray) (hs : s.size ≤ 4611686018427387903) (w : World) : Calls Try.prog 10 #[.string s] w fun e w' => e = .returned (.tuple #[.string ⟨(cleanL s.data.toList).1.toArray⟩, .int .i64 (cleanL s.data.toList).2]) ∧ Below w.heap.size w w' := by
  obtain ⟨R, hR⟩ : ∃ R, cleanL s.data.toList = R := ⟨_, rfl⟩
  rw [hR]
  unfold cleanL at hR
  rw [← toList_data] at hR
  by_cases h1 : s.toList = [46]
  · rw [if_pos (.inl h1)] at hR
    subst hR
    go_enter Try.func10, Try.ntmps10
    go_wp2
    go_ret2
    exact ⟨rfl, Below.refl _ _⟩
  by_cases h2 : s.toList = [46, 47]
  · rw [if_pos (.inr h2)] at hR
    subst hR
    have b1 : (s.toList == [46]) = false := by simp [h2]
    go_enter Try.func10, Try.ntmps10
    go_wp2
    go_ret2
    exact ⟨rfl, Below.refl _ _⟩
  rw [if_neg (by simp [h1, h2])] at hR
  have b1 : (s.toList == [46]) = false := by simpa using h1
  have b2 : (s.toList == [46, 47]) = false := by simpa using h2
  clear h1 h2
  obtain ⟨t1, ht1⟩ : ∃ t1 : ByteArray, t1 = ⟨(trimPrefix s.data.toList [46, 47]).toArray⟩ := ⟨_, rfl⟩
  obtain ⟨t2, ht2⟩ : ∃ t2 : ByteArray, t2 = ⟨(cut2 s.data.toList).toArray⟩ := ⟨_, rfl⟩
  have hP : ∀ W, Calls Try.prog 29 #[.string s, .string ⟨#[46, 47]⟩] W fun e w' => e = .returned (.string t1) ∧ W = w' := fun W => by
    rw [ht1]
    exact (Try.strings_TrimPrefix s ⟨#[46, 47]⟩ W).mono fun e w' ⟨a, b⟩ => ⟨a, b.symm⟩
  have hS : ∀ W, Calls Try.prog 28 #[.string t1, .string ⟨#[47]⟩] W fun e w' => e = .returned (.string t2) ∧ W = w' := fun W => by
    rw [ht1, ht2]
    refine (Try.strings_TrimSuffix ⟨(trimPrefix s.data.toList [46, 47]).toArray⟩ ⟨#[47]⟩ W ?_).mono fun e w' ⟨a, b⟩ => ⟨a, b.symm⟩
    rw [Lib.size_eq]
    have := Lib.trimPrefix_le s.data.toList [46, 47]
    have := Lib.size_eq s
    simp; omega
  have hl2 : t2.data.toList = cut2 s.data.toList := by rw [ht2]
  have hs2 : t2.size ≤ 4611686018427387903 := by
    rw [Lib.size_eq, hl2]
    have := cut2_le s.data.toList
    have := Lib.size_eq s
    omega
  rw [toList_data, ← hl2] at hR
  have hr2 : (⟨t2.data.toList.toArray⟩ : ByteArray) = t2 := rfl
  clear hl2 ht1 ht2
  have hK := fun W => check_calls t2 hs2 W
  by_cases h3 : t2.data.toList = []
  · rw [if_pos (.inl h3)] at hR
    subst hR
    have b3 : t2.toList = [] := by rw [toList_data]; exact h3
    clear h3 hr2 hK hs2
    go_enter Try.func10, Try.ntmps10
    go_wp2_with (first | (go_at_call 29; refine (hP _).mono ?_; rintro e w' ⟨rfl, rfl⟩) | (go_at_call 28; refine (hS _).mono ?_; rintro e w' ⟨rfl, rfl⟩))
    go_ret2
    exact ⟨rfl, Below.refl _ _⟩
  have b3 : t2.toList.isEmpty = false := by
    rw [toList_data]; cases h : t2.data.toList with | nil => exact absurd h h3 | cons => rfl
  cases h4 : isPath t2.data.toList with
  | false =>
    rw [if_pos (.inr h4)] at hR
    subst hR
    simp only [h4] at hK
    clear h3 h4 hr2 hs2
    go_enter Try.func10, Try.ntmps10
    go_wp2_with (first | (go_at_call 29; refine (hP _).mono ?_; rintro e w' ⟨rfl, rfl⟩) | (go_at_call 28; refine (hS _).mono ?_; rintro e w' ⟨rfl, rfl⟩) | (go_at_call 12; refine (hK _).mono ?_; rintro e w' ⟨rfl, hb⟩))
    go_ret2
    exact ⟨rfl, hb⟩
  | true =>
    rw [if_neg (by simp [h3, h4])] at hR
    subst hR
    simp only [h4] at hK
    clear h3 h4 hs2
    have HR2 := Lib.hid hr2; clear hr2
    go_enter Try.func10, Try.ntmps10
    go_wp2_with (first | (go_at_call 29; refine (hP _).mono ?_; rintro e w' ⟨rfl, rfl⟩) | (go_at_call 28; refine (hS _).mono ?_; rintro e w' ⟨rfl, rfl⟩) | (go_at_call 12; refine (hK _).mono ?_; rintro e w' ⟨rfl, hb⟩))
    go_ret2
    exact ⟨rfl, hb⟩

set_option maxHeartbeats 1000000 in
/-- path.Under. -/
theorem under_calls (p d : ByteArray) (w : World) : Calls Try.prog 17 #[.string p, .string d] w fun e w' => e = .returned (.bool (underL p.data.toList d.data.toList)) ∧ Below w.heap.size w w' := by
  obtain ⟨R, hR⟩ : ∃ R, underL p.data.toList d.data.toList = R := ⟨_, rfl⟩
  rw [hR]
  unfold underL at hR
  obtain ⟨t, ht⟩ : ∃ t : ByteArray, t = ⟨(trimPrefix p.data.toList d.data.toList).toArray⟩ := ⟨_, rfl⟩
  obtain ⟨B, hB⟩ : ∃ B, hasPrefix p.data.toList d.data.toList = B := ⟨_, rfl⟩
  have hC : ∀ W, Calls Try.prog 37 #[.string p, .string d] W fun e w' => e = .returned (.tuple #[.string t, .bool B]) ∧ W = w' := fun W => by
    rw [ht, ← hB]
    exact (Try.strings_CutPrefix p d W).mono fun e w' ⟨a, b⟩ => ⟨a, b.symm⟩
  have e2 : trimPrefix p.data.toList d.data.toList = t.toList := by rw [toList_data, ht]
  rw [hB, e2, ← toList_data d] at hR
  clear hB ht e2
  cases B with
  | false =>
    simp only [Bool.false_and] at hR
    subst hR
    go_enter Try.func17, Try.ntmps17
    go_wp2_with (go_at_call 37; refine (hC _).mono ?_; rintro e w' ⟨rfl, rfl⟩)
    go_ret
    exact ⟨rfl, Below.refl _ _⟩
  | true =>
    simp only [Bool.true_and] at hR
    cases h1 : d.toList.isEmpty with
    | true =>
      rw [h1, Bool.true_or, Bool.true_or] at hR
      subst hR
      go_enter Try.func17, Try.ntmps17
      go_wp2_with (go_at_call 37; refine (hC _).mono ?_; rintro e w' ⟨rfl, rfl⟩)
      go_ret
      exact ⟨rfl, Below.refl _ _⟩
    | false =>
      cases h2 : t.toList.isEmpty with
      | true =>
        rw [h1, h2, Bool.or_true, Bool.true_or] at hR
        subst hR
        go_enter Try.func17, Try.ntmps17
        go_wp2_with (go_at_call 37; refine (hC _).mono ?_; rintro e w' ⟨rfl, rfl⟩)
        go_ret
        exact ⟨rfl, Below.refl _ _⟩
      | false =>
        have h0 : 0 < t.size := by
          rw [Lib.size_eq, ← toList_data]
          cases h : t.toList with | nil => simp [h] at h2 | cons => simp
        have e3 : (t.toList.head? == some 47) = ((t[0].toNat : Int) == 47) := by
          rw [toList_data, List.head?_eq_getElem?, data_getElem? t 0 h0, Bool.eq_iff_iff]
          simp
          constructor
          · intro h; rw [h]; rfl
          · intro h; exact UInt8.toNat_inj.1 (by show _ = 47; omega)
        rw [h1, h2, Bool.or_false, Bool.false_or, e3] at hR
        have HR := Lib.hid hR; clear hR e3
        go_enter Try.func17, Try.ntmps17
        go_wp2_with (go_at_call 37; refine (hC _).mono ?_; rintro e w' ⟨rfl, rfl⟩)
        all_goals go_ret
        all_goals rw [← HR.out]
        all_goals exact ⟨rfl, Below.refl _ _⟩
end Go.Proofs.Ytboefcnghngoaaa
