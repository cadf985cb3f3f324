/- The plain laws of paths: what is under what; what was cleaned is clean and stays. -/
import Derived.Test.YtboefcnghngoaaaSpec
namespace Go.Proofs.Ytboefcnghngoaaa.Sp
open Go Go.Lib

theorem under_iff (p d : List UInt8) : underL p d = true ↔ d = [] ∨ p = d ∨ ∃ x, p = d ++ 47 :: x := by
  unfold underL hasPrefix trimPrefix
  by_cases h : d.isPrefixOf p = true
  · obtain ⟨r, rfl⟩ := List.isPrefixOf_iff_prefix.1 h
    simp only [hasPrefix, h, if_true, Bool.true_and, List.drop_left, Bool.or_eq_true]
    constructor
    · rintro ((h | h) | h)
      · left; simpa using h
      · right; left; rw [List.isEmpty_iff] at h; rw [h, List.append_nil]
      · right; right
        cases r with
        | nil => simp at h
        | cons c r => simp at h; exact ⟨r, by rw [h]⟩
    · rintro (h | h | ⟨x, h⟩)
      · left; left; simp [h]
      · left; right; simp at h; simp [h]
      · right; have := List.append_cancel_left h; rw [this]; simp
  · simp only [h, Bool.false_and]
    constructor
    · intro h; cases h
    · rintro (h' | h' | ⟨x, h'⟩)
      · subst h'; simp at h
      · subst h'; exact absurd (List.isPrefixOf_iff_prefix.2 (List.prefix_refl _)) h
      · subst h'; exact absurd (List.isPrefixOf_iff_prefix.2 (List.prefix_append _ _)) h

theorem under_refl (p : List UInt8) : underL p p = true := (under_iff p p).2 (.inr (.inl rfl))
theorem under_nil (p : List UInt8) : underL p [] = true := (under_iff p []).2 (.inl rfl)
theorem under_trans {p q r : List UInt8} (h1 : underL p q = true) (h2 : underL q r = true) : underL p r = true := by
  rw [under_iff] at *
  rcases h2 with rfl | rfl | ⟨y, rfl⟩
  · exact .inl rfl
  · exact h1
  · rcases h1 with h | rfl | ⟨x, rfl⟩
    · simp at h
    · exact .inr (.inr ⟨y, rfl⟩)
    · exact .inr (.inr ⟨y ++ 47 :: x, by simp⟩)
theorem under_two {p q r : List UInt8} (h1 : underL p q = true) (h2 : underL p r = true) : underL q r = true ∨ underL r q = true := by
  rw [under_iff] at *
  rw [under_iff]
  have key : ∀ (q r x y : List UInt8), q ++ 47 :: x = r ++ 47 :: y → q.length ≤ r.length → r = q ∨ ∃ z, r = q ++ 47 :: z := by
    intro q r x y h hl
    obtain ⟨z, rfl⟩ : ∃ z, r = q ++ z := by
      have := List.prefix_of_prefix_length_le (List.prefix_append q (47 :: x)) (h ▸ List.prefix_append r (47 :: y)) hl
      exact ⟨_, this.choose_spec.symm⟩
    rw [List.append_assoc] at h
    have h' := List.append_cancel_left h
    cases z with
    | nil => left; simp
    | cons c z => right; rw [List.cons_append] at h'; cases h'; exact ⟨z, rfl⟩
  rcases h1 with rfl | rfl | ⟨x, rfl⟩
  · exact .inr (.inl rfl)
  · exact .inl h2
  · rcases h2 with rfl | h | ⟨y, h⟩
    · exact .inl (.inl rfl)
    · exact .inr (.inr (.inr ⟨x, h.symm⟩))
    · rcases Nat.le_total q.length r.length with hl | hl
      · rcases key q r x y h hl with rfl | ⟨z, rfl⟩
        · exact .inl (.inr (.inl rfl))
        · exact .inr (.inr (.inr ⟨z, rfl⟩))
      · rcases key r q y x h.symm hl with rfl | ⟨z, rfl⟩
        · exact .inl (.inr (.inl rfl))
        · exact .inl (.inr (.inr ⟨z, rfl⟩))

theorem parts_slash : ∀ (r : List UInt8) (o : Nat), ∃ q k, parts o (r ++ [47]) = q ++ [(k, [])] ∧ q ≠ []
  | [], o => ⟨[(o, [])], o + 1, by simp [parts], by simp⟩
  | c :: r, o => by
    obtain ⟨q, k, h, hq⟩ := parts_slash r (o + 1)
    rw [List.cons_append]
    unfold parts
    by_cases hc : c = 47
    · rw [if_pos hc, h]
      exact ⟨(o, []) :: q, k, by simp, by simp⟩
    · rw [if_neg hc, h]
      cases q with
      | nil => exact absurd rfl hq
      | cons a t => exact ⟨(o, c :: a.2) :: t, k, by simp, by simp⟩

theorem path_no_dot {t : List UInt8} (h : isPath t = true) : ∀ r, t ≠ 46 :: 47 :: r := by
  rintro r rfl
  simp [isPath, texts, parts, isName] at h
theorem path_no_slash {t : List UInt8} (h : isPath t = true) : ∀ r, t ≠ r ++ [47] := by
  rintro r rfl
  obtain ⟨q, k, h1, _⟩ := parts_slash r 0
  simp [isPath, texts, h1, isName] at h
theorem path_not_dot {t : List UInt8} (h : isPath t = true) : t ≠ [46] := by
  rintro rfl
  revert h; decide

theorem cut2_path {t : List UInt8} (h : isPath t = true) : cut2 t = t := by
  have h1 : trimPrefix t [46, 47] = t := by
    unfold trimPrefix hasPrefix
    rw [if_neg]
    intro hp
    obtain ⟨r, hr⟩ := List.isPrefixOf_iff_prefix.1 hp
    exact path_no_dot h r hr.symm
  unfold cut2 trimSuffix hasSuffix
  rw [h1, if_neg]
  intro hp
  obtain ⟨r, hr⟩ := List.isSuffixOf_iff_suffix.1 hp
  exact path_no_slash h r hr.symm

/-- What was cleaned is clean, and stays as it is; what was refused is nothing. -/
theorem clean_stays (l : List UInt8) : ((cleanL l).2 = 0 ∧ isPath (cleanL l).1 = true ∧ ((cleanL l).1 = [] ∨ cleanL (cleanL l).1 = ((cleanL l).1, 0))) ∨ ((cleanL l).2 = 140 ∧ (cleanL l).1 = []) := by
  unfold cleanL
  split
  · left; exact ⟨rfl, by decide, .inl rfl⟩
  split
  · right; exact ⟨rfl, rfl⟩
  · rename_i h1 h2
    have hn : cut2 l ≠ [] := fun h => h2 (.inl h)
    have hp : isPath (cut2 l) = true := by cases h : isPath (cut2 l) with | true => rfl | false => exact absurd (.inr h) h2
    left
    refine ⟨rfl, hp, .inr ?_⟩
    show (if cut2 l = [46] ∨ cut2 l = [46, 47] then ([], 0) else if cut2 (cut2 l) = [] ∨ isPath (cut2 (cut2 l)) = false then ([], 140) else (cut2 (cut2 l), 0)) = (cut2 l, (0 : Int))
    rw [if_neg, cut2_path hp, if_neg]
    · rintro (h | h)
      · exact hn h
      · rw [hp] at h; cases h
    · rintro (h | h)
      · exact path_not_dot hp h
      · exact path_no_dot hp [] h

end Go.Proofs.Ytboefcnghngoaaa.Sp
