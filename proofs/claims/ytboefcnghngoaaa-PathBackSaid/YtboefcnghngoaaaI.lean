/- The law PathBack: what is so of a clean path. -/
import Derived.Test.YtboefcnghngoaaaRefs2
namespace Go.Proofs.Ytboefcnghngoaaa
open Go.RowKit Go.Lib Sp

/-- What stands in the list of all parents, and that it is so. -/
def upAt (s : ByteArray) (j : Nat) : ByteArray := bs (jn ((texts s.data.toList).take (j + 1)))

theorem isPath_iff {l : List UInt8} (h0 : l ≠ []) : isPath l = true ↔ l.length ≤ 200 ∧ ∀ x ∈ texts l, isName x = true := by
  unfold isPath
  have e : l.isEmpty = false := by cases l with | nil => exact absurd rfl h0 | cons => rfl
  rw [e]; simp [List.all_eq_true]
theorem name_ne {x : List UInt8} (h : isName x = true) : x ≠ [] := by rintro rfl; revert h; decide

theorem back_facts (s : ByteArray) (h0 : s.data.toList ≠ []) (h : isPath s.data.toList = true) :
    let n := (texts s.data.toList).length
    (∀ j, j < n → isPath (upAt s j).data.toList = true ∧ (upAt s j).size ≤ 200 ∧ underL s.data.toList (upAt s j).data.toList = true) ∧ (∀ j, j + 1 < n → parentL (upAt s (j + 1)).data.toList = (upAt s j).data.toList) ∧
      upAt s (n - 1) = s ∧ joinL (parentL s.data.toList) (baseL s.data.toList) = s.data.toList := by
  intro n
  have hp := (isPath_iff h0).1 h
  have hns := no_slash s.data.toList
  have hj := jn_texts s.data.toList
  have hn0 := texts_ne s.data.toList
  have htk : ∀ j, texts (jn ((texts s.data.toList).take (j + 1))) = (texts s.data.toList).take (j + 1) := fun j =>
    texts_jn _ (by intro e; rw [List.take_eq_nil_iff] at e; rcases e with e | e; (omega); (exact hn0 e)) (fun x hx => hns x (List.mem_of_mem_take hx))
  have hpre : ∀ j, j < n → underL s.data.toList (jn ((texts s.data.toList).take (j + 1))) = true := by
    intro j hj'
    rw [under_iff]
    by_cases e : j + 1 = n
    · right; left
      rw [e, List.take_length, hj]
    · right; right
      have hd : (texts s.data.toList).drop (j + 1) ≠ [] := by intro e'; rw [List.drop_eq_nil_iff] at e'; omega
      refine ⟨jn ((texts s.data.toList).drop (j + 1)), ?_⟩
      have key : ∀ (a b : List (List UInt8)), a ≠ [] → b ≠ [] → jn (a ++ b) = jn a ++ 47 :: jn b := by
        intro a b ha hb
        induction a with
        | nil => exact absurd rfl ha
        | cons y r ih =>
          by_cases hr : r = []
          · subst hr; rw [List.cons_append, List.nil_append, jn_cons y b hb, jn_one]
          · rw [List.cons_append, jn_cons y _ (by simp [hr]), jn_cons y r hr, ih hr]; simp
      rw [← key _ _ (by intro e'; rw [List.take_eq_nil_iff] at e'; rcases e' with e' | e'; (omega); (exact hn0 e')) hd, List.take_append_drop, hj]
  refine ⟨fun j hj' => ?_, fun j hj' => ?_, ?_, ?_⟩
  · have hle : (upAt s j).data.toList.length ≤ 200 := by
      have := hpre j hj'
      rw [under_iff] at this
      show (jn _).length ≤ 200
      rcases this with h1 | h1 | ⟨x, h1⟩
      · rw [h1]; simp
      · rw [← h1]; exact hp.1
      · have := hp.1; rw [h1, List.length_append] at this; omega
    have hne : (upAt s j).data.toList ≠ [] := by
      show jn _ ≠ []
      intro e
      have h1 := htk j
      rw [e] at h1
      have h2 : ([] : List UInt8) ∈ (texts s.data.toList).take (j + 1) := by rw [← h1]; simp [texts, parts]
      exact name_ne (hp.2 _ (List.mem_of_mem_take h2)) rfl
    refine ⟨(isPath_iff hne).2 ⟨hle, ?_⟩, by rw [Lib.size_eq]; exact hle, hpre j hj'⟩
    show ∀ x ∈ texts (jn _), _
    rw [htk j]
    exact fun x hx => hp.2 x (List.mem_of_mem_take hx)
  · show parentL (jn _) = jn _
    rw [parent_jn _ (fun x hx => hns x (List.mem_of_mem_take hx))]
    congr 1
    rw [List.dropLast_eq_take, List.length_take, List.take_take]
    congr 1
    have : n = (texts s.data.toList).length := rfl
    omega
  · have : (texts s.data.toList).take (n - 1 + 1) = texts s.data.toList := by
      have : 0 < n := List.length_pos_iff.2 hn0
      rw [show n - 1 + 1 = n by omega, List.take_length]
    unfold upAt
    rw [this, hj]; rfl
  · have e := List.dropLast_concat_getLast hn0
    have hl : (47 : UInt8) ∉ (texts s.data.toList).getLast hn0 := hns _ (List.getLast_mem hn0)
    have hln : (texts s.data.toList).getLast hn0 ≠ [] := name_ne (hp.2 _ (List.getLast_mem hn0))
    by_cases h1 : (texts s.data.toList).dropLast = []
    · rw [h1, List.nil_append] at e
      have hs : (texts s.data.toList).getLast hn0 = s.data.toList := by
        have h2 := jn_one ((texts s.data.toList).getLast hn0)
        rw [e, hj] at h2
        exact h2.symm
      rw [hs] at hl
      rw [parent_none hl, base_none hl]; rfl
    · have hs : s.data.toList = jn (texts s.data.toList).dropLast ++ 47 :: (texts s.data.toList).getLast hn0 := by
        conv => lhs; rw [← hj, ← e]
        rw [jn_snoc _ _ h1]
      have hjn : jn (texts s.data.toList).dropLast ≠ [] := by
        intro e'
        cases hd : (texts s.data.toList).dropLast with
        | nil => exact h1 hd
        | cons y r =>
          rw [hd] at e'
          have hy : y ≠ [] := name_ne (hp.2 y (List.dropLast_subset _ (by rw [hd]; simp)))
          by_cases hr : r = []
          · subst hr; rw [jn_one] at e'; exact hy e'
          · rw [jn_cons _ _ hr] at e'; simp at e'
      conv => lhs; rw [hs]
      rw [parent_mid _ _ hl, base_mid _ _ hl]
      unfold joinL
      rw [if_neg hjn, if_neg hln, ← hs]

theorem back_cells (s : ByteArray) (ys : List (Span s)) (h : ys.map (·.1) = spans 0 s.data.toList) : ys.length = (texts s.data.toList).length ∧ ∀ j, j < (texts s.data.toList).length → (ups s ys)[j]? = some (upAt s j) := by
  have h1 := ups_texts s ys h
  have hlen : ys.length = (texts s.data.toList).length := by
    have := congrArg List.length h1
    simpa [ups, pres_length] using this
  refine ⟨hlen, fun j hj => ?_⟩
  have h2 : ((ups s ys).map (·.data.toList))[j]? = some (jn ((texts s.data.toList).take (j + 1))) := by
    rw [h1, List.getElem?_map, pres_get _ _ hj]; rfl
  rw [List.getElem?_map] at h2
  cases h3 : (ups s ys)[j]? with
  | none => rw [h3] at h2; cases h2
  | some x =>
    rw [h3] at h2
    have h4 : x.data.toList = jn ((texts s.data.toList).take (j + 1)) := Option.some.inj h2
    unfold upAt
    rw [← h4]; rfl
end Go.Proofs.Ytboefcnghngoaaa
