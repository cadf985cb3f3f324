/- DiskOne, plainly: each choice of values comes of some picks. No walk. -/
import Derived.Test.YtoojcgmdcbcenaaLw
namespace Go.Proofs.Ytoojcgmdcbcenaa
set_option linter.unusedVariables false
set_option linter.unusedSimpArgs false
set_option maxRecDepth 100000

/-- How many of the first a sectors were written. -/
def rank (vals : List (List Sec)) (a : Nat) : Nat := ((vals.take a).filter fun l => decide (1 < l.length)).length
theorem crashed_at (picks : List Int) : ∀ (vals : List (List Sec)) (j a : Nat), a < vals.length → (∀ l ∈ vals, l ≠ []) → (Dsk.crashed picks j vals).getD a [] = [(vals.getD a []).getD (if 1 < (vals.getD a []).length then Dsk.pick picks (j + rank vals a) (vals.getD a []).length else 0) []]
  | [], _, _, h, _ => absurd h (by simp)
  | l :: r, j, 0, _, hne => by
    have hp := List.length_pos_iff.2 (hne l (by simp))
    unfold Dsk.crashed
    split
    · rename_i h
      simp only [List.getD_cons_zero]
      rw [if_neg (by omega)]
      cases l with
      | nil => simp at hp
      | cons x t =>
        have : t = [] := List.eq_nil_of_length_eq_zero (by rw [List.length_cons] at h; omega)
        rw [this]; rfl
    · simp only [List.getD_cons_zero]
      rw [if_pos (by omega)]
      simp [rank]
  | l :: r, j, a + 1, ha, hne => by
    have ih := fun j => crashed_at picks r j a (by simpa using ha) fun x hx => hne x (by simp [hx])
    unfold Dsk.crashed
    split
    · rename_i h
      simp only [List.getD_cons_succ]
      rw [ih j]
      have e : rank (l :: r) (a + 1) = rank r a := by simp [rank, List.take_succ_cons, show ¬ 1 < l.length by omega]
      rw [e]
    · rename_i h
      simp only [List.getD_cons_succ]
      rw [ih (j + 1)]
      have e : rank (l :: r) (a + 1) = rank r a + 1 := by simp [rank, List.take_succ_cons, show 1 < l.length by omega]
      rw [e, show j + 1 + rank r a = j + (rank r a + 1) by omega]
theorem crash_read {d : Dsk} (hok : d.Ok) {a : Nat} (ha : a < d.vals.length) (picks : List Int) : (d.crash picks).read (a : Int) = ((d.vals.getD a []).getD (if 1 < (d.vals.getD a []).length then Dsk.pick picks (rank d.vals a) (d.vals.getD a []).length else 0) [], 0) := by
  unfold Dsk.read
  have hl := crash_len d picks
  rw [if_neg (by omega), Int.toNat_natCast]
  have e := crashed_at picks d.vals 0 a ha hok.ne
  rw [Nat.zero_add] at e
  have e2 : (d.crash picks).vals.getD a [] = (Dsk.crashed picks 0 d.vals).getD a [] := rfl
  rw [e2, e]
  rfl
/-- The k-th value comes of noughts and k. -/
def choice (p k : Nat) : List Int := List.replicate p 0 ++ [(k : Int)]
theorem pick_choice {p k n : Nat} (hk : k < n) (hn : n ≤ 1048576) : Dsk.pick (choice p k) p n = k := by
  unfold Dsk.pick choice
  rw [if_pos (by simp)]
  have e : (List.replicate p (0 : Int) ++ [(k : Int)]).getD p 0 = (k : Int) := by
    rw [List.getD_eq_getElem?_getD, List.getElem?_append_right (by simp)]
    simp
  rw [e, Int.emod_eq_of_lt (by omega) (by omega), Int.emod_eq_of_lt (by omega) (by omega), Int.toNat_natCast]
theorem choice_read {d : Dsk} (hok : d.Ok) {a k : Nat} (ha : a < d.vals.length) (hk : k < (d.vals.getD a []).length) (hn : (d.vals.getD a []).length ≤ 1048576) : (d.crash (choice (rank d.vals a) k)).read (a : Int) = ((d.vals.getD a []).getD k [], 0) := by
  rw [crash_read hok ha]
  split
  · rw [pick_choice hk hn]
  · rename_i h
    rw [show k = 0 by omega]
theorem crash_one (d : Dsk) (picks : List Int) (hok : d.Ok) : ∀ l ∈ (d.crash picks).vals, l.length = 1 := by
  have key : ∀ (vals : List (List Sec)) (j : Nat), (∀ l ∈ vals, l ≠ []) → ∀ l ∈ Dsk.crashed picks j vals, l.length = 1 := by
    intro vals
    induction vals with
    | nil => intro j _ l hl; cases hl
    | cons x r ih =>
      intro j hne l hl
      have hp := List.length_pos_iff.2 (hne x (by simp))
      unfold Dsk.crashed at hl
      split at hl
      · rcases List.mem_cons.1 hl with rfl | hl
        · omega
        · exact ih j (fun y hy => hne y (by simp [hy])) l hl
      · rcases List.mem_cons.1 hl with rfl | hl
        · rfl
        · exact ih (j + 1) (fun y hy => hne y (by simp [hy])) l hl
  exact key d.vals 0 hok.ne
theorem one_facts {d : Dsk} (h : ∀ l ∈ d.vals, l.length = 1) : d.pending = 0 ∧ d.image = d.sure := by
  constructor
  · simp only [Dsk.pending]
    rw [List.length_eq_zero_iff, List.filter_eq_nil_iff]
    intro l hl
    have := h l hl
    simp [this]
  · simp only [Dsk.image, Dsk.sure]
    have : ∀ v : List (List Sec), (∀ l ∈ v, l.length = 1) → v.flatMap lastOf = v.flatMap headOf := by
      intro v
      induction v with
      | nil => intro _; rfl
      | cons x r ih =>
        intro hx
        have h1 := hx x (by simp)
        rw [List.flatMap_cons, List.flatMap_cons, ih fun y hy => hx y (by simp [hy]), lastOf_get, headOf_get, h1]
    exact this d.vals h
/-- The loop's writes. -/
def onD (d : Dsk) (l : List S42) : Dsk := l.foldl (fun d x => (d.write (among x.f1 d.vals.length : Nat) (fullS x.f3)).2) d
theorem onD_snoc (d : Dsk) (l : List S42) (x : S42) : onD d (l ++ [x]) = ((onD d l).write (among x.f1 (onD d l).vals.length : Nat) (fullS x.f3)).2 := by simp [onD, List.foldl_append]
/-- Behind the first k writes. -/
structure On (a n t : Nat) (d0 : Dsk) (l : List S42) (d : Dsk) : Prop where
  free : Free d
  len : d.vals.length = n
  taken : d.taken ≤ t + l.length
  more : ∀ i, i < n → ((d.vals.getD i []).length = 1 ↔ ∀ x ∈ l, among x.f1 n ≠ i)
  few : ∀ i, i < n → (d.vals.getD i []).length ≤ l.length + 1
theorem on_start {a n t : Nat} {d : Dsk} (hf : Free d) (hl : d.vals.length = n) (ht : d.taken ≤ t) (h1 : ∀ l ∈ d.vals, l.length = 1) : On a n t d [] d := by
  have hg : ∀ i, i < n → (d.vals.getD i []).length = 1 := fun i hi => by
    rw [List.getD_eq_getElem?_getD, List.getElem?_eq_getElem (by omega)]; exact h1 _ (List.getElem_mem _)
  exact ⟨hf, hl, by simpa using ht, fun i hi => ⟨fun _ x hx => (by cases hx), fun _ => hg i hi⟩, fun i hi => by rw [hg i hi]; exact Nat.le_refl _⟩
theorem on_step {a n t : Nat} {d0 d : Dsk} {l : List S42} (h : On a n t d0 l d) (hn : 0 < n) (hne : ∀ l ∈ d.vals, l ≠ []) (x : S42) :
    On a n t d0 (l ++ [x]) (d.write (among x.f1 n : Nat) (fullS x.f3)).2 ∧ (d.write (among x.f1 n : Nat) (fullS x.f3)).2.vals.getD a [] = if among x.f1 n = a then d.vals.getD a [] ++ [fullS x.f3] else d.vals.getD a [] := by
  have hlt := among_lt x.f1 hn
  have hl := h.len
  have hw := h.free.write (i := among x.f1 n) (by omega) (fullS_len x.f3)
  have hv : (d.write (among x.f1 n : Nat) (fullS x.f3)).2.vals = d.vals.modify (among x.f1 n) (· ++ [fullS x.f3]) := by rw [hw]
  have hg : ∀ i, (d.vals.modify (among x.f1 n) (· ++ [fullS x.f3])).getD i [] = if among x.f1 n = i ∧ i < n then d.vals.getD i [] ++ [fullS x.f3] else d.vals.getD i [] := fun i => by rw [getD_modify, hl]
  refine ⟨⟨h.free.writeF _ _, by rw [write_len, hl], ?_, fun i hi => ?_, fun i hi => ?_⟩, ?_⟩
  · have := write_taken d (among x.f1 n : Nat) (fullS x.f3)
    have := h.taken
    rw [List.length_append, List.length_singleton]
    omega
  · rw [hv, hg i]
    have hm := h.more i hi
    by_cases e : among x.f1 n = i
    · have hp : 0 < (d.vals.getD i []).length := by
        rw [List.getD_eq_getElem?_getD, List.getElem?_eq_getElem (by omega)]; exact List.length_pos_iff.2 (hne _ (List.getElem_mem _))
      rw [if_pos ⟨e, hi⟩, List.length_append, List.length_singleton]
      exact ⟨fun h => by omega, fun h => absurd e (h x (by simp))⟩
    · rw [if_neg (fun h => e h.1), hm]
      simp only [List.mem_append, List.mem_singleton]
      exact ⟨fun h y hy => by rcases hy with hy | rfl; exact h y hy; exact e, fun h y hy => h y (.inl hy)⟩
  · rw [hv, hg i, List.length_append, List.length_singleton]
    have := h.few i hi
    split
    · rw [List.length_append, List.length_singleton]; omega
    · omega
  · rw [hv, hg a]
    by_cases e : among x.f1 n = a
    · rw [if_pos ⟨e, by omega⟩, if_pos e]
    · rw [if_neg (fun h => e h.1), if_neg e]
end Go.Proofs.Ytoojcgmdcbcenaa
