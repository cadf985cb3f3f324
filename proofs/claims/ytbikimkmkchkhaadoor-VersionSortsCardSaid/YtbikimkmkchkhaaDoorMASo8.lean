/- VersionSorts: what the search of symMergeCmpFunc finds. -/
import Derived.Test.YtbikimkmkchkhaaDoorMASo7
namespace Go.Proofs.YtbikimkmkchkhaaDoor
open Go.RowKit Go.Proofs.YtbikimkmkchkhaaDoorW.PrintWords
set_option linter.unusedVariables false
set_option linter.unusedSimpArgs false

/-- The runs, their places, and the search's bounds. -/
structure Sym (X U V Y : List TE) (a m b mid s lo hi : Nat) : Prop where
  ea : a = X.length
  em : m = a + U.length
  eb : b = m + V.length
  u2 : 2 ≤ U.length
  v2 : 2 ≤ V.length
  emid : mid = (a + b) / 2
  es : s = mid + m
  big : mid < m → lo = s - b ∧ hi = mid
  small : ¬ mid < m → lo = a ∧ hi = m
  su : Srt U
  sv : Srt V
  tag : ∀ u ∈ U, ∀ v ∈ V, u.2 < v.2
namespace Sym
variable {X U V Y : List TE} {a m b mid s lo hi : Nat} {d0 : TE}
theorem atU (h : Sym X U V Y a m b mid s lo hi) {k : Nat} (h1 : a ≤ k) (h2 : k < m) : (X ++ U ++ V ++ Y).getD k d0 = U.getD (k - a) d0 := by
  have := h.ea; have := h.em
  rw [List.getD_eq_getElem?_getD, List.getD_eq_getElem?_getD, List.getElem?_append_left (by simp; omega), List.getElem?_append_left (by simp; omega), List.getElem?_append_right (by omega), h.ea]
theorem atV (h : Sym X U V Y a m b mid s lo hi) {k : Nat} (h1 : m ≤ k) (h2 : k < b) : (X ++ U ++ V ++ Y).getD k d0 = V.getD (k - m) d0 := by
  have := h.ea; have := h.em; have := h.eb
  rw [List.getD_eq_getElem?_getD, List.getD_eq_getElem?_getD, List.getElem?_append_left (by simp; omega), List.getElem?_append_right (by simp; omega)]
  congr 2
  simp
  omega
/-- Between the bounds a place is in the first run, and its mirror in the second. -/
theorem within (h : Sym X U V Y a m b mid s lo hi) {k : Nat} (h1 : lo ≤ k) (h2 : k < hi) : a ≤ k ∧ k < m ∧ m ≤ s - 1 - k ∧ s - 1 - k < b := by
  have := h.ea; have := h.em; have := h.eb; have := h.u2; have := h.v2; have := h.emid; have := h.es
  by_cases hb : mid < m
  · obtain ⟨e1, e2⟩ := h.big hb; omega
  · obtain ⟨e1, e2⟩ := h.small hb; omega
theorem lohi (h : Sym X U V Y a m b mid s lo hi) : lo ≤ hi ∧ a ≤ lo ∧ hi ≤ m ∧ s ≤ a + b + b := by
  have := h.ea; have := h.em; have := h.eb; have := h.u2; have := h.v2; have := h.emid; have := h.es
  by_cases hb : mid < m
  · obtain ⟨e1, e2⟩ := h.big hb; omega
  · obtain ⟨e1, e2⟩ := h.small hb; omega
/-- The test: the element of the first run lies ahead of its mirror. -/
def q (X U V Y : List TE) (d0 : TE) (s k : Nat) : Prop := tlt ((X ++ U ++ V ++ Y).getD k d0) ((X ++ U ++ V ++ Y).getD (s - 1 - k) d0)
theorem memU (h : Sym X U V Y a m b mid s lo hi) {k : Nat} (h1 : a ≤ k) (h2 : k < m) : (X ++ U ++ V ++ Y).getD k d0 ∈ U := by
  rw [h.atU h1 h2]; exact getD_mem d0 (by have := h.em; omega)
theorem memV (h : Sym X U V Y a m b mid s lo hi) {k : Nat} (h1 : m ≤ k) (h2 : k < b) : (X ++ U ++ V ++ Y).getD k d0 ∈ V := by
  rw [h.atV h1 h2]; exact getD_mem d0 (by have := h.eb; omega)
theorem mono (h : Sym X U V Y a m b mid s lo hi) : ∀ k k', lo ≤ k' → k' < k → k < hi → q X U V Y d0 s k → q X U V Y d0 s k' := by
  intro k k' h1 h2 h3 hq
  obtain ⟨p1, p2, p3, p4⟩ := h.within (by omega : lo ≤ k) h3
  obtain ⟨r1, r2, r3, r4⟩ := h.within h1 (by omega : k' < hi)
  have hu := h.em; have hv := h.eb
  have t1 : tlt ((X ++ U ++ V ++ Y).getD k' d0) ((X ++ U ++ V ++ Y).getD k d0) := by
    rw [h.atU r1 r2, h.atU p1 p2]; exact srt_get h.su d0 (by omega) (by omega)
  have t2 : tlt ((X ++ U ++ V ++ Y).getD (s - 1 - k) d0) ((X ++ U ++ V ++ Y).getD (s - 1 - k') d0) := by
    rw [h.atV p3 p4, h.atV r3 r4]; exact srt_get h.sv d0 (by omega) (by omega)
  exact tlt_trans t1 (tlt_trans hq t2)
theorem yes (h : Sym X U V Y a m b mid s lo hi) {k : Nat} (h1 : lo ≤ k) (h2 : k < hi) (ho : ¬ ord ((X ++ U ++ V ++ Y).getD (s - 1 - k) d0).1 ((X ++ U ++ V ++ Y).getD k d0).1 < 0) : q X U V Y d0 s k := by
  obtain ⟨p1, p2, p3, p4⟩ := h.within h1 h2
  exact tlt_of_ge ho (h.tag _ (h.memU p1 p2) _ (h.memV p3 p4))
theorem no (h : Sym X U V Y a m b mid s lo hi) {k : Nat} (h1 : lo ≤ k) (h2 : k < hi) (ho : ord ((X ++ U ++ V ++ Y).getD (s - 1 - k) d0).1 ((X ++ U ++ V ++ Y).getD k d0).1 < 0) : ¬ q X U V Y d0 s k := fun hq => tlt_asym hq (tlt_of_lt ho)
theorem head_le {l : List TE} (h : Srt l) (d0 : TE) {i j : Nat} (hij : i ≤ j) (hj : j < l.length) {x : TE} (hx : tlt (l.getD j d0) x) : tlt (l.getD i d0) x := by
  by_cases e : i = j
  · rw [e]; exact hx
  · exact tlt_trans (srt_get h d0 (by omega) hj) hx
theorem le_tail {l : List TE} (h : Srt l) (d0 : TE) {i j : Nat} (hij : i ≤ j) (hj : j < l.length) {x : TE} (hx : tlt x (l.getD i d0)) : tlt x (l.getD j d0) := by
  by_cases e : i = j
  · rw [← e]; exact hx
  · exact tlt_trans hx (srt_get h d0 (by omega) hj)
theorem mem_take {l : List TE} (d0 : TE) {e : Nat} {z : TE} (hz : z ∈ l.take e) : ∃ i, i < e ∧ i < l.length ∧ z = l.getD i d0 := by
  obtain ⟨k, hk, rfl⟩ := List.mem_iff_getElem.1 hz
  simp at hk
  refine ⟨k, by omega, by omega, ?_⟩
  rw [List.getElem_take, List.getD_eq_getElem?_getD, List.getElem?_eq_getElem (by omega)]
  rfl
theorem mem_drop {l : List TE} (d0 : TE) {e : Nat} {z : TE} (hz : z ∈ l.drop e) : ∃ i, e ≤ i ∧ i < l.length ∧ z = l.getD i d0 := by
  obtain ⟨k, hk, rfl⟩ := List.mem_iff_getElem.1 hz
  simp at hk
  refine ⟨e + k, by omega, by omega, ?_⟩
  rw [List.getElem_drop, List.getD_eq_getElem?_getD, List.getElem?_eq_getElem (by omega)]
  rfl
/-- What the search found parts both runs: all of the first parts lie ahead of all of the second ones. -/
theorem cross (h : Sym X U V Y a m b mid s lo hi) {st : Nat} (hs : Sr (q X U V Y d0 s) lo hi st st) : ∀ z ∈ U.take (st - a) ++ V.take (s - st - m), ∀ y ∈ U.drop (st - a) ++ V.drop (s - st - m), tlt z y := by
  have hl := h.lohi
  have e1 := hs.h1; have e3 := hs.h3
  have hu := h.em; have hv := h.eb; have hes := h.es; have hmid := h.emid
  intro z hz y hy
  rcases List.mem_append.1 hz with hz | hz <;> rcases List.mem_append.1 hy with hy | hy
  · have := h.su
    rw [← List.take_append_drop (st - a) U] at this
    exact (List.pairwise_append.1 this).2.2 z hz y hy
  · obtain ⟨i, i1, i2, rfl⟩ := mem_take d0 hz
    obtain ⟨j, j1, j2, rfl⟩ := mem_drop d0 hy
    have hlo : lo < st := by
      by_cases hb : mid < m
      · obtain ⟨l1, l2⟩ := h.big hb; omega
      · obtain ⟨l1, l2⟩ := h.small hb; omega
    have hq := hs.yes (st - 1) (by omega) (by omega)
    obtain ⟨p1, p2, p3, p4⟩ := h.within (k := st - 1) (by omega) (by omega)
    unfold q at hq
    rw [h.atU p1 p2, h.atV p3 p4] at hq
    exact head_le h.su d0 (by omega) (by omega) (le_tail h.sv d0 (by omega) j2 hq)
  · obtain ⟨i, i1, i2, rfl⟩ := mem_take d0 hz
    obtain ⟨j, j1, j2, rfl⟩ := mem_drop d0 hy
    have hhi : st < hi := by
      by_cases hb : mid < m
      · obtain ⟨l1, l2⟩ := h.big hb; omega
      · obtain ⟨l1, l2⟩ := h.small hb; omega
    have hq := hs.no st (by omega) hhi
    obtain ⟨p1, p2, p3, p4⟩ := h.within (k := st) e1 hhi
    unfold q at hq
    have hmu := h.memU (d0 := d0) p1 p2
    have hmv := h.memV (d0 := d0) p3 p4
    have ht : tlt ((X ++ U ++ V ++ Y).getD (s - 1 - st) d0) ((X ++ U ++ V ++ Y).getD st d0) := by
      by_cases ho : ord ((X ++ U ++ V ++ Y).getD (s - 1 - st) d0).1 ((X ++ U ++ V ++ Y).getD st d0).1 < 0
      · exact tlt_of_lt ho
      · exact absurd (tlt_of_ge ho (h.tag _ hmu _ hmv)) hq
    rw [h.atU p1 p2, h.atV p3 p4] at ht
    exact head_le h.sv d0 (by omega) (by omega) (le_tail h.su d0 (by omega) j2 ht)
  · have := h.sv
    rw [← List.take_append_drop (s - st - m) V] at this
    exact (List.pairwise_append.1 this).2.2 z hz y hy
end Sym
end Go.Proofs.YtbikimkmkchkhaaDoor
