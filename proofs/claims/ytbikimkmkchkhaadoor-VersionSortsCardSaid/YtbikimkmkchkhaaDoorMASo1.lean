/- VersionSorts: a row of versions of one's own; two of them change places. -/
import Derived.Test.YtbikimkmkchkhaaDoorMASep
import Derived.Test.YtbikimkmkchkhaaDoorProg
import Derived.Test.YtbikimkmkchkhaaDoorWWords
import Derived.WalkKit
import Derived.Deep.RegionLaw
import Derived.Deep.RegionHeld3
namespace Go.Proofs.YtbikimkmkchkhaaDoor
open Go.RowKit Go.Proofs.YtbikimkmkchkhaaDoorW.PrintWords

set_option linter.unusedVariables false
set_option linter.unusedSimpArgs false
set_option maxRecDepth 100000

/-- A version in memory: its parts' slice, its parts, its tail. -/
structure VE where
  A : Option Addr
  c : Nat
  p : List Int
  t : ByteArray
def VE.p0 (x : VE) : Value := .slice x.A x.p.length x.c
def VE.t0 (x : VE) : Value := .string x.t
def enc (l : List VE) : List Value := l.flatMap fun x => [x.p0, x.t0]
theorem enc_len (l : List VE) : (enc l).length = l.length * 2 := by
  induction l with
  | nil => rfl
  | cons a r ih => show (a.p0 :: a.t0 :: enc r).length = _; simp [ih]; omega
theorem enc_get (l : List VE) {i : Nat} (h : i < l.length) : (enc l)[i * 2]? = some l[i].p0 ∧ (enc l)[i * 2 + 1]? = some l[i].t0 := by
  induction l generalizing i with
  | nil => simp at h
  | cons a r ih =>
    have e : enc (a :: r) = a.p0 :: a.t0 :: enc r := rfl
    rw [e]
    cases i with
    | zero => exact ⟨rfl, rfl⟩
    | succ i =>
      have h' := ih (i := i) (by simpa using h)
      have e1 : (i + 1) * 2 = (i * 2 + 1) + 1 := by omega
      rw [e1]
      exact h'
theorem enc_set (l : List VE) {i : Nat} (h : i < l.length) (x : VE) : ((enc l).set (i * 2) x.p0).set (i * 2 + 1) x.t0 = enc (l.set i x) := by
  induction l generalizing i with
  | nil => simp at h
  | cons a r ih =>
    have e : enc (a :: r) = a.p0 :: a.t0 :: enc r := rfl
    rw [e]
    cases i with
    | zero => rfl
    | succ i =>
      have h' := ih (i := i) (by simpa using h)
      have e1 : (i + 1) * 2 = (i * 2 + 1) + 1 := by omega
      rw [e1]
      show a.p0 :: a.t0 :: _ = _
      rw [h']
      rfl
/-- A row of versions of one's own. -/
def rVs (g c : Nat) (l : List VE) : Res := rRow 24 2 (.slice (some ⟨g, 0, none⟩) l.length c) l.length (enc l)
theorem ownsRow_set2 {w : World} {g n c : Nat} {e : TypeId} {xs : List Value} (h : w.ownsRow 0 e 2 (.slice (some ⟨g, 0, none⟩) n c) n xs) (i : Nat) (u : Value) : (w.setCell ⟨g, i, none⟩ u).ownsRow 0 e 2 (.slice (some ⟨g, 0, none⟩) n c) n (xs.set i u) := by
  obtain ⟨h1, h2⟩ := h
  refine ⟨by rw [List.length_set]; exact h1, ?_⟩
  rcases h2 with ⟨h, _⟩ | ⟨g', cap, cur, e1, hb, hg, r1, r2, r3, r4⟩
  · cases h
  · have : g = g' := by injection e1 with e1 _; injection e1 with e1; injection e1
    subst this
    refine .inr ⟨g, cap, cur.setIfInBounds i u, e1, hb, heap_setCell_self hg u, r1, r2, by simpa using r3, ?_⟩
    rw [Array.toList_setIfInBounds, List.take_set, r4]
theorem addr_add' (b o j : Nat) : (⟨b, o, none⟩ : Addr).add j = ⟨b, o + j, none⟩ := by
  unfold Addr.add
  split
  · rename_i h; simp_all
  · simp_all
section
variable {w0 w : World} {g c : Nat} {l : List VE} {L : List Res}
/-- What lies at place i. -/
theorem St.vsAt (H : St w0 w (rVs g c l :: L)) {i : Nat} (h : i < l.length) : w.cell? ⟨g, i * 2, none⟩ = some l[i].p0 ∧ w.cell? ⟨g, i * 2 + 1, none⟩ = some l[i].t0 := by
  have hr := H.row
  have h1 := hr.cells (g := g) rfl (i * 2) _ (enc_get l h).1
  have h2 := hr.cells (g := g) rfl (i * 2 + 1) _ (enc_get l h).2
  rw [addr_add', Nat.zero_add] at h1 h2
  exact ⟨h1, h2⟩
theorem St.vsFree (H : St w0 w (rVs g c l :: L)) (hl : 0 < l.length) (k : Nat) : w.frozen? ⟨g, k, none⟩ = false := by
  rcases H.row.2 with ⟨h, _⟩ | ⟨g', cap, cur, e1, _, hg, _⟩
  · cases h
  · have : g = g' := by injection e1 with e1 _; injection e1 with e1; injection e1
    subst this
    unfold World.frozen?
    rw [hg]
    simp
theorem St.vsSet (H : St w0 w (rVs g c l :: L)) {i : Nat} (h : i < l.length) (x : VE) : St w0 ((w.setCell ⟨g, i * 2, none⟩ x.p0).setCell ⟨g, i * 2 + 1, none⟩ x.t0) (rVs g c (l.set i x) :: L) := by
  unfold rVs at H ⊢
  have hg : ∀ (W : World) (k : Nat) (u : Value), W.grownBy (W.setCell ⟨g, k, none⟩ u) (some g) := fun W k u => ⟨rfl, rfl, rfl, by simp [World.setCell], fun p hp hne => Below.heap_setCell _ _ _ _ fun e => hne (by rw [e])⟩
  have H1 := H.setRow (ownsRow_set2 H.row (i * 2) x.p0) (hg _ _ _) (.inl rfl)
  have H2 := H1.setRow (ownsRow_set2 H1.row (i * 2 + 1) x.t0) (hg _ _ _) (.inl rfl)
  rw [enc_set l h x] at H2
  rw [List.length_set]
  exact H2
/-- Two change places. -/
def swapL (l : List VE) (i j : Nat) (hi : i < l.length) (hj : j < l.length) : List VE := (l.set i l[j]).set j l[i]
end
end Go.Proofs.YtbikimkmkchkhaaDoor
