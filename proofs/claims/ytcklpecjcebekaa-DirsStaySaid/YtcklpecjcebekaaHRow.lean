/- Rows of entries as cells; the builtin copy at elements of several cells; slices.Clone at entries. -/
import Derived.Laws.CopyRow
import Derived.Lib.Overlaps
import Derived.Lib.SliceRun
import Derived.Shelf.RegionOpenPlain
import Derived.Test.YtcklpecjcebekaaHIdx
namespace Go
variable {P : Program}
theorem Proofs.Ytcklpecjcebekaa.run_copy_rowN (w : World) (dT sT ty elem : TypeId) (sz g o dLen dCap : Nat) (a : Addr) (sLen sCap : Nat) (cur : Array Value) (t : TypeId) (cs : List Value) (n : Nat)
    (hu : P.underlying dT = some (.slice elem)) (hs : (P.info? elem).map (·.size) = some sz)
    (hg : w.heap[g]? = some (.cells cur t (0, 0))) (hn : n = Nat.min sLen dLen) (hcs : cs.length = n * sz)
    (hsrc : ∀ j v, cs[j]? = some v → w.cell? (a.add j) = some v) (hfit : o + cs.length ≤ cur.size) (h1 : ∀ v ∈ cs, v.oneCell' = true) :
    (Builtin.copy_ #[dT, sT] ty #[.slice (some ⟨g, o, none⟩) dLen dCap, .slice (some a) sLen sCap]).run P w =
      .ok (goInt n) (w.setRow g (cur.toList.take o ++ cs ++ cur.toList.drop (o + cs.length)).toArray) := by
  have hl := run_loadCells_list (P := P) w a cs hsrc
  have hst := run_storeCells_at P g o t cs 0 cur w hg (by simpa using hfit) h1
  rw [hcs] at hl
  cases hq : P.info? elem with
  | none => simp [hq] at hs
  | some i =>
    have hi : i.size = sz := by simpa [hq] using hs
    simp [Builtin.copy_, run_underlying hu, Builtin.lenOf, Builtin.firstCells, sizeOf, typeInfo, hq, hi, ← hn, hl, hst]
end Go
namespace Go.Proofs.Ytcklpecjcebekaa.PAll
open Go.RowKit Go.Shelf Go.Lib Go.Proofs.YtcklpecjcebekaaW.PrintWords Go.Proofs.YtcklpecjcebekaaW.PrintLast Go.Proofs.YtcklpecjcebekaaW.PrintMore
attribute [local go_sem] Oper.semAt_some
set_option linter.unusedVariables false
set_option linter.unusedSimpArgs false

def cellsOf (l : List S37) : List Value := l.flatMap fun x => [.string x.f0, .int .i64 x.f1]
theorem cellsOf_length (l : List S37) : (cellsOf l).length = l.length * 2 := by
  induction l with
  | nil => rfl
  | cons x r ih => simp only [cellsOf, List.flatMap_cons, List.length_append, List.length_cons, List.length_nil] at ih ⊢; omega
theorem cellsOf_append (a b : List S37) : cellsOf (a ++ b) = cellsOf a ++ cellsOf b := by simp [cellsOf]
theorem cellsOf_one (l : List S37) : ∀ v ∈ cellsOf l, v.oneCell' = true := by
  intro v hv
  obtain ⟨x, _, hx⟩ := List.mem_flatMap.1 hv
  simp at hx
  rcases hx with rfl | rfl <;> rfl
theorem cellsOf_take (l : List S37) (k : Nat) : (cellsOf l).take (k * 2) = cellsOf (l.take k) := by
  induction l generalizing k with
  | nil => simp [cellsOf]
  | cons x r ih =>
    cases k with
    | zero => simp [cellsOf]
    | succ k =>
      have e : (k + 1) * 2 = k * 2 + 1 + 1 := by omega
      rw [e]
      show List.take _ (.string x.f0 :: .int .i64 x.f1 :: cellsOf r) = _
      rw [List.take_succ_cons, List.take_succ_cons, ih]; rfl
theorem cellsOf_drop (l : List S37) (k : Nat) : (cellsOf l).drop (k * 2) = cellsOf (l.drop k) := by
  induction l generalizing k with
  | nil => simp [cellsOf]
  | cons x r ih =>
    cases k with
    | zero => simp [cellsOf]
    | succ k =>
      have e : (k + 1) * 2 = k * 2 + 1 + 1 := by omega
      rw [e]
      show List.drop _ (.string x.f0 :: .int .i64 x.f1 :: cellsOf r) = _
      rw [List.drop_succ_cons, List.drop_succ_cons, ih]; rfl
theorem reps_cells {w : World} {base : Nat} {ok : Nat → Prop} : ∀ {l : List S37} {cs : List Value}, Reps (k37.M w base ok) 2 l cs → cs = cellsOf l
  | [], cs, h => by have := h.1; simp at this; rw [this]; rfl
  | x :: l, cs, h => by
    have h1 := h.1
    have h2 := k37_openM (h.2 0 x rfl)
    rw [Nat.zero_mul, List.drop_zero] at h2
    have h3 : Reps (k37.M w base ok) 2 l (cs.drop 2) := by
      refine ⟨by rw [List.length_drop, h1, List.length_cons]; omega, fun j p hj => ?_⟩
      have := h.2 (j + 1) p (by simpa using hj)
      rw [List.drop_drop]
      rwa [show 2 + j * 2 = (j + 1) * 2 by omega]
    have h4 := reps_cells h3
    rw [← List.take_append_drop 2 cs, h2, h4]; rfl
theorem cells_reps (w : World) (base : Nat) (ok : Nat → Prop) (l : List S37) : Reps (k37.M w base ok) 2 l (cellsOf l) := by
  refine ⟨cellsOf_length l, fun j p hj => ?_⟩
  have hjl : j < l.length := (List.getElem?_eq_some_iff.1 hj).1
  rw [cellsOf_drop, List.drop_eq_getElem_cons hjl, show l[j] = p from (List.getElem?_eq_some_iff.1 hj).2]
  exact k37_mkM w base ok p

/-- A row of the call's own, told as cells. -/
theorem own_of_R {w : World} {base : Nat} {ok : Nat → Prop} {v : Value} {l : List S37} (h : Kd.R k37 37 w base ok v l) : w.ownsRow base 37 2 v l.length (cellsOf l) := by
  obtain ⟨_, inner, ho, hr⟩ := h
  rw [← reps_cells hr]; exact ho
theorem R_of_own {w : World} {base : Nat} {v : Value} {l : List S37} (h : w.ownsRow base 37 2 v l.length (cellsOf l)) : Kd.R k37 37 w base (fun _ => True) v l :=
  ⟨fun _ _ => trivial, cellsOf l, h, cells_reps _ _ _ _⟩
end Go.Proofs.Ytcklpecjcebekaa.PAll
