/- VersionSorts: what the reference's Compare answers; a version is the same as itself. -/
import Derived.Test.YtbikimkmkchkhaaDoorMAU1
import Derived.Test.YtbikimkmkchkhaaDoorMAPAllx78
import Derived.Test.YtbikimkmkchkhaaDoorMAPAllx81
namespace Go.Proofs.YtbikimkmkchkhaaDoor.PAll
open Go.RowKit Go.Lib Go.Proofs.YtbikimkmkchkhaaDoor Go.Proofs.YtbikimkmkchkhaaDoorW.PrintWords Go.Proofs.YtbikimkmkchkhaaDoorW.PrintLast Go.Proofs.YtbikimkmkchkhaaDoorW.PrintMore
set_option linter.unusedVariables false
set_option linter.unusedSimpArgs false

theorem Ev.succ {α : Type} {g : Nat → Option α} {r : α} (h : Ev (fun k => g (k + 1)) r) : Ev g r := Ev.step (fun _ => rfl) h
theorem Ev.pos {α : Type} {c : Prop} [Decidable c] {A B : Nat → Option α} {r : α} (h : c) (k : Ev A r) : Ev (fun k => if c then A k else B k) r := by simpa [h] using k
theorem Ev.neg {α : Type} {c : Prop} [Decidable c] {A B : Nat → Option α} {r : α} (h : ¬ c) (k : Ev B r) : Ev (fun k => if c then A k else B k) r := by simpa [h] using k
theorem Ev.val {α : Type} (r : α) : Ev (fun _ => Option.some r) r := ⟨0, fun _ _ => rfl⟩
theorem wrap_succ {i n : Nat} (hn : n ≤ 140737488355328) (h : i < n) : wrap64 ((i : Int) + 1) = ((i + 1 : Nat) : Int) := by unfold wrap64; omega
theorem same_ints (l : List Int) (hl : l.length ≤ 140737488355328) : ∀ (m i : Nat), l.length - i = m → i ≤ l.length → Ev (fun k => sutlerbase_SameInts.l0 k l l (i : Int)) true
  | 0, i, hm, hi => by
    refine Ev.succ ?_
    simp only [sutlerbase_SameInts.l0]
    exact Ev.neg (by omega) (Ev.val _)
  | m + 1, i, hm, hi => by
    have hlt : i < l.length := by omega
    refine Ev.succ ?_
    simp only [sutlerbase_SameInts.l0, wrap_succ hl hlt]
    exact Ev.pos (by omega) (Ev.pos (by omega) (Ev.pos (by omega) (Ev.pos trivial (same_ints l hl m (i + 1) (by omega) (by omega)))))
theorem same_version (l : List Int) (t : ByteArray) (hl : l.length ≤ 140737488355328) : Ev (fun k => sutlerbase_SameVersion.f k l t l t) true := by
  unfold sutlerbase_SameVersion.f sutlerbase_SameInts.f
  refine Ev.pos rfl ?_
  have h1 : Ev (fun k => if (l.length : Int) = (l.length : Int) then sutlerbase_SameInts.l0 k l l 0 else some false) true := Ev.pos rfl (same_ints l hl _ 0 rfl (by omega))
  exact Ev.bind (f := fun _ t198 => some t198) h1 (Ev.val _)
theorem ref_j3 (p q : List Int) (t u : ByteArray) (i n : Nat) (hn : n ≤ 140737488355328) (hi : i < n)
    (ih : Ev (fun k => sutlerref17_Compare.l0 k ((i + 1 : Nat) : Int) p t q u) (if firstDiff p q (n - (i + 1)) (i + 1) = 0 then cmpT t u else firstDiff p q (n - (i + 1)) (i + 1))) :
    Ev (fun k => sutlerref17_Compare.j3 k (i : Int) (rd p (i : Int)) (rd q (i : Int)) p t q u) (if firstDiff p q (n - i) i = 0 then cmpT t u else firstDiff p q (n - i) i) := by
  have w1 : wrap64 ((i : Int) + 1) = ((i + 1 : Nat) : Int) := by unfold wrap64; omega
  refine Ev.succ ?_
  simp only [sutlerref17_Compare.j3, w1]
  rw [show n - i = (n - (i + 1)) + 1 by omega, fd_eq]
  rcases cmpI_cases (rd p (i : Int)) (rd q (i : Int)) with ⟨h, h'⟩ | ⟨h, h'⟩ | ⟨h, h'⟩
  · rw [h]
    exact Ev.pos h' (Ev.val _)
  · rw [h, if_pos rfl]
    exact Ev.neg (by omega) (Ev.neg (by omega) ih)
  · rw [h]
    exact Ev.neg (by omega) (Ev.pos (by omega) (Ev.val _))
theorem ref_compare_at (p q : List Int) (t u : ByteArray) (n : Nat) (hp : p.length ≤ n) (hq : q.length ≤ n) (hmx : n = p.length ∨ n = q.length) (hn : n ≤ 140737488355328) : ∀ (m i : Nat), n - i = m → i ≤ n →
    Ev (fun k => sutlerref17_Compare.l0 k (i : Int) p t q u) (if firstDiff p q (n - i) i = 0 then cmpT t u else firstDiff p q (n - i) i)
  | 0, i, hm, hi => by
    have hin : i = n := by omega
    rw [hm]
    refine Ev.succ ?_
    simp only [sutlerref17_Compare.l0]
    refine Ev.neg (by omega) ?_
    rw [show decide ((i : Int) < (q.length : Int)) = false from decide_eq_false (by omega)]
    refine Ev.succ ?_
    simp only [sutlerref17_Compare.j1, Bool.false_eq_true, if_false]
    show Ev _ (cmpT t u)
    unfold cmpT
    by_cases h1 : t.toList = u.toList
    · refine Ev.pos h1 ?_
      rw [if_pos h1]; exact Ev.val _
    · refine Ev.neg h1 ?_
      rw [if_neg h1]
      by_cases h2 : t.toList = []
      · refine Ev.pos h2 ?_
        rw [if_pos h2]; exact Ev.val _
      · refine Ev.neg h2 ?_
        rw [if_neg h2]
        by_cases h3 : u.toList = []
        · refine Ev.pos h3 ?_
          rw [if_pos h3]; exact Ev.val _
        · refine Ev.neg h3 ?_
          rw [if_neg h3]
          by_cases h4 : Op.bytesLess t.toList u.toList = true
          · refine Ev.pos h4 ?_
            rw [if_pos h4]; exact Ev.val _
          · refine Ev.neg h4 ?_
            rw [if_neg h4]; exact Ev.val _
  | m + 1, i, hm, hi => by
    have ih := ref_j3 p q t u i n hn (by omega) (ref_compare_at p q t u n hp hq hmx hn m (i + 1) (by omega) (by omega))
    have j2 : Ev (fun k => sutlerref17_Compare.j2 k (i : Int) (rd p (i : Int)) 0 p t q u) (if firstDiff p q (n - i) i = 0 then cmpT t u else firstDiff p q (n - i) i) := by
      refine Ev.succ ?_
      simp only [sutlerref17_Compare.j2]
      by_cases h : i < q.length
      · exact Ev.pos (by omega) (Ev.pos (by omega) ih)
      · have e := rd_far (l := q) (k := i) (by omega)
        rw [e] at ih
        exact Ev.neg (by omega) ih
    have j1 : Ev (fun k => sutlerref17_Compare.j1 k (i : Int) true p t q u) (if firstDiff p q (n - i) i = 0 then cmpT t u else firstDiff p q (n - i) i) := by
      refine Ev.succ ?_
      simp only [sutlerref17_Compare.j1, if_true]
      by_cases h : i < p.length
      · exact Ev.pos (by omega) (Ev.pos (by omega) j2)
      · have e := rd_far (l := p) (k := i) (by omega)
        rw [e] at j2
        exact Ev.neg (by omega) j2
    refine Ev.succ ?_
    simp only [sutlerref17_Compare.l0]
    by_cases h : i < p.length
    · exact Ev.pos (by omega) j1
    · refine Ev.neg (by omega) ?_
      rw [show decide ((i : Int) < (q.length : Int)) = true from decide_eq_true (by omega)]
      exact j1
theorem ref_compare (p q : List Int) (t u : ByteArray) (hp : p.length ≤ 140737488355328) (hq : q.length ≤ 140737488355328) : Ev (fun k => sutlerref17_Compare.f k p t q u) (cmpV p t q u) := by
  have := ref_compare_at p q t u (max p.length q.length) (by omega) (by omega) (by omega) (by omega) _ 0 rfl (by omega)
  rw [Nat.sub_zero] at this
  exact this
end Go.Proofs.YtbikimkmkchkhaaDoor.PAll
