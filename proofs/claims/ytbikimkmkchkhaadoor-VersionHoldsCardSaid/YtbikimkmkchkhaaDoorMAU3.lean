/- The law VersionHolds in plain Lean, and its call. -/
import Derived.Test.YtbikimkmkchkhaaDoorMAHOps
import Derived.Test.YtbikimkmkchkhaaDoorMAHHolds1
import Derived.Test.YtbikimkmkchkhaaDoorMAVBounds
namespace Go.Proofs.YtbikimkmkchkhaaDoor.PAll
open Go.RowKit Go.Lib Go.Proofs.YtbikimkmkchkhaaDoor Go.Proofs.YtbikimkmkchkhaaDoorW.PrintWords Go.Proofs.YtbikimkmkchkhaaDoorW.PrintLast Go.Proofs.YtbikimkmkchkhaaDoorW.PrintMore
set_option linter.unusedVariables false
set_option linter.unusedSimpArgs false

theorem ref_j3 (p q : List Int) (t u : ByteArray) (i n : Nat) (hn : n ≤ 140737488355328) (hi : i < n)
    (ih : Ev (fun k => sutlerref17_Compare.l0 k ((i + 1 : Nat) : Int) p t q u) (if firstDiff p q (n - (i + 1)) (i + 1) = 0 then cmpT t u else firstDiff p q (n - (i + 1)) (i + 1))) :
    Ev (fun k => sutlerref17_Compare.j3 k (i : Int) (rd p (i : Int)) (rd q (i : Int)) p t q u) (if firstDiff p q (n - i) i = 0 then cmpT t u else firstDiff p q (n - i) i) := by
  have w1 : wrap64 ((i : Int) + 1) = ((i + 1 : Nat) : Int) := by unfold wrap64; omega
  refine Ev.succ ?_
  simp only [sutlerref17_Compare.j3, w1]
  rw [show n - i = (n - (i + 1)) + 1 by omega, fd_eq]
  rcases cmpI_cases (rd p (i : Int)) (rd q (i : Int)) with ⟨h, h'⟩ | ⟨h, h'⟩ | ⟨h, h'⟩
  · rw [h]
    exact Ev.pos h' (Ev.val _)
  · rw [h, if_pos rfl]
    exact Ev.neg (by omega) (Ev.neg (by omega) ih)
  · rw [h]
    exact Ev.neg (by omega) (Ev.pos (by omega) (Ev.val _))
theorem ref_compare_at (p q : List Int) (t u : ByteArray) (n : Nat) (hp : p.length ≤ n) (hq : q.length ≤ n) (hmx : n = p.length ∨ n = q.length) (hn : n ≤ 140737488355328) : ∀ (m i : Nat), n - i = m → i ≤ n →
    Ev (fun k => sutlerref17_Compare.l0 k (i : Int) p t q u) (if firstDiff p q (n - i) i = 0 then cmpT t u else firstDiff p q (n - i) i)
  | 0, i, hm, hi => by
    have hin : i = n := by omega
    rw [hm]
    refine Ev.succ ?_
    simp only [sutlerref17_Compare.l0]
    refine Ev.neg (by omega) ?_
    rw [show decide ((i : Int) < (q.length : Int)) = false from decide_eq_false (by omega)]
    refine Ev.succ ?_
    simp only [sutlerref17_Compare.j1, Bool.false_eq_true, if_false]
    show Ev _ (cmpT t u)
    unfold cmpT
    by_cases h1 : t.toList = u.toList
    · refine Ev.pos h1 ?_
      rw [if_pos h1]; exact Ev.val _
    · refine Ev.neg h1 ?_
      rw [if_neg h1]
      by_cases h2 : t.toList = []
      · refine Ev.pos h2 ?_
        rw [if_pos h2]; exact Ev.val _
      · refine Ev.neg h2 ?_
        rw [if_neg h2]
        by_cases h3 : u.toList = []
        · refine Ev.pos h3 ?_
          rw [if_pos h3]; exact Ev.val _
        · refine Ev.neg h3 ?_
          rw [if_neg h3]
          by_cases h4 : Op.bytesLess t.toList u.toList = true
          · refine Ev.pos h4 ?_
            rw [if_pos h4]; exact Ev.val _
          · refine Ev.neg h4 ?_
            rw [if_neg h4]; exact Ev.val _
  | m + 1, i, hm, hi => by
    have ih := ref_j3 p q t u i n hn (by omega) (ref_compare_at p q t u n hp hq hmx hn m (i + 1) (by omega) (by omega))
    have j2 : Ev (fun k => sutlerref17_Compare.j2 k (i : Int) (rd p (i : Int)) 0 p t q u) (if firstDiff p q (n - i) i = 0 then cmpT t u else firstDiff p q (n - i) i) := by
      refine Ev.succ ?_
      simp only [sutlerref17_Compare.j2]
      by_cases h : i < q.length
      · exact Ev.pos (by omega) (Ev.pos (by omega) ih)
      · have e := rd_far (l := q) (k := i) (by omega)
        rw [e] at ih
        exact Ev.neg (by omega) ih
    have j1 : Ev (fun k => sutlerref17_Compare.j1 k (i : Int) true p t q u) (if firstDiff p q (n - i) i = 0 then cmpT t u else firstDiff p q (n - i) i) := by
      refine Ev.succ ?_
      simp only [sutlerref17_Compare.j1, if_true]
      by_cases h : i < p.length
      · exact Ev.pos (by omega) (Ev.pos (by omega) j2)
      · have e := rd_far (l := p) (k := i) (by omega)
        rw [e] at j2
        exact Ev.neg (by omega) j2
    refine Ev.succ ?_
    simp only [sutlerref17_Compare.l0]
    by_cases h : i < p.length
    · exact Ev.pos (by omega) j1
    · refine Ev.neg (by omega) ?_
      rw [show decide ((i : Int) < (q.length : Int)) = true from decide_eq_true (by omega)]
      exact j1
theorem ref_compare (p q : List Int) (t u : ByteArray) (hp : p.length ≤ 140737488355328) (hq : q.length ≤ 140737488355328) : Ev (fun k => sutlerref17_Compare.f k p t q u) (cmpV p t q u) := by
  have := ref_compare_at p q t u (max p.length q.length) (by omega) (by omega) (by omega) (by omega) _ 0 rfl (by omega)
  rw [Nat.sub_zero] at this
  exact this
theorem ref_holds (op : Int) (p q : List Int) (t u : ByteArray) (hp : p.length ≤ 140737488355328) (hq : q.length ≤ 140737488355328) : Ev (fun k => sutlerref17_Holds.f k op p t q u) (holdB op (cmpV p t q u), holdE op) := by
  unfold sutlerref17_Holds.f
  refine Ev.bind (ref_compare p q t u hp hq) ?_
  generalize cmpV p t q u = c
  unfold holdB holdE
  by_cases h0 : op = 0
  · subst h0; exact Ev.pos rfl (Ev.val _)
  refine Ev.neg h0 ?_
  rw [if_neg h0]
  by_cases h1 : op = 1
  · subst h1; exact Ev.pos rfl (Ev.val _)
  refine Ev.neg h1 ?_
  rw [if_neg h1]
  by_cases h2 : op = 2
  · subst h2; exact Ev.pos rfl (Ev.val _)
  refine Ev.neg h2 ?_
  rw [if_neg h2]
  by_cases h3 : op = 3
  · subst h3; exact Ev.pos rfl (Ev.val _)
  refine Ev.neg h3 ?_
  rw [if_neg h3]
  by_cases h4 : op = 4
  · subst h4; exact Ev.pos rfl (Ev.val _)
  refine Ev.neg h4 ?_
  rw [if_neg h4]
  by_cases h5 : op = 5
  · subst h5; exact Ev.pos rfl (Ev.val _)
  refine Ev.neg h5 ?_
  rw [if_neg h5]
  by_cases h6 : op = 6
  · subst h6; exact Ev.pos rfl (Ev.val _)
  refine Ev.neg h6 ?_
  rw [if_neg h6, if_neg (by omega)]
  exact Ev.val _
theorem version_f {p : List Int} {t : ByteArray} (hp : p.length ≤ 17592186043904) : sutlerbase_Version.f p t = some (p, t) := by
  unfold sutlerbase_Version.f sutlerbase_Ints.f
  simp only [Option.bind_some, List.length_nil, Nat.zero_add, List.nil_append]
  rw [if_pos (by omega)]
  rfl
theorem holds_pure (op : Int) (p q : List Int) (t u : ByteArray) (hp : p.length ≤ 17592186043904) (hq : q.length ≤ 17592186043904) (ht : t.size ≤ 9223372036854775807) (hu : u.size ≤ 9223372036854775807) : ∃ k, sutlerlaw17_VersionHolds.f k op p t q u = some true := by
  refine Ev.rounds (g := fun k => sutlerlaw17_VersionHolds.f k op p t q u) ?_
  have hp' : p.length ≤ 140737488355328 := by omega
  have hq' : q.length ≤ 140737488355328 := by omega
  simp only [sutlerlaw17_VersionHolds.f, version_f hp, version_f hq, Option.bind_some, compare_at hp' hq' ht hu]
  refine Ev.bind (Ev.of (fun k => version_Holds.mono _ _ _ _ _ k) (holds_f op hp' hq' ht hu)) ?_
  refine Ev.bind (ref_holds op p q t u hp' hq') ?_
  refine Ev.pos (by simp) (Ev.pos rfl ?_)
  refine Ev.bind (ref_compare p q t u hp' hq') ?_
  refine Ev.pos rfl ?_
  refine Ev.bind (same_version p t hp') ?_
  refine Ev.pos rfl ?_
  refine Ev.bind (same_version q u hq') ?_
  refine Ev.pos rfl ?_
  rw [works_true]
  exact Ev.val _
theorem holds_call (op : Int) (A0 : Option Addr) (c0 : Nat) (x : List Int × ByteArray) (A1 : Option Addr) (c1 : Nat) (y : List Int × ByteArray) (w : World)
    (h0 : Kd.C (Kd.int .i64) w A0 x.1.length x.1) (l0 : x.1.length ≤ c0) (h1 : Kd.C (Kd.int .i64) w A1 y.1.length y.1) (l1 : y.1.length ≤ c1) (g0 : VG x) (g1 : VG y) (hT : Tabs w) :
    Calls Tryd.prog 4 #[.int .i64 op, .agg #[.slice A0 x.1.length c0, .string x.2], .agg #[.slice A1 y.1.length c1, .string y.2]] w fun e w' => e = .returned (.bool true) ∧ Below w.heap.size w w' := by
  have b0 := vg_bounds g0; have b1 := vg_bounds g1
  obtain ⟨k, hk⟩ := holds_pure op x.1 y.1 x.2 y.2 b0.1 b1.1 (by omega) (by omega)
  exact sutlerlaw17_VersionHolds.calls k op A0 c0 x.1 x.2 A1 c1 y.1 y.2 true w h0 l0 h1 l1 hk rfl hT
end Go.Proofs.YtbikimkmkchkhaaDoor.PAll
