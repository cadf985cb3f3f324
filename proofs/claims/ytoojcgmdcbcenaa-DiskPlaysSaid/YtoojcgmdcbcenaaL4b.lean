/- DiskOne: what its walk needs of lists and disks. -/
import Derived.Test.YtoojcgmdcbcenaaLs
import Derived.Test.YtoojcgmdcbcenaaL4a
import Derived.Lib.QuietBelow
namespace Go.Proofs.Ytoojcgmdcbcenaa
open Go.RowKit Go.Maps Go.Proofs.YtoojcgmdcbcenaaW.PrintWords
set_option linter.unusedVariables false
set_option linter.unusedSimpArgs false
set_option maxRecDepth 100000

theorem one_read {d : Dsk} (hok : d.Ok) (hf : Free d) (h1 : ∀ l ∈ d.vals, l.length = 1) {a : Nat} (ha : a < d.vals.length) : ∃ f, d.vals.getD a [] = [f] ∧ d.read (a : Int) = (f, 0) ∧ f.length = 256 := by
  have hm : d.vals.getD a [] ∈ d.vals := by
    rw [List.getD_eq_getElem?_getD, List.getElem?_eq_getElem ha]; exact List.getElem_mem _
  obtain ⟨f, hfe⟩ := List.length_eq_one_iff.1 (h1 _ hm)
  refine ⟨f, hfe, ?_, (hok.sec _ hm f (by rw [hfe]; simp)).1⟩
  unfold Dsk.read
  rw [if_neg (by omega), hf.1, if_neg (by decide), Int.toNat_natCast, hfe]
  rfl
section
variable {w0 w : World} {L : List Res}
theorem St.rowVal' {A : Option Addr} {c : Nat} {f : Sec} (H : St w0 w (rRow 5 1 (.slice A 256 c) 256 (bytes f) :: L)) : ∃ g, A = some ⟨g, 0, none⟩ ∧ St w0 w (rVal g c f :: L) := by
  obtain ⟨g, cap, e, _, _⟩ := H.row.form (by omega)
  injection e with e1 _ e3
  subst e1 e3
  exact ⟨g, rfl, H.rowVal⟩
end
section
variable {ops : Array Oper} {o : Oper} {a : Act} {W w0 : World} {Q : Exit → Act → World → Prop} {rest : List Oper} {L : List Res}
theorem wpl_appL (hg : o.guard = none) (d x : Operand) (hop : o.op = Op.call { callee := Callee.builtin Builtin.append, args := #[d, x], argTypes := #[40, 40] })
    (v : Value) (vs : List Sec) (q g cc : Nat) (s : Sec) (hd : a.eval d = v) (hx : a.eval x = .slice (some ⟨q, 0, none⟩) 1 1)
    (H : St w0 W (rList v vs :: rVal g cc s :: rBlk q (.cells #[.slice (some ⟨g, 0, none⟩) 256 cc] 31) :: L)) (hl : vs.length + 1 ≤ 1048576)
    (hK : ∀ v1 w1, St w0 w1 (rList v1 (vs ++ [s]) :: L) → wpList Try.prog ops Q rest (a.put o.dst v1) w1) : wpList Try.prog ops Q (o :: rest) a W := by
  obtain ⟨us, H⟩ := H.list
  have hr := H.row
  have hq := (H.rot4).blk
  have hlen : us.length = vs.length := by
    obtain ⟨T, S, hh, _⟩ := H.drop.fst
    exact hh.1.1
  refine wpl_app40 hg d x hop v vs.length us [.slice (some ⟨g, 0, none⟩) 256 cc] ⟨q, 0, none⟩ 1 1 hd hx rfl hr ?_ ?_ hl ?_
  · intro j u hj
    rcases j with _ | j
    · simp at hj
      subst hj
      exact (cell_of_blk hq 0).trans rfl
    · simp at hj
  · intro u hu
    simp at hu
    subst hu
    rfl
  · intro v1 w1 h1 h2 h3
    refine hK v1 w1 ?_
    have H1 := H.setRow h1 h2 (h3.imp_right fun e k hk => by rw [e] at hk; injection hk with hk; omega)
    have H3 := St.swap (St.drop (St.swap (rHdrs_snoc (St.back4 H1))))
    refine St.mkList (us ++ [.slice (some ⟨g, 0, none⟩) 256 cc]) ?_
    rw [List.length_append, List.length_singleton]
    exact H3
end
/-! ### the place, the choice -/
theorem rank_succ (vals : List (List Sec)) {I : Nat} (h : I < vals.length) : rank vals (I + 1) = rank vals I + if 1 < (vals.getD I []).length then 1 else 0 := by
  unfold rank
  rw [List.take_succ_eq_append_getElem h, List.filter_append, List.length_append, List.getD_eq_getElem?_getD, List.getElem?_eq_getElem h]
  simp only [Option.getD_some, List.filter_cons, List.filter_nil]
  split <;> rename_i h1 <;> simp at h1 <;> simp [h1]
theorem rank_le (vals : List (List Sec)) (I : Nat) : rank vals I ≤ I := by
  unfold rank
  have h1 := List.length_filter_le (fun l : List Sec => decide (1 < l.length)) (vals.take I)
  rw [List.length_take] at h1
  omega
theorem rank_on {a n t : Nat} {d0 d : Dsk} {l : List S42} (h : On a n t d0 l d) (hok : d.Ok) {I : Nat} (hI : I < n) : (1 < (d.vals.getD I []).length ↔ ∃ x ∈ l, among x.f1 n = I) := by
  have hm := h.more I hI
  have hl := h.len
  have hp : 0 < (d.vals.getD I []).length := by
    rw [List.getD_eq_getElem?_getD, List.getElem?_eq_getElem (by omega)]; exact List.length_pos_iff.2 (hok.ne _ (List.getElem_mem _))
  constructor
  · intro h1
    apply Classical.byContradiction
    intro h2
    have := hm.2 fun x hx e => h2 ⟨x, hx, e⟩
    omega
  · rintro ⟨x, hx, e⟩
    apply Classical.byContradiction
    intro h2
    exact hm.1 (by omega) x hx e
theorem info3_ : (Try.prog.info? 3).map (fun i => (i.zero, i.size, i.bytes)) = some (some (.int .i64 0), 1, 8) := by kernel_rfl
theorem info3 : ∃ i, Try.prog.info? 3 = some i ∧ i.zero = some (.int .i64 0) ∧ i.size = 1 ∧ i.bytes = 8 := by
  have h := info3_
  cases hi : Try.prog.info? 3 with
  | none => rw [hi] at h; cases h
  | some i =>
    rw [hi] at h
    simp only [Option.map_some, Option.some.injEq, Prod.mk.injEq] at h
    exact ⟨i, rfl, h.1, h.2.1, h.2.2⟩
def intz (n : Nat) : Obj := .cells (madeCells #[.int .i64 0] n) 3
theorem make_ints (w : World) (c : Int) (h0 : 0 ≤ c) (h : c ≤ 1048576) : (Instr.makeSlice 23 (.int .i64 c) (.int .i64 c)).run Try.prog w = .ok (.slice (some ⟨w.heap.size, 0, none⟩) c.toNat c.toNat) (w.alloc (intz c.toNat)) := by
  obtain ⟨i, hi, hz, hs, hb⟩ := info3
  have := run_make (P := Try.prog) w 23 3 i (.int .i64 0) Try.underlying23 hi hz .i64 .i64 c c h0 (Int.le_refl _) (by rw [hb]; omega) (by omega)
  rw [this, hs, Nat.mul_one]
  rfl
theorem choice_cells (p k : Nat) : (madeCells #[.int .i64 0] (p + 1)).setIfInBounds p (.int .i64 (k : Int)) = ((choice p k).map (Value.int .i64)).toArray := by
  apply Array.ext'
  rw [Array.toList_setIfInBounds, toList_madeCells_one, List.replicate_succ', List.set_append_right _ _ (by simp)]
  simp [choice]
section
variable {ops : Array Oper} {o : Oper} {a : Act} {W w0 : World} {Q : Exit → Act → World → Prop} {rest : List Oper} {L : List Res}
theorem wpl_makeI (hg : o.guard = none) (x : Operand) (hop : o.op = Op.makeSlice 23 x x) (n P : Nat) (hn : n = P + 1) (hP : P ≤ 4096) (hx : a.eval x = .int .i64 (n : Int)) (H : St w0 W L)
    (hK : ∀ w' g, St w0 w' (rBlk g (intz n) :: L) → w'.cell? ⟨g, P, none⟩ = some (.int .i64 0) → w'.frozen? ⟨g, P, none⟩ = false → wpList Try.prog ops Q rest (a.put o.dst (.slice (some ⟨g, 0, none⟩) n n)) w') : wpList Try.prog ops Q (o :: rest) a W := by
  refine wpList_plain hg fun K hK' => ?_
  have hrun := make_ints W (n : Int) (by omega) (by omega)
  rw [Int.toNat_natCast] at hrun
  have H1 := H.alloc (intz n)
  have hb := H1.blk
  unfold Oper.wp
  simp [execOp, hop, hx, hrun, Result.andThen]
  refine hK' _ _ (hK _ _ H1 ?_ (free_of_blk hb P))
  rw [cell_of_blk hb P]
  have : (madeCells #[.int .i64 0] n).toList[P]? = some (.int .i64 0) := by
    rw [toList_madeCells_one, hn, List.getElem?_replicate, if_pos (by omega)]
  rw [← Array.getElem?_toList]
  exact this
theorem St.listAt' {w : World} {lg N vc : Nat} {vs : List Sec} (H : St w0 w (rList (.slice (some ⟨lg, 0, none⟩) N vc) vs :: L)) (hN : N = vs.length) {K : Nat} (hK : K < N) (h256 : ∀ s ∈ vs, s.length = 256) : ∃ b c, w.cell? ⟨lg, K, none⟩ = some (.slice (some ⟨b, 0, none⟩) 256 c) ∧ Rd w (some ⟨b, 0, none⟩) (vs.getD K []) := by
  have hk2 : K < vs.length := hN ▸ hK
  obtain ⟨g, cap, b, c, e, _, h1, _, h2⟩ := H.listAt hk2 h256
  injection e with e1 e2 e3
  injection e1 with e1
  injection e1 with e1
  subst e1
  refine ⟨b, c, h1, ?_⟩
  rw [List.getD_eq_getElem?_getD, List.getElem?_eq_getElem hk2]
  exact h2
end
theorem choice_len (p k : Nat) : (choice p k).length = p + 1 := by simp [choice]
end Go.Proofs.Ytoojcgmdcbcenaa
