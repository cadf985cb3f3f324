/- The reference's disk in memory, and what DiskPlays needs of it. -/
import Derived.Test.YtoojcgmdcbcenaaR8
namespace Go.Proofs.Ytoojcgmdcbcenaa
open Go.RowKit Go.Maps Go.Proofs.YtoojcgmdcbcenaaW.PrintWords
set_option linter.unusedVariables false
set_option linter.unusedSimpArgs false
set_option maxRecDepth 100000

set_option maxHeartbeats 1000000 in
theorem bytes_calls {w : World} {ad : Addr} {c : Nat} {l : List Int} {n : Nat} (hr : Rd w (some ad) l) (hn : l.length = n) (hl : l.length ≤ 140737488355328) :
    Calls Try.prog 28 #[.slice (some ad) n c] w fun e w' => ∃ v, e = .returned v ∧ w'.ownsRow w.heap.size 5 1 v n (bytes l) ∧ Below w.heap.size w w' := by
  subst hn
  have HR := Aside0.mk hr
  have HL := Aside0.mk hl
  have hO : (w.alloc (.cells #[] 5)).ownsRow w.heap.size 5 1 (.slice (some ⟨w.heap.size, 0, none⟩) 0 0) ([] : List Int).length (bytes []) := World.ownsRow_made w #[] 0 (Nat.le_refl _) (by simp [maxLen]) rfl
  have HO := Aside0.mk hO
  have HB := Aside0.mk ((Below.refl w.heap.size w).alloc (Nat.le_refl _) (.cells #[] 5))
  clear hr hl hO
  go_enter Try.func28, Try.ntmps28
  go_wp2_with (at_builtin; refine wpl_app w.heap.size rfl (.tmp 3) (.tmp 4) rfl (.slice (some ⟨w.heap.size, 0, none⟩) 0 0) [] l ad l.length c rfl rfl rfl HO.out (Rd.below HR.out HB.out) (by simp) (by simpa using HL.out) ?_; intro v1 w1 h1 h2 h3 h4; have H1 := Aside0.mk h1; have H2 := Aside0.mk h2; have H4 := Aside0.mk h4; clear h1 h2 h3 h4)
  go_ret
  exact ⟨v1, rfl, by simpa using H1.out, HB.out.grown H2.out (by simp) (by simp [Value.ownBlock])⟩
section
variable {ops : Array Oper} {o : Oper} {a : Act} {W : World} {Q : Exit → Act → World → Prop} {rest : List Oper}
/-- append(x, y...) of numbers. -/
theorem wpl_appI (base : Nat) (hg : o.guard = none) (d x : Operand) (hop : o.op = Op.call { callee := Callee.builtin Builtin.append, args := #[d, x], argTypes := #[23, 23] })
    (v : Value) (us zs : List Value) (A : Addr) (m c : Nat) (hd : a.eval d = v) (hx : a.eval x = .slice (some A) m c) (hm : zs.length = m) (hO : W.ownsRow base 3 1 v us.length us) (hz : ∀ j u, zs[j]? = some u → W.cell? (A.add j) = some u) (h1 : ∀ u ∈ zs, u.oneCell' = true)
    (hbase : base ≤ W.heap.size) (hl : us.length + m ≤ 17592186044416)
    (hK : ∀ v1 w1, w1.ownsRow base 3 1 v1 (us.length + m) (us ++ zs) → W.grownBy w1 v.ownBlock → wpList Try.prog ops Q rest (a.put o.dst v1) w1) : wpList Try.prog ops Q (o :: rest) a W := by
  obtain ⟨i0, hi, hz0, hz1, hz2⟩ := info3
  refine wpList_append_own_at (P := Try.prog) W hg d x 23 hop base 3 i0 (.int .i64 0) 1 8 Try.underlying23 hi hz0 hz1 hz2 rfl (by decide) v us.length us hd hO A m c zs hx (by simp [hm]) hz h1 (by simp only [maxLen]; omega) (by omega) hbase ?_
  intro v1 w1 h1 h2 h3 h4
  exact hK v1 w1 h1 h2
end
end Go.Proofs.Ytoojcgmdcbcenaa
namespace Go.Proofs.Ytoojcgmdcbcenaa
open Go.RowKit Go.Maps Go.Proofs.YtoojcgmdcbcenaaW.PrintWords
set_option linter.unusedVariables false
set_option linter.unusedSimpArgs false
set_option maxRecDepth 100000

theorem RdI.nil {w : World} {A : Option Addr} {l : List Int} (h : RdI w A l) (hA : A = none) : l = [] := by
  apply Classical.byContradiction
  intro hl
  obtain ⟨ad, e, _⟩ := h.2.2 (by show 0 < l.length; exact List.length_pos_iff.2 hl)
  rw [hA] at e
  cases e
set_option maxHeartbeats 1000000 in
theorem ints_some {w : World} {ad : Addr} {c : Nat} {l : List Int} (hr : RdI w (some ad) l) (hl : l.length ≤ 17592186044416) :
    Calls Try.prog 34 #[.slice (some ad) l.length c] w fun e w' => ∃ v, e = .returned v ∧ w'.ownsRow w.heap.size 3 1 v l.length (l.map (Value.int .i64)) ∧ Below w.heap.size w w' := by
  have hO : (w.alloc (.cells #[] 3)).ownsRow w.heap.size 3 1 (.slice (some ⟨w.heap.size, 0, none⟩) 0 0) ([] : List Value).length [] := World.ownsRow_made w #[] 0 (Nat.le_refl _) (by simp [maxLen]) rfl
  have HO := Aside0.mk hO
  have hB := (Below.refl w.heap.size w).alloc (Nat.le_refl _) (.cells #[] 3)
  have hz : Aside0 (∀ j u, (l.map (Value.int .i64))[j]? = some u → (w.alloc (.cells #[] 3)).cell? (ad.add j) = some u) := ⟨fun j u hj => by
    rw [List.getElem?_map] at hj
    obtain ⟨x, hx, rfl⟩ := Option.map_eq_some_iff.1 hj
    have hjl := (List.getElem?_eq_some_iff.1 hx).1
    obtain ⟨ad', e, hc⟩ := RdI.at_ hr hjl
    cases e
    have := pw_cell_below hB hc
    rw [List.getD_eq_getElem?_getD, hx] at this
    exact this⟩
  have HB := Aside0.mk hB
  have HL := Aside0.mk hl
  clear hr hl hO hB
  go_enter Try.func34, Try.ntmps34
  go_wp2_with (at_builtin; refine wpl_appI w.heap.size rfl (.tmp 3) (.tmp 4) rfl (.slice (some ⟨w.heap.size, 0, none⟩) 0 0) [] (l.map (Value.int .i64)) ad l.length c rfl rfl (by simp) HO.out hz.out (by intro u hu; obtain ⟨x, _, rfl⟩ := List.mem_map.1 hu; rfl) (by simp) (by have := HL.out; simp; omega) ?_; intro v1 w1 h1 h2; have H1 := Aside0.mk h1; have H2 := Aside0.mk h2; clear h1 h2)
  go_ret
  exact ⟨v1, rfl, by simpa using H1.out, HB.out.grown H2.out (by simp) (by simp [Value.ownBlock])⟩
end Go.Proofs.Ytoojcgmdcbcenaa
namespace Go.Proofs.Ytoojcgmdcbcenaa
open Go.RowKit Go.Maps Go.Proofs.YtoojcgmdcbcenaaW.PrintWords
set_option linter.unusedVariables false
set_option linter.unusedSimpArgs false
set_option maxRecDepth 100000

theorem info40_ : (Try.prog.info? 40).map (fun i => (i.zero, i.size, i.bytes)) = some (some (.slice none 0 0), 1, 24) := by kernel_rfl
theorem info40 : ∃ i, Try.prog.info? 40 = some i ∧ i.zero = some (.slice none 0 0) ∧ i.size = 1 ∧ i.bytes = 24 := by
  have h := info40_
  cases hi : Try.prog.info? 40 with
  | none => rw [hi] at h; cases h
  | some i =>
    rw [hi] at h
    simp only [Option.map_some, Option.some.injEq, Prod.mk.injEq] at h
    exact ⟨i, rfl, h.1, h.2.1, h.2.2⟩
theorem run_app40 {W : World} {v : Value} {n : Nat} {us zs : List Value} {A : Addr} {m c : Nat} (hO : W.ownsRow 0 31 1 v n us) (hm : zs.length = m) (hz : ∀ j u, zs[j]? = some u → W.cell? (A.add j) = some u) (h1 : ∀ u ∈ zs, u.oneCell' = true) (hl : n + m ≤ 5864062014805) :
    ∃ v' w', (Builtin.append_ #[40, 40] 40 #[v, .slice (some A) m c]).run Try.prog W = .ok v' w' ∧ w'.ownsRow 0 31 1 v' (n + m) (us ++ zs) ∧ W.grownBy w' v.ownBlock ∧ (v' = .slice none 0 0 ↔ v = .slice none 0 0 ∧ m = 0) := by
  obtain ⟨i0, hi, hz0, hz1, hz2⟩ := info31
  exact run_append_own (w := W) (P := Try.prog) (t := 40) (ty := 40) (e := 31) (base := 0) (i := i0) (z := .slice none 0 0) (size := 1) (bytes := 24) (ht := Try.underlying40) (hi := hi) (hz := hz0) (hsize := hz1) (hby := hz2) (hzs := rfl) (hsz := by decide) (v := v) (n := n) (xs := us) (hown := hO) (a := A) (m := m) (c := c) (news := zs) (hl := by simp [hm]) (hnews := hz) (h1 := h1) (h63 := by simp only [maxLen]; omega) (hbytes := by omega) (hbase := Nat.zero_le _)
theorem run_app63 {W : World} {v : Value} {n : Nat} {us zs : List Value} {A : Addr} {m c : Nat} (hO : W.ownsRow 0 40 1 v n us) (hm : zs.length = m) (hz : ∀ j u, zs[j]? = some u → W.cell? (A.add j) = some u) (h1 : ∀ u ∈ zs, u.oneCell' = true) (hl : n + m ≤ 5864062014805) :
    ∃ v' w', (Builtin.append_ #[63, 63] 63 #[v, .slice (some A) m c]).run Try.prog W = .ok v' w' ∧ w'.ownsRow 0 40 1 v' (n + m) (us ++ zs) ∧ W.grownBy w' v.ownBlock ∧ (v' = .slice none 0 0 ↔ v = .slice none 0 0 ∧ m = 0) := by
  obtain ⟨i0, hi, hz0, hz1, hz2⟩ := info40
  exact run_append_own (w := W) (P := Try.prog) (t := 63) (ty := 63) (e := 40) (base := 0) (i := i0) (z := .slice none 0 0) (size := 1) (bytes := 24) (ht := Try.underlying63) (hi := hi) (hz := hz0) (hsize := hz1) (hby := hz2) (hzs := rfl) (hsz := by decide) (v := v) (n := n) (xs := us) (hown := hO) (a := A) (m := m) (c := c) (news := zs) (hl := by simp [hm]) (hnews := hz) (h1 := h1) (h63 := by simp only [maxLen]; omega) (hbytes := by omega) (hbase := Nat.zero_le _)
end Go.Proofs.Ytoojcgmdcbcenaa
namespace Go.Proofs.Ytoojcgmdcbcenaa
open Go.RowKit Go.Maps Go.Proofs.YtoojcgmdcbcenaaW.PrintWords
set_option linter.unusedVariables false
set_option linter.unusedSimpArgs false
set_option maxRecDepth 100000

theorem run_app40a {W : World} {v : Value} {n : Nat} {us zs : List Value} {A : Addr} {m c : Nat} (hO : W.ownsRow 0 31 1 v n us) (hm : zs.length = m) (hz : ∀ j u, zs[j]? = some u → W.cell? (A.add j) = some u) (h1 : ∀ u ∈ zs, u.oneCell' = true) (hl : n + m ≤ 5864062014805) :
    ∃ v' w', (Builtin.append_ #[40, 40] 40 #[v, .slice (some A) m c]).run Try.prog W = .ok v' w' ∧ w'.ownsRow 0 31 1 v' (n + m) (us ++ zs) ∧ W.grownBy w' v.ownBlock ∧ (v'.ownBlock = v.ownBlock ∨ v'.ownBlock = some W.heap.size) := by
  obtain ⟨i0, hi, hz0, hz1, hz2⟩ := info31
  obtain ⟨v', w', h1, h2, h3, _, h5⟩ := run_append_own_at (w := W) (P := Try.prog) (t := 40) (ty := 40) (e := 31) (base := 0) (i := i0) (z := .slice none 0 0) (size := 1) (bytes := 24) (ht := Try.underlying40) (hi := hi) (hz := hz0) (hsize := hz1) (hby := hz2) (hzs := rfl) (hsz := by decide) (v := v) (n := n) (xs := us) (hown := hO) (a := A) (m := m) (c := c) (news := zs) (hl := by simp [hm]) (hnews := hz) (h1 := h1) (h63 := by simp only [maxLen]; omega) (hbytes := by omega) (hbase := Nat.zero_le _)
  exact ⟨v', w', h1, h2, h3, h5⟩
theorem run_app63a {W : World} {v : Value} {n : Nat} {us zs : List Value} {A : Addr} {m c : Nat} (hO : W.ownsRow 0 40 1 v n us) (hm : zs.length = m) (hz : ∀ j u, zs[j]? = some u → W.cell? (A.add j) = some u) (h1 : ∀ u ∈ zs, u.oneCell' = true) (hl : n + m ≤ 5864062014805) :
    ∃ v' w', (Builtin.append_ #[63, 63] 63 #[v, .slice (some A) m c]).run Try.prog W = .ok v' w' ∧ w'.ownsRow 0 40 1 v' (n + m) (us ++ zs) ∧ W.grownBy w' v.ownBlock ∧ (v'.ownBlock = v.ownBlock ∨ v'.ownBlock = some W.heap.size) := by
  obtain ⟨i0, hi, hz0, hz1, hz2⟩ := info40
  obtain ⟨v', w', h1, h2, h3, _, h5⟩ := run_append_own_at (w := W) (P := Try.prog) (t := 63) (ty := 63) (e := 40) (base := 0) (i := i0) (z := .slice none 0 0) (size := 1) (bytes := 24) (ht := Try.underlying63) (hi := hi) (hz := hz0) (hsize := hz1) (hby := hz2) (hzs := rfl) (hsz := by decide) (v := v) (n := n) (xs := us) (hown := hO) (a := A) (m := m) (c := c) (news := zs) (hl := by simp [hm]) (hnews := hz) (h1 := h1) (h63 := by simp only [maxLen]; omega) (hbytes := by omega) (hbase := Nat.zero_le _)
  exact ⟨v', w', h1, h2, h3, h5⟩
section
variable {w0 w : World} {q : Nat} {d : Dsk} {L : List Res}
/-- An empty list of one's own. -/
theorem St.listNil {g : Nat} (H : St w0 w (rBlk g (.cells #[] 31) :: L)) : St w0 w (rList (.slice (some ⟨g, 0, none⟩) 0 0) [] :: L) := by
  refine St.mkList [] ?_
  refine H.emp.swap.mono fun T => Holds.cons_mono (fun S h => ⟨⟨by simp, .inr ⟨g, 0, _, rfl, Nat.zero_le _, h.1, Nat.le_refl _, by simp [maxLen], rfl, rfl⟩⟩, fun i => ?_⟩) (Holds.cons_mono (fun S h => ⟨⟨rfl, fun k u t h1 h2 => ?_⟩, h⟩) fun _ h => h)
  · rw [h.2 i]
    simp only [Value.ownBlock, Option.some.injEq]
    exact ⟨fun e => e.symm, fun e => e.symm⟩
  · simp at h1
/-- What a list that nobody writes holds. -/
theorem St.lstHdrs {u : Value} {vs : List Sec} (H : St w0 w (rLst u vs :: L)) : ∃ x : (Nat × Nat) × List Value, St w0 w (rAnd (u = .slice (some ⟨x.1.1, 0, none⟩) vs.length x.1.2 ∧ x.2.length = vs.length ∧ (∀ j z, x.2[j]? = some z → w.cell? ⟨x.1.1, j, none⟩ = some z) ∧ ∀ z ∈ x.2, z.oneCell' = true) (rHdrs x.2 vs) :: rLst u vs :: L) := by
  refine H.also fun T S h => ?_
  obtain ⟨⟨g, c, hs, rfl, h1, h2, h3, h4⟩, _⟩ := h
  refine ⟨((g, c), hs), ⟨rfl, h3, fun j z hj => ?_, fun z hz => ?_⟩, ⟨h3, h4⟩, fun _ h => h⟩
  · have hc := h2.cells (g := g) rfl j z hj
    rw [addr_add, Nat.zero_add] at hc
    exact hc
  · obtain ⟨k, hk, rfl⟩ := List.mem_iff_getElem.1 hz
    replace hk : k < hs.length := hk
    obtain ⟨b, c', e, _⟩ := h4 k hs[k] vs[k] (List.getElem?_eq_getElem hk) (List.getElem?_eq_getElem (by have : hs.length = vs.length := h3; omega))
    rw [e]; rfl
/-- append([][]byte{}, l...). -/
theorem St.app1 {g : Nat} {u : Value} {vs : List Sec} (hl : vs.length ≤ 5864062014805) (H : St w0 w (rList (.slice (some ⟨g, 0, none⟩) 0 0) [] :: rLst u vs :: L)) : ∃ A c v1 w1, u = .slice (some ⟨A, 0, none⟩) vs.length c ∧
    (Builtin.append_ #[40, 40] 40 #[.slice (some ⟨g, 0, none⟩) 0 0, .slice (some ⟨A, 0, none⟩) vs.length c]).run Try.prog w = .ok v1 w1 ∧ w.grownBy w1 (some g) ∧ (v1.ownBlock = some g ∨ v1.ownBlock = some w.heap.size) ∧ St w0 w1 (rList v1 vs :: L) := by
  obtain ⟨⟨⟨A, c⟩, hs⟩, H⟩ := H.swap.lstHdrs
  obtain ⟨⟨e, h3, hc, h1⟩, H⟩ := H.fact
  -- hdrs, lst, list
  obtain ⟨us, H⟩ := (St.rot3 H).list
  have hus : us = [] := List.eq_nil_of_length_eq_zero (by have := H.row.1; simpa using this)
  subst hus
  have hr := H.row
  obtain ⟨v1, w1, hrun, ho, hg, hb⟩ := run_app40a (zs := hs) (A := ⟨A, 0, none⟩) (m := vs.length) (c := c) hr h3 (fun j z hj => by rw [addr_add, Nat.zero_add]; exact hc j z hj) h1 (by simpa using hl)
  refine ⟨A, c, v1, w1, e, hrun, hg, hb, ?_⟩
  -- row, hdrs [] [], hdrs hs vs, lst
  have H1 := H.setRow ho hg (hb.imp_right fun e k hk => by rw [e] at hk; injection hk with hk; omega)
  have H2 := H1.swap.drop.rot3.drop
  refine St.mkList hs ?_
  simpa using H2
/-- append(l, b). -/
theorem St.app2 {v : Value} {vs : List Sec} {q g cc : Nat} {s : Sec} (hl : vs.length + 1 ≤ 5864062014805) (H : St w0 w (rList v vs :: rVal g cc s :: rBlk q (.cells #[.slice (some ⟨g, 0, none⟩) 256 cc] 31) :: L)) : ∃ v1 w1, (Builtin.append_ #[40, 40] 40 #[v, .slice (some ⟨q, 0, none⟩) 1 1]).run Try.prog w = .ok v1 w1 ∧ w.grownBy w1 v.ownBlock ∧ St w0 w1 (rList v1 (vs ++ [s]) :: L) := by
  obtain ⟨us, H⟩ := H.list
  have hr := H.row
  have hq := (H.rot4).blk
  have hlen : us.length = vs.length := by
    obtain ⟨T, S, hh, _⟩ := H.drop.fst
    exact hh.1.1
  obtain ⟨v1, w1, hrun, ho, hg, hb⟩ := run_app40a (zs := [.slice (some ⟨g, 0, none⟩) 256 cc]) (A := ⟨q, 0, none⟩) (m := 1) (c := 1) hr rfl (fun j u hj => by
    rcases j with _ | j
    · simp at hj
      subst hj
      exact (cell_of_blk hq 0).trans rfl
    · simp at hj) (fun u hu => by simp at hu; subst hu; rfl) hl
  refine ⟨v1, w1, hrun, hg, ?_⟩
  have H1 := H.setRow ho hg (hb.imp_right fun e k hk => by rw [e] at hk; injection hk with hk; omega)
  have H3 := St.swap (St.drop (St.swap (rHdrs_snoc (St.back4 H1))))
  refine St.mkList (us ++ [.slice (some ⟨g, 0, none⟩) 256 cc]) ?_
  rw [List.length_append, List.length_singleton]
  exact H3
end
end Go.Proofs.Ytoojcgmdcbcenaa
namespace Go.Proofs.Ytoojcgmdcbcenaa
open Go.RowKit Go.Maps Go.Proofs.YtoojcgmdcbcenaaW.PrintWords
attribute [local go_sem ↓] Go.wp_at_zero Go.wp_at_succ
set_option linter.unusedVariables false
set_option linter.unusedSimpArgs false
set_option maxRecDepth 100000

theorem put_set (d : Dsk) (j : Nat) (b : Sec) (hj : j < d.vals.length) : d.put j b = { d with vals := d.vals.set j (d.vals.getD j [] ++ [b]) } := by
  unfold Dsk.put
  congr 1
  rw [List.getD_eq_getElem?_getD, List.getElem?_eq_getElem hj]
  apply List.ext_getElem
  · simp
  · intro k h1 h2
    rw [List.getElem_modify, List.getElem_set]
    split
    · rename_i e; subst e; rfl
    · rfl
section
variable {w0 w : World} {q : Nat} {d : Dsk} {L : List Res}
theorem grown_cell {W W' : World} {r : Option Nat} (hg : W.grownBy W' r) {b k : Nat} {v : Value} (hne : some b ≠ r) (h : W.cell? ⟨b, k, none⟩ = some v) : W'.cell? ⟨b, k, none⟩ = some v := hg.cell h hne
/-- The list of sector i, and where it lies. -/
theorem St.refLst' {i : Nat} (H : St w0 w (rRef q d :: L)) (hi : i < d.vals.length) : ∃ x : Value × Nat × Nat, St w0 w (rAnd (w.cell? ⟨q, 0, none⟩ = some (.slice (some ⟨x.2.1, 0, none⟩) d.vals.length x.2.2) ∧ w.cell? ⟨x.2.1, i, none⟩ = some x.1) (rLst x.1 (d.vals.getD i [])) :: rRef q d :: L) := by
  refine H.also fun T S h => ?_
  obtain ⟨⟨u, us⟩, S1, S2, h1, ⟨S3, S4, h5, ⟨S5, S6, h7, h8, _⟩, _⟩, _⟩ := h
  have hblk := h1.2.1
  have hok := h1.1
  have hl : us.length = d.vals.length := h7.1.1
  have hll : ∀ (i : Nat) (u : Value) (vs : List Sec), us[i]? = some u → d.vals[i]? = some vs → ListAt w T u vs := h7.1.2
  have hi2 : i < us.length := by omega
  have h5o : w.ownsRow 0 40 1 u d.vals.length us := h5.1
  obtain ⟨og, oc, e0, _, _⟩ := h5o.form (by have := hok.n1; omega)
  have e0 : u = .slice (some ⟨og, 0, none⟩) d.vals.length oc := e0
  subst e0
  have hc := h5o.cells (g := og) rfl i us[i] (List.getElem?_eq_getElem (by omega))
  rw [addr_add, Nat.zero_add] at hc
  have hg : d.vals.getD i [] = d.vals[i] := by rw [List.getD_eq_getElem?_getD, List.getElem?_eq_getElem hi]; rfl
  rw [hg]
  unfold rObj at hblk
  exact ⟨(us[i], og, oc), ⟨⟨(cell_of_blk hblk 0).trans rfl, hc⟩, hll i us[i] d.vals[i] (List.getElem?_eq_getElem (by omega)) (List.getElem?_eq_getElem hi), fun _ h => h⟩⟩
/-- What the reference's Write does behind take. -/
theorem St.rPutF {B : Res} {W : World} {ad : Addr} {b : Sec} {c j : Nat} (H : St w0 W (rRef q d :: B :: L)) (hB : ∀ {w : World} {T S : Foot}, B.has w T S → Rd w (some ad) b) (hj : j < d.vals.length) (hb : b.length = 256) (hok : (d.put j b).Ok) (hl : (d.vals.getD j []).length ≤ 1000000) :
    ∃ og oc A cc v1 W2, W.cell? ⟨q, 0, none⟩ = some (.slice (some ⟨og, 0, none⟩) d.vals.length oc) ∧ W.cell? ⟨og, j, none⟩ = some (.slice (some ⟨A, 0, none⟩) (d.vals.getD j []).length cc) ∧
    (W.alloc (.cells #[] 31)).cell? ⟨q, 0, none⟩ = some (.slice (some ⟨og, 0, none⟩) d.vals.length oc) ∧ (W.alloc (.cells #[] 31)).cell? ⟨og, j, none⟩ = some (.slice (some ⟨A, 0, none⟩) (d.vals.getD j []).length cc) ∧
    (Builtin.append_ #[40, 40] 40 #[.slice (some ⟨W.heap.size, 0, none⟩) 0 0, .slice (some ⟨A, 0, none⟩) (d.vals.getD j []).length cc]).run Try.prog (W.alloc (.cells #[] 31)) = .ok v1 W2 ∧
    W2.cell? ⟨q, 0, none⟩ = some (.slice (some ⟨og, 0, none⟩) d.vals.length oc) ∧
    Calls Try.prog 50 #[.slice (some ad) 256 c] W2 fun e W3 => ∃ bb c' A2 n2 c2 W4 U, e = .returned (.slice (some ⟨bb, 0, none⟩) 256 c') ∧ W3.cell? ⟨q, 0, none⟩ = some (.slice (some ⟨og, 0, none⟩) d.vals.length oc) ∧
      (W3.alloc (.cells #[.slice (some ⟨bb, 0, none⟩) 256 c'] 31)).cell? ⟨q, 0, none⟩ = some (.slice (some ⟨og, 0, none⟩) d.vals.length oc) ∧
      (Builtin.append_ #[40, 40] 40 #[v1, .slice (some ⟨W3.heap.size, 0, none⟩) 1 1]).run Try.prog (W3.alloc (.cells #[.slice (some ⟨bb, 0, none⟩) 256 c'] 31)) = .ok (.slice A2 n2 c2) W4 ∧
      W4.cell? ⟨q, 0, none⟩ = some (.slice (some ⟨og, 0, none⟩) d.vals.length oc) ∧ W4.cell? ⟨og, j, none⟩ = some U ∧ W4.frozen? ⟨og, j, none⟩ = false ∧
      (W4.setCell ⟨og, j, none⟩ (.slice A2 n2 c2)).cell? ⟨q, 0, none⟩ = some (.slice (some ⟨og, 0, none⟩) d.vals.length oc) ∧ St w0 (W4.setCell ⟨og, j, none⟩ (.slice A2 n2 c2)) (rRef q (d.put j b) :: B :: L) := by
  -- the outer header and the list
  obtain ⟨u0, us0, H0⟩ := H.ref
  have hR0 := H0.refIs
  obtain ⟨og, oc, rfl⟩ := hR0.form
  have k0 := hR0.cells.1
  obtain ⟨A0, cc0, k1, _, _⟩ := hR0.at_ hj
  have hne : og ≠ q := by
    intro e
    obtain ⟨cur, t⟩ := ownsRow_ty hR0.row
    have hb := hR0.blk
    unfold rObj at hb
    rw [e, hb] at t
    injection t with t
    injection t with _ t _
    exact absurd t (by decide)
  have l0 := World.block_lt_of_cell? _ _ k0
  have l1 := World.block_lt_of_cell? _ _ k1
  replace l0 : q < W.heap.size := l0
  replace l1 : og < W.heap.size := l1
  have hB1 := (Below.refl W.heap.size W).alloc (Nat.le_refl _) (.cells #[] 31)
  have b0 := pw_cell_below hB1 k0
  have b1 := pw_cell_below hB1 k1
  -- behind the alloc
  have H1 := (H.alloc (.cells #[] 31)).listNil.swap
  obtain ⟨⟨u, og', oc'⟩, H1⟩ := H1.refLst' hj
  obtain ⟨⟨f0, f1⟩, H1⟩ := H1.fact
  replace f0 : (W.alloc (.cells #[] 31)).cell? ⟨q, 0, none⟩ = some (.slice (some ⟨og', 0, none⟩) d.vals.length oc') := f0
  replace f1 : (W.alloc (.cells #[] 31)).cell? ⟨og', j, none⟩ = some u := f1
  rw [b0] at f0
  cases f0
  rw [b1] at f1
  cases f1
  -- lst, ref, list
  obtain ⟨A, cc, v1, W2, hu, hrun1, hg1, ho1, H2⟩ := St.app1 (by omega) (H1.rot3)
  cases hu
  have n0 : some q ≠ some W.heap.size := fun e => by injection e with e; omega
  have n1 : some og ≠ some W.heap.size := fun e => by injection e with e; omega
  have c0 := grown_cell hg1 n0 b0
  have c1 := grown_cell hg1 n1 b1
  refine ⟨og, oc, A0, cc0, v1, W2, k0, k1, b0, b1, hrun1, c0, ?_⟩
  have hoq : some q ≠ v1.ownBlock := fun e => by
    rcases ho1 with h | h
    · rw [h] at e; injection e with e; omega
    · rw [h] at e; injection e with e; have := hB1.size; omega
  have hoo : some og ≠ v1.ownBlock := fun e => by
    rcases ho1 with h | h
    · rw [h] at e; injection e with e; omega
    · rw [h] at e; injection e with e; have := hB1.size; omega
  -- list, ref, B
  have hRd : Rd W2 (some ad) b := by
    obtain ⟨T, S, hh, _⟩ := H2.drop.drop.fst
    exact hB hh
  have HS := sector_calls (c := c) hRd hb (by omega)
  refine HS.mono ?_
  rintro e W3 ⟨v, rfl, ho3, hB3⟩
  have H3 := H2.gainRow hB3 ho3
  obtain ⟨bb, c', rfl, _, _⟩ := ho3.form (by omega)
  have H4 := H3.rowVal
  have H5 := H4.alloc (.cells #[.slice (some ⟨bb, 0, none⟩) 256 c'] 31)
  -- blk, val, list, ref, B
  have c30 := pw_cell_below hB3 c0
  have c31 := pw_cell_below hB3 c1
  have hB4 := (Below.refl W3.heap.size W3).alloc (Nat.le_refl _) (.cells #[.slice (some ⟨bb, 0, none⟩) 256 c'] 31)
  have c40 := pw_cell_below hB4 c30
  have c41 := pw_cell_below hB4 c31
  obtain ⟨v2, W4, hrun2, hg2, H6⟩ := St.app2 (by omega) (H5.rot3.rot3.swap)
  obtain ⟨A2, c2, rfl⟩ := H6.listVal
  have c50 := grown_cell hg2 hoq c40
  have c51 := grown_cell hg2 hoo c41
  have H7 := (H6.lstOf (by simp)).swap
  obtain ⟨u, us, H7⟩ := H7.ref
  have hR := H7.refIs
  obtain ⟨og', oc', rfl⟩ := hR.form
  have f0 := hR.cells.1
  rw [c50] at f0
  cases f0
  have hfz : W4.frozen? ⟨og, j, none⟩ = false := by
    obtain ⟨cur, t⟩ := ownsRow_ty hR.row
    exact free_of_blk t j
  have hp := put_set d j b hj
  have H8 := H7.refPut (i := j) rfl (by rw [← hp]; exact hok)
  rw [← hp] at H8
  exact ⟨bb, c', A2, _, c2, W4, _, rfl, c30, c40, hrun2, c50, c51, hfz, (cell_far (Ne.symm hne)).trans c50, H8⟩
end
end Go.Proofs.Ytoojcgmdcbcenaa
