/- VersionSorts: the reference's insertion: three appends. -/
import Derived.Test.YtbikimkmkchkhaaDoorMASo13
namespace Go.Proofs.YtbikimkmkchkhaaDoor
open Go.RowKit Go.Proofs.YtbikimkmkchkhaaDoorW.PrintWords
set_option linter.unusedVariables false
set_option linter.unusedSimpArgs false
set_option maxRecDepth 100000

theorem enc_app (a b : List VE) : enc (a ++ b) = enc a ++ enc b := by simp [enc]
section
variable {w0 W : World} {g c : Nat} {L : List Res}
theorem St.appV {v : Value} {l z : List VE} {A : Addr} {m k : Nat} (H : St w0 W (rVv v l :: L)) (hvn : v ≠ .slice none 0 0) (hm : z.length = m) (hz : ∀ j u, (enc z)[j]? = some u → W.cell? (A.add j) = some u) (hl : l.length + m ≤ 1048576) :
    ∃ g1 c1 w1, (Builtin.append_ #[39, 39] 39 #[v, .slice (some A) m k]).run Tryd.prog W = .ok (.slice (some ⟨g1, 0, none⟩) (l.length + m) c1) w1 ∧ St w0 w1 (rVs g1 c1 (l ++ z) :: L) := by
  obtain ⟨v1, w1, hrun, ho, hgr, hb, hn⟩ := run_appV (c := k) (n := l.length) H.row hm hz hl
  obtain ⟨g1, c1, rfl⟩ := own_some ho (hn hvn)
  refine ⟨g1, c1, w1, hrun, ?_⟩
  have H1 := H.setRow ho hgr (hb.imp_right fun e k hk => by rw [e] at hk; injection hk with hk; omega)
  unfold rVs
  rw [List.length_append, hm]
  exact H1
theorem St.ins3 {Z1 Z2 : List VE} {x : VE} {A3 : Addr} {k3 : Nat} (H : St w0 W (rVs g c (Z1 ++ Z2) :: L)) (hl : Z1.length + Z2.length ≤ 1000) (hA : Z2 = [] ∨ A3 = ⟨g, Z1.length * 2, none⟩) :
    ∃ g1 c1 W2 g2 c2 W3 g3 c3 W4, (Builtin.append_ #[39, 39] 39 #[.slice (some ⟨W.heap.size, 0, none⟩) 0 0, .slice (some ⟨g, 0, none⟩) Z1.length c]).run Tryd.prog (W.alloc (.cells #[] 24)) = .ok (.slice (some ⟨g1, 0, none⟩) Z1.length c1) W2 ∧
      (Builtin.append_ #[39, 39] 39 #[.slice (some ⟨g1, 0, none⟩) Z1.length c1, .slice (some ⟨W2.heap.size, 0, none⟩) 1 1]).run Tryd.prog (W2.alloc (.cells #[x.p0, x.t0] 24)) = .ok (.slice (some ⟨g2, 0, none⟩) (Z1.length + 1) c2) W3 ∧
      (Builtin.append_ #[39, 39] 39 #[.slice (some ⟨g2, 0, none⟩) (Z1.length + 1) c2, .slice (some A3) Z2.length k3]).run Tryd.prog W3 = .ok (.slice (some ⟨g3, 0, none⟩) (Z1.length + 1 + Z2.length) c3) W4 ∧
      Below w0.heap.size w0 W2 ∧ Below w0.heap.size w0 W3 ∧ Below w0.heap.size w0 W4 ∧ St w0 W4 (rVs g3 c3 (Z1 ++ x :: Z2) :: L) := by
  have H1 := (H.alloc (.cells #[] 24)).vvNil
  have hc1 := (St.swap H1).vsCells
  obtain ⟨g1, c1, W2, e1, H2⟩ := H1.appV (z := Z1) (A := ⟨g, 0, none⟩) (m := Z1.length) (k := c) (by simp) rfl (fun j u hj => hc1 j u (by rw [enc_app, List.getElem?_append_left (List.getElem?_eq_some_iff.1 hj).1]; exact hj)) (by simp; omega)
  simp only [List.length_nil, Nat.zero_add, List.nil_append] at e1 H2
  have H3 := H2.alloc (.cells #[x.p0, x.t0] 24)
  have hb3 := H3.blk
  obtain ⟨g2, c2, W3, e2, H4⟩ := (St.swap H3).appV (v := .slice (some ⟨g1, 0, none⟩) Z1.length c1) (l := Z1) (z := [x]) (A := ⟨W2.heap.size, 0, none⟩) (m := 1) (k := 1) (by simp) rfl (fun j u hj => by
    rw [addr_add', Nat.zero_add]
    unfold World.cell?
    rw [hb3]
    rcases j with _ | j
    · have hj : some x.p0 = some u := hj
      exact hj
    · rcases j with _ | j
      · have hj : some x.t0 = some u := hj
        exact hj
      · simp [enc] at hj) (by omega)
  have H5 := (St.swap H4).drop
  have hc5 := (St.swap H5).vsCells
  obtain ⟨g3, c3, W4, e3, H6⟩ := St.appV (v := .slice (some ⟨g2, 0, none⟩) (Z1 ++ [x]).length c2) (l := Z1 ++ [x]) (z := Z2) (A := A3) (m := Z2.length) (k := k3) H5 (by simp) rfl (fun j u hj => by
    rcases hA with rfl | rfl
    · simp [enc] at hj
    · rw [addr_add']
      have := hc5 (Z1.length * 2 + j) u (by rw [enc_app, List.getElem?_append_right (by rw [enc_len]; omega), enc_len, Nat.add_sub_cancel_left]; exact hj)
      rw [addr_add', Nat.zero_add] at this
      exact this) (by simp; omega)
  have e : (Z1 ++ [x]).length = Z1.length + 1 := by simp
  rw [e] at e3
  refine ⟨g1, c1, W2, g2, c2, W3, g3, c3, W4, e1, e2, e3, H2.below, H4.below, H6.below, ?_⟩
  have H7 := (St.swap H6).drop
  have e' : Z1 ++ [x] ++ Z2 = Z1 ++ x :: Z2 := by simp
  rw [e'] at H7
  exact H7
/-- The same where both blocks are laid ahead of the first append. -/
theorem St.ins3R {Z1 Z2 : List VE} {x : VE} {A3 : Addr} {k3 bx b0 : Nat} (H : St w0 W (rVv (.slice (some ⟨b0, 0, none⟩) 0 0) [] :: rBlk bx (.cells #[x.p0, x.t0] 24) :: rVs g c (Z1 ++ Z2) :: L)) (hl : Z1.length + Z2.length ≤ 1000) (hA : Z2 = [] ∨ A3 = ⟨g, Z1.length * 2, none⟩) :
    ∃ g1 c1 W2 g2 c2 W3 g3 c3 W4, (Builtin.append_ #[39, 39] 39 #[.slice (some ⟨b0, 0, none⟩) 0 0, .slice (some ⟨g, 0, none⟩) Z1.length c]).run Tryd.prog W = .ok (.slice (some ⟨g1, 0, none⟩) Z1.length c1) W2 ∧
      (Builtin.append_ #[39, 39] 39 #[.slice (some ⟨g1, 0, none⟩) Z1.length c1, .slice (some ⟨bx, 0, none⟩) 1 1]).run Tryd.prog W2 = .ok (.slice (some ⟨g2, 0, none⟩) (Z1.length + 1) c2) W3 ∧
      (Builtin.append_ #[39, 39] 39 #[.slice (some ⟨g2, 0, none⟩) (Z1.length + 1) c2, .slice (some A3) Z2.length k3]).run Tryd.prog W3 = .ok (.slice (some ⟨g3, 0, none⟩) (Z1.length + 1 + Z2.length) c3) W4 ∧
      Below w0.heap.size w0 W2 ∧ Below w0.heap.size w0 W3 ∧ Below w0.heap.size w0 W4 ∧ St w0 W4 (rVs g3 c3 (Z1 ++ x :: Z2) :: L) := by
  have hc1 := (St.rot3 H).vsCells
  obtain ⟨g1, c1, W2, e1, H2⟩ := H.appV (z := Z1) (A := ⟨g, 0, none⟩) (m := Z1.length) (k := c) (by simp) rfl (fun j u hj => hc1 j u (by rw [enc_app, List.getElem?_append_left (List.getElem?_eq_some_iff.1 hj).1]; exact hj)) (by simp; omega)
  simp only [List.length_nil, Nat.zero_add, List.nil_append] at e1 H2
  have hb3 := (St.swap H2).blk
  obtain ⟨g2, c2, W3, e2, H4⟩ := St.appV (v := .slice (some ⟨g1, 0, none⟩) Z1.length c1) (l := Z1) (z := [x]) (A := ⟨bx, 0, none⟩) (m := 1) (k := 1) H2 (by simp) rfl (fun j u hj => by
    rw [addr_add', Nat.zero_add]
    unfold World.cell?
    rw [hb3]
    rcases j with _ | j
    · have hj : some x.p0 = some u := hj
      exact hj
    · rcases j with _ | j
      · have hj : some x.t0 = some u := hj
        exact hj
      · simp [enc] at hj) (by omega)
  have H5 := (St.swap H4).drop
  have hc5 := (St.swap H5).vsCells
  obtain ⟨g3, c3, W4, e3, H6⟩ := St.appV (v := .slice (some ⟨g2, 0, none⟩) (Z1 ++ [x]).length c2) (l := Z1 ++ [x]) (z := Z2) (A := A3) (m := Z2.length) (k := k3) H5 (by simp) rfl (fun j u hj => by
    rcases hA with rfl | rfl
    · simp [enc] at hj
    · rw [addr_add']
      have := hc5 (Z1.length * 2 + j) u (by rw [enc_app, List.getElem?_append_right (by rw [enc_len]; omega), enc_len, Nat.add_sub_cancel_left]; exact hj)
      rw [addr_add', Nat.zero_add] at this
      exact this) (by simp; omega)
  have e : (Z1 ++ [x]).length = Z1.length + 1 := by simp
  rw [e] at e3
  refine ⟨g1, c1, W2, g2, c2, W3, g3, c3, W4, e1, e2, e3, H2.below, H4.below, H6.below, ?_⟩
  have H7 := (St.swap H6).drop
  have e' : Z1 ++ [x] ++ Z2 = Z1 ++ x :: Z2 := by simp
  rw [e'] at H7
  exact H7
/-- The empty row, then the element's block. -/
theorem St.preB {l : List VE} {x : VE} (H : St w0 W (rVs g c l :: L)) : St w0 ((W.alloc (.cells #[] 24)).alloc (.cells #[x.p0, x.t0] 24)) (rVv (.slice (some ⟨W.heap.size, 0, none⟩) 0 0) [] :: rBlk (W.heap.size + 1) (.cells #[x.p0, x.t0] 24) :: rVs g c l :: L) := by
  have h := (H.alloc (.cells #[] 24)).vvNil.alloc (.cells #[x.p0, x.t0] 24)
  have e : (W.alloc (.cells #[] 24)).heap.size = W.heap.size + 1 := by simp
  rw [e] at h
  exact h.swap
/-- The element's block, then the empty row. -/
theorem St.preC {l : List VE} {x : VE} (H : St w0 W (rVs g c l :: L)) : St w0 ((W.alloc (.cells #[x.p0, x.t0] 24)).alloc (.cells #[] 24)) (rVv (.slice (some ⟨W.heap.size + 1, 0, none⟩) 0 0) [] :: rBlk W.heap.size (.cells #[x.p0, x.t0] 24) :: rVs g c l :: L) := by
  have h := ((H.alloc (.cells #[x.p0, x.t0] 24)).alloc (.cells #[] 24)).vvNil
  have e : (W.alloc (.cells #[x.p0, x.t0] 24)).heap.size = W.heap.size + 1 := by simp
  rw [e] at h
  exact h
end
end Go.Proofs.YtbikimkmkchkhaaDoor
