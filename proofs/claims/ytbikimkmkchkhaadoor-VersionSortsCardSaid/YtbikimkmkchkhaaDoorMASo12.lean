/- VersionSorts: SortStableFunc, slices.Clone, version.Sort. -/
import Derived.Test.YtbikimkmkchkhaaDoorMASo11
import Derived.Maps.AppendAt
namespace Go.Proofs.YtbikimkmkchkhaaDoor
open Go.RowKit Go.Proofs.YtbikimkmkchkhaaDoorW.PrintWords
attribute [local go_sem ↓] Go.wp_at_zero Go.wp_at_succ
set_option linter.unusedVariables false
set_option linter.unusedSimpArgs false
set_option maxRecDepth 100000

theorem info24_ : (Tryd.prog.info? 24).map (fun i => (i.zero, i.size, i.bytes)) = some (some (.agg #[.slice none 0 0, .string ⟨#[]⟩]), 2, 40) := by kernel_rfl
theorem info24 : ∃ i, Tryd.prog.info? 24 = some i ∧ i.zero = some (.agg #[.slice none 0 0, .string ⟨#[]⟩]) ∧ i.size = 2 ∧ i.bytes = 40 := by
  have h := info24_
  cases hi : Tryd.prog.info? 24 with
  | none => rw [hi] at h; cases h
  | some i =>
    rw [hi] at h
    simp only [Option.map_some, Option.some.injEq, Prod.mk.injEq] at h
    exact ⟨i, rfl, h.1, h.2.1, h.2.2⟩
theorem enc_one (l : List VE) : ∀ u ∈ enc l, u.oneCell' = true := by
  intro u hu
  obtain ⟨x, hx, hu⟩ := List.mem_flatMap.1 hu
  simp at hu
  rcases hu with rfl | rfl <;> rfl
/-- append of versions, as a run equation. -/
theorem run_appV {W : World} {v : Value} {n : Nat} {l z : List VE} {A : Addr} {m c : Nat} (hO : W.ownsRow 0 24 2 v n (enc l)) (hm : z.length = m) (hz : ∀ j u, (enc z)[j]? = some u → W.cell? (A.add j) = some u) (hl : n + m ≤ 1048576) :
    ∃ v' w', (Builtin.append_ #[39, 39] 39 #[v, .slice (some A) m c]).run Tryd.prog W = .ok v' w' ∧ w'.ownsRow 0 24 2 v' (n + m) (enc (l ++ z)) ∧ W.grownBy w' v.ownBlock ∧ (v'.ownBlock = v.ownBlock ∨ v'.ownBlock = some W.heap.size) ∧ (v ≠ .slice none 0 0 → v' ≠ .slice none 0 0) := by
  obtain ⟨i0, hi, hz0, hz1, hz2⟩ := info24
  obtain ⟨v', w', h1, h2, h3, h4, h5⟩ := run_append_own_at (w := W) (P := Tryd.prog) (t := 39) (ty := 39) (e := 24) (base := 0) (i := i0) (z := .agg #[.slice none 0 0, .string ⟨#[]⟩]) (size := 2) (bytes := 40) (ht := Tryd.underlying39) (hi := hi) (hz := hz0) (hsize := hz1) (hby := hz2) (hzs := rfl) (hsz := by decide) (v := v) (n := n) (xs := enc l) (hown := hO) (a := A) (m := m) (c := c) (news := enc z) (hl := by rw [enc_len, hm]) (hnews := hz) (h1 := enc_one z) (h63 := by simp only [maxLen]; omega) (hbytes := by omega) (hbase := Nat.zero_le _)
  have e : enc l ++ enc z = enc (l ++ z) := by simp [enc]
  rw [e] at h2
  exact ⟨v', w', h1, h2, h3, h5, fun hn e => hn (h4.1 e).1⟩
section
variable {w0 w : World} {g c : Nat} {L : List Res}
/-- A row of versions of one's own, wherever it lies. -/
def rVv (v : Value) (l : List VE) : Res := rRow 24 2 v l.length (enc l)
theorem St.vsOf {v : Value} {l : List VE} (H : St w0 w (rVv v l :: L)) (hl : 0 < l.length) : ∃ g c, v = .slice (some ⟨g, 0, none⟩) l.length c ∧ St w0 w (rVs g c l :: L) := by
  obtain ⟨g, c, rfl, _, _⟩ := H.row.form hl
  exact ⟨g, c, rfl, H⟩
theorem St.sortStable {T0 : List TE} {N : Nat} (H : St w0 w (rVs g c (un T0) :: L)) (hN : T0.length = N) (hN2 : N ≤ 1000) (hok : ∀ t ∈ T0, VOk w0 t.1) (htag : T0.Pairwise (fun s t => s.2 < t.2)) :
    Calls Tryd.prog 31 #[.slice (some ⟨g, 0, none⟩) N c, cmpF] w fun e w' => e = .returned (.tuple #[]) ∧ ∃ Z, Z.Perm T0 ∧ Srt Z ∧ St w0 w' (rVs g c (un Z) :: L) := by
  have hc := Aside0.mk (H.stable hN hN2 hok htag)
  clear H hok htag hN
  go_enter Tryd.func31, Tryd.ntmps31
  go_wp2_with fail
  refine hc.out.mono ?_
  rintro e w2 ⟨rfl, Z, h1, h2, h3⟩
  have h3 := Aside0.mk h3
  have h2 := Aside0.mk h2
  have h1 := Aside0.mk h1
  clear hc
  go_wp2
  go_end0
  exact ⟨rfl, Z, h1.out, h2.out, h3.out⟩
theorem own_some {W : World} {base n : Nat} {v : Value} {e : TypeId} {sz : Nat} {xs : List Value} (h : W.ownsRow base e sz v n xs) (hn : v ≠ .slice none 0 0) : ∃ g c, v = .slice (some ⟨g, 0, none⟩) n c := by
  rcases h.2 with ⟨e, _⟩ | ⟨g, cap, cur, e, _⟩
  · exact absurd e hn
  · exact ⟨g, cap, e⟩
end
section
variable {ops : Array Oper} {o : Oper} {a : Act} {W w0 : World} {Q : Exit → Act → World → Prop} {rest : List Oper} {L : List Res}
theorem wpl_appV (hg : o.guard = none) (d x : Operand) (hop : o.op = Op.call { callee := Callee.builtin Builtin.append, args := #[d, x], argTypes := #[39, 39] }) (hty : o.type = 39)
    (v : Value) (l z : List VE) (A : Addr) (m c : Nat) (hd : a.eval d = v) (hx : a.eval x = .slice (some A) m c) (hm : z.length = m) (H : St w0 W (rVv v l :: L)) (hvn : v ≠ .slice none 0 0)
    (hz : ∀ j u, (enc z)[j]? = some u → W.cell? (A.add j) = some u) (hl : l.length + m ≤ 1048576)
    (hK : ∀ w1 g1 c1, St w0 w1 (rVs g1 c1 (l ++ z) :: L) → wpList Tryd.prog ops Q rest (a.put o.dst (.slice (some ⟨g1, 0, none⟩) (l.length + m) c1)) w1) : wpList Tryd.prog ops Q (o :: rest) a W := by
  refine wpList_plain hg fun K hK' => ?_
  obtain ⟨v1, w1, hrun, ho, hgr, hb, hn⟩ := run_appV (n := l.length) H.row hm hz hl
  obtain ⟨g1, c1, rfl⟩ := own_some ho (hn hvn)
  unfold Oper.wp execOp
  have hrun' : (Builtin.append_ #[39, 39] o.type #[v, .slice (some A) m c]).run Tryd.prog W = .ok (.slice (some ⟨g1, 0, none⟩) (l.length + m) c1) w1 := by rw [hty]; exact hrun
  simp only [hop, resolve, invoke, builtin, Sem.run_bind, Sem.run_pure, Result.andThen_ok, List.map_toArray, List.map_cons, List.map_nil, hd, hx, hrun']
  refine hK' _ _ (hK w1 g1 c1 ?_)
  have H1 := H.setRow ho hgr (hb.imp_right fun e k hk => by rw [e] at hk; injection hk with hk; omega)
  unfold rVs
  rw [List.length_append, hm]
  exact H1
end
section
variable {w0 w : World} {g c : Nat} {L : List Res}
theorem St.vvNil {g : Nat} (H : St w0 w (rBlk g (.cells #[] 24) :: L)) : St w0 w (rVv (.slice (some ⟨g, 0, none⟩) 0 0) [] :: L) := by
  refine H.mono fun T => Holds.cons_mono (fun S h => ⟨⟨by simp [enc], .inr ⟨g, 0, _, rfl, Nat.zero_le _, h.1, Nat.le_refl _, by simp [maxLen], rfl, rfl⟩⟩, fun i => ?_⟩) fun _ h => h
  rw [h.2 i]
  simp only [Value.ownBlock, Option.some.injEq]
  exact ⟨fun e => e.symm, fun e => e.symm⟩
set_option maxHeartbeats 1000000 in
theorem St.cloneV {l : List VE} {A : Addr} {n c : Nat} (H : St w0 w L) (hn : l.length = n) (hl : n ≤ 1000) (hz : ∀ j u, (enc l)[j]? = some u → w.cell? (A.add j) = some u) :
    Calls Tryd.prog 30 #[.slice (some A) n c] w fun e w' => ∃ g' c', e = .returned (.slice (some ⟨g', 0, none⟩) n c') ∧ St w0 w' (rVs g' c' l :: L) := by
  have H1 := Aside0.mk (H.alloc (.cells #[] 24)).vvNil
  have hz' : Aside0 (∀ j u, (enc l)[j]? = some u → (w.alloc (.cells #[] 24)).cell? (A.add j) = some u) := ⟨fun j u hj => ((Below.refl w.heap.size w).alloc (Nat.le_refl _) (.cells #[] 24)).cell (World.block_lt_of_cell? w _ (hz j u hj)) |>.trans (hz j u hj)⟩
  have HN := Aside0.mk hn
  have hq : ∀ w, (binOp .eql 39 (.slice (some A) n c) (.slice none 0 0)).run Tryd.prog w = .ok (.bool false) w := fun w => by rw [Lib.run_eql_slice_nil (e := 24)]; rfl; exact Tryd.underlying39
  clear H hn hz
  go_enter Tryd.func30, Tryd.ntmps30
  go_wp2_with (at_builtin; refine wpl_appV rfl (.tmp 5) (.tmp 6) rfl rfl (.slice (some ⟨w.heap.size, 0, none⟩) 0 0) [] l A n c rfl rfl HN.out H1.out (by simp) hz'.out (by simp; omega) ?_; intro w1 g1 c1 h1; have h1 := Aside0.mk h1)
  go_ret
  exact ⟨g1, c1, by simp, by simpa using h1.out⟩
end
end Go.Proofs.YtbikimkmkchkhaaDoor
