/- VersionSorts: version.Sort; what is read of versions that came in. -/
import Derived.Test.YtbikimkmkchkhaaDoorMASo12
import Derived.Test.YtbikimkmkchkhaaDoorMAUs
namespace Go.Proofs.YtbikimkmkchkhaaDoor
open Go.RowKit Go.Proofs.YtbikimkmkchkhaaDoorW.PrintWords
attribute [local go_sem ↓] Go.wp_at_zero Go.wp_at_succ
set_option linter.unusedVariables false
set_option linter.unusedSimpArgs false
set_option maxRecDepth 100000

section
variable {w0 w : World} {g c : Nat} {L : List Res}
theorem St.vsCells {l : List VE} (H : St w0 w (rVs g c l :: L)) : ∀ j u, (enc l)[j]? = some u → w.cell? ((⟨g, 0, none⟩ : Addr).add j) = some u := H.row.cells rfl
set_option maxHeartbeats 1000000 in
theorem St.vsort {T0 : List TE} {N : Nat} (H : St w0 w (rVs g c (un T0) :: L)) (hN : T0.length = N) (hN2 : N ≤ 1000) (hok : ∀ t ∈ T0, VOk w0 t.1) (htag : T0.Pairwise (fun s t => s.2 < t.2)) :
    Calls Tryd.prog 18 #[.slice (some ⟨g, 0, none⟩) N c] w fun e w' => ∃ g' c' Z, e = .returned (.slice (some ⟨g', 0, none⟩) N c') ∧ Z.Perm T0 ∧ Srt Z ∧ St w0 w' (rVs g' c' (un Z) :: rVs g c (un T0) :: L) := by
  have hc := Aside0.mk (H.cloneV (n := N) (c := c) (l := un T0) (A := ⟨g, 0, none⟩) (by rw [un_len]; exact hN) hN2 H.vsCells)
  have HN := Aside0.mk hN
  have HOK := Aside0.mk hok
  have HTG := Aside0.mk htag
  clear H hN hok htag
  go_enter Tryd.func18, Tryd.ntmps18
  go_wp2_with fail
  refine hc.out.mono ?_
  rintro e w2 ⟨g', c', rfl, H2⟩
  have hs := Aside0.mk (H2.sortStable HN.out hN2 HOK.out HTG.out)
  clear H2 hc
  go_wp2_with fail
  refine hs.out.mono ?_
  rintro e w3 ⟨rfl, Z, z1, z2, H3⟩
  have H3 := Aside0.mk H3
  have z1 := Aside0.mk z1
  have z2 := Aside0.mk z2
  clear hs
  go_wp2
  go_ret
  exact ⟨g', c', Z, rfl, z1.out, z2.out, H3.out⟩
/-- The reference's Compare. -/
theorem St.rcmp (H : St w0 w L) {x y : VE} (hx : VOk w0 x) (hy : VOk w0 y) : Calls Tryd.prog 13 #[.agg #[.slice x.A x.p.length x.c, .string x.t], .agg #[.slice y.A y.p.length y.c, .string y.t]] w fun e w' => e = .returned (.int .i64 (ord x y)) ∧ Below w.heap.size w w' := by
  have h1 := hx.len; have h3 := hy.len
  obtain ⟨k, hk⟩ := PAll.ref_compare x.p y.p x.t y.t (by omega) (by omega)
  exact PAll.sutlerref17_Compare.calls k x.A x.c x.p x.t y.A y.c y.p y.t (ord x y) w (Kd.C_below hx.rd H.below) hx.cap (Kd.C_below hy.rd H.below) hy.cap (hk k (Nat.le_refl _))
end
end Go.Proofs.YtbikimkmkchkhaaDoor
