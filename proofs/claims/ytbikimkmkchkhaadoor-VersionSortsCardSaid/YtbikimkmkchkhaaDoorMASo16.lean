/- VersionSorts: the law. -/
import Derived.Test.YtbikimkmkchkhaaDoorMASo15
import Derived.Test.YtbikimkmkchkhaaDoorMAPAllx73
namespace Go.Proofs.YtbikimkmkchkhaaDoor
open Go.RowKit Go.Proofs.YtbikimkmkchkhaaDoorW.PrintWords
attribute [local go_sem ↓] Go.wp_at_zero Go.wp_at_succ
set_option linter.unusedVariables false
set_option linter.unusedSimpArgs false
set_option maxRecDepth 100000

theorem zip_un (l : List VE) : un l.zipIdx = l := by simp [un]
theorem zip_tag : ∀ (l : List VE) (n : Nat), (l.zipIdx n).Pairwise (fun s t => s.2 < t.2)
  | [], n => by simp
  | a :: r, n => by
    rw [List.zipIdx_cons]
    refine List.pairwise_cons.2 ⟨fun t ht => ?_, zip_tag r (n + 1)⟩
    have := List.le_snd_of_mem_zipIdx ht
    show n < t.2
    omega
section
variable {w0 w : World} {g c : Nat} {L : List Res}
theorem St.sameR {W : World} {M : List Res} (H : St w0 W M) {x : VE} (hx : VOk w0 x) (d : Nat) (os : Array Obj) : Calls Tryd.prog 14 #[.agg #[.slice x.A x.p.length x.c, .string x.t], .agg #[.slice x.A x.p.length x.c, .string x.t]] (Sort.grow (redrawn W d) os) fun e w' => e = .returned (.bool true) ∧ ∃ p : Regrown, w' = Sort.grow (redrawn W p.d) p.os := by
  have h1 := hx.len
  obtain ⟨k, hk⟩ := PAll.same_version x.p x.t (by omega)
  have hb := (H.go (below_regrown W d os)).below
  exact Calls.regrown_of (PAll.sutlerbase_SameVersion.calls k x.A x.c x.p x.t x.A x.c x.p x.t true _ (Kd.C_below hx.rd hb) hx.cap (Kd.C_below hx.rd hb) hx.cap (hk k (Nat.le_refl _)))
set_option maxHeartbeats 1000000 in
theorem St.rsortNil {cl : Nat} (H : St w0 w L) : Calls Tryd.prog 19 #[.slice none 0 cl] w fun e w' => ∃ g' c', e = .returned (.slice (some ⟨g', 0, none⟩) 0 c') ∧ St w0 w' (rVs g' c' [] :: L) := by
  have H0 : Aside0 (St w0 (w.alloc (.cells #[] 24)) (rVs w.heap.size 0 [] :: L)) := ⟨(H.alloc (.cells #[] 24)).vvNil⟩
  clear H
  go_enter Tryd.func19, Tryd.ntmps19
  go_wp2_with fail
  go_loopw [3, 4] (fun v3 v4 W => v3 = .slice (some ⟨w.heap.size, 0, none⟩) 0 0 ∧ v4 = .int .i64 0 ∧ W = w.alloc (.cells #[] 24)) (fun _ _ _ => 0)
  case atStart => exact ⟨rfl, rfl, rfl⟩
  case round =>
    obtain ⟨rfl, rfl, rfl⟩ := hrel
    go_wp2
    go_ret
    exact ⟨_, _, rfl, H0.out⟩
end
set_option maxHeartbeats 4000000 in
/-- The same two lists, whoever sorted. -/
theorem sorts_walk {w : World} {A : Option Addr} {N c : Nat} {l : List VE} (hn : l.length = N) (hle : N ≤ c) (hz : ∀ a, A = some a → ∀ j u, (enc l)[j]? = some u → w.cell? (a.add j) = some u) (hA : A = none → N = 0) (hok : AllOk w l) (hT : PAll.Tabs w) :
    Calls Tryd.prog 7 #[.slice A N c] w fun e w' => e = .returned (.bool true) ∧ Below w.heap.size w w' := by
  have HN := Aside0.mk hn
  have HZ := Aside0.mk hz
  have HA := Aside0.mk hA
  have HOK := Aside0.mk hok
  have HT := Aside0.mk hT
  clear hn hz hA hok hT
  go_enter Tryd.func7, Tryd.ntmps7
  go_upto_if 9 with fail
  go_cut [0] (fun v0 W => ∃ N' : Nat, v0 = .slice A N' c ∧ N' ≤ 100 ∧ N' ≤ N ∧ Aside0 (W = w))
  case first =>
    by_cases h1 : 100 < N
    · have t1 : decide ((100 : Int) < (N : Int)) = true := decide_eq_true (by omega)
      have t2 : (100 : Int) < (N : Int) := by omega
      have t3 : (100 : Int) ≤ (c : Int) := by omega
      have t4 : ¬ c = 0 := by omega
      obtain ⟨a, rfl⟩ : ∃ a, A = some a := by
        cases A with
        | none => have := HA.out rfl; omega
        | some a => exact ⟨a, rfl⟩
      go_wp2
      go_meet
      exact ⟨100, rfl, by omega, by omega, ⟨rfl⟩⟩
    · have t1 : decide ((100 : Int) < (N : Int)) = false := decide_eq_false (by omega)
      have t2 : (N : Int) ≤ 100 := by omega
      go_wp2
      go_meet
      exact ⟨N, rfl, by omega, by omega, ⟨rfl⟩⟩
  case rest =>
    obtain ⟨M, rfl, hM1, hM2, hW⟩ := hcut
    have hW := hW.out
    subst hW
    obtain ⟨T, hTd⟩ : ∃ T, T = l.take M := ⟨_, rfl⟩
    have hTl : T.length = M := by rw [hTd, List.length_take, HN.out]; omega
    have hTok : AllOk wc T := fun x hx => HOK.out x (List.mem_of_mem_take (hTd ▸ hx))
    have hok0 : ∀ t ∈ T.zipIdx, VOk wc t.1 := fun t ht => hTok t.1 (List.fst_mem_of_mem_zipIdx ht)
    have hzl0 : T.zipIdx.length = M := by simp [hTl]
    have key : ∀ v3 v4 v5 : Value, True := fun _ _ _ => trivial
    have HTL := Aside0.mk hTl
    have HTOK := Aside0.mk hTok
    have HOK0 := Aside0.mk hok0
    have HZL0 := Aside0.mk hzl0
    have HTD := Aside0.mk hTd
    have hM3 : M ≤ c := by omega
    have H0 : Aside0 (St wc (wc.alloc (.cells #[] 24)) (rVv (.slice (some ⟨wc.heap.size, 0, none⟩) 0 0) [] :: [])) := ⟨((St.start wc).alloc (.cells #[] 24)).vvNil⟩
    clear hTd hTl hTok hok0 hzl0 key hle hM2
    cases A with
    | none =>
      have hM0 : M = 0 := by
        have h1 := HA.out rfl
        have h2 := HTD.out
        have h3 := HTL.out
        have h4 := HN.out
        rw [h2, List.length_take] at h3
        omega
      subst hM0
      have H1 : Aside0 (St wc (wc.alloc (.cells #[] 24)) (rVs wc.heap.size 0 (un ([] : List TE)) :: [])) := H0
      have hs := Aside0.mk (H1.out.vsort (N := 0) rfl (by omega) (by simp) List.Pairwise.nil)
      clear H0 H1 HZ HA HOK HN HTD HTL HTOK HOK0 HZL0
      go_wp2_with fail
      refine hs.out.mono ?_
      rintro e w2 ⟨g2, c2, Z, rfl, z1, z2, H2⟩
      have hr := Aside0.mk (H2.rsortNil (cl := c))
      clear hs H2 z1 z2
      go_wp2_with fail
      refine hr.out.mono ?_
      rintro e w3 ⟨g3, c3, rfl, H3⟩
      have HI0 := Aside0.mk H3.below
      clear hr H3
      go_wp2_with fail
      go_loopw [6] (fun v6 W => v6 = .int .i64 0 ∧ W = w3) (fun _ _ => 0)
      case atStart => exact ⟨rfl, rfl⟩
      case round =>
        obtain ⟨rfl, rfl⟩ := hrel
        have hw := PAll.sutlerlaw17_works.calls true wr PAll.works_true (HT.out.below HI0.out)
        have HWK := Aside0.mk hw
        clear hw
        go_wp2_with fail
        refine HWK.out.mono ?_
        rintro e w9 ⟨rfl, hb9⟩
        have HB9 := Aside0.mk (HI0.out.trans (hb9.mono HI0.out.size))
        clear HI0 HWK hb9
        go_wp2
        go_ret
        exact ⟨rfl, HB9.out⟩
    | some a =>
      have hcl : ∀ i x, T[i]? = some x → wc.cell? (a.add (i * 2)) = some (.slice x.A x.p.length x.c) ∧ wc.cell? ⟨(a.add (i * 2)).block, (a.add (i * 2)).off + 1, none⟩ = some (.string x.t) := fun i x hx => by
        rw [HTD.out] at hx
        have hil : i < l.length := by
          have := (List.getElem?_eq_some_iff.1 hx).1
          rw [List.length_take] at this
          omega
        have hx' : l[i] = x := by
          rw [List.getElem?_take] at hx
          split at hx
          · rw [List.getElem?_eq_getElem hil] at hx; injection hx
          · cases hx
        obtain ⟨g0, g1⟩ := enc_get l hil
        rw [hx'] at g0 g1
        have e1 : a.add (i * 2 + 1) = ⟨(a.add (i * 2)).block, (a.add (i * 2)).off + 1, none⟩ := by
          unfold Addr.add
          rw [if_neg (by omega)]
          by_cases h0 : i * 2 = 0
          · rw [if_pos h0, h0]
          · rw [if_neg h0, Nat.add_assoc]
        exact ⟨HZ.out a rfl _ _ g0, e1 ▸ HZ.out a rfl _ _ g1⟩
      have hcz : ∀ j u, (enc T)[j]? = some u → (wc.alloc (.cells #[] 24)).cell? (a.add j) = some u := fun j u hj => by
        have hj' : (enc l)[j]? = some u := by
          rw [HTD.out] at hj
          have : enc l = enc (l.take M) ++ enc (l.drop M) := by rw [← enc_app, List.take_append_drop]
          rw [this, List.getElem?_append_left (List.getElem?_eq_some_iff.1 hj).1]
          exact hj
        have h := HZ.out a rfl j u hj'
        exact (((Below.refl wc.heap.size wc).alloc (Nat.le_refl _) (.cells #[] 24)).cell (World.block_lt_of_cell? wc _ h)).trans h
      have HCL := Aside0.mk hcl
      have HCZ := Aside0.mk hcz
      clear hcl hcz HZ HA HOK HN HTD
      go_upto_region 4 with (at_builtin; refine wpl_appV rfl (.tmp 12) (.tmp 13) rfl rfl (.slice (some ⟨wc.heap.size, 0, none⟩) 0 0) [] T a M c rfl rfl HTL.out H0.out (by simp) HCZ.out (by simp; omega) ?_; intro w1 g1 c1 h1; have h1 := Aside0.mk h1)
      have H1 : Aside0 (St wc w1 (rVs g1 c1 (un T.zipIdx) :: [])) := ⟨by rw [zip_un]; simpa using h1.out⟩
      have hs := Aside0.mk (H1.out.vsort HZL0.out (by omega) HOK0.out (zip_tag T 0))
      clear h1 H0 HCZ
      go_wp2_with fail
      refine hs.out.mono ?_
      rintro e w2 ⟨g2, c2, Z, rfl, z1, z2, H2⟩
      have z1 := Aside0.mk z1
      have z2 := Aside0.mk z2
      have hr := Aside0.mk (H2.rsort (A := a) (cl := c) HZL0.out (by omega) HOK0.out (zip_tag T 0) (fun i h => by
        have hx : T[i]? = some (T.zipIdx[i].1) := by
          have h' : i < T.length := by simpa using h
          rw [List.getElem_zipIdx, List.getElem?_eq_getElem h']
        exact HCL.out i _ hx))
      clear hs H1 H2
      go_wp2_with fail
      refine hr.out.mono ?_
      rintro e w3 ⟨g3, c3, Z', rfl, z3, z4, H3⟩
      have hZZ : Z' = Z := srt_unique (z3.trans z1.out.symm) z4 z2.out
      rw [hZZ, zip_un] at H3
      have HI0 := Aside0.mk H3
      have HZL : Aside0 (Z.length = M) := ⟨by rw [z1.out.length_eq]; exact HZL0.out⟩
      have HZO : Aside0 (∀ t ∈ Z, VOk wc t.1) := ⟨fun t ht => HOK0.out t (z1.out.subset ht)⟩
      have HZS : Aside0 (Srt Z) := z2
      clear hr hZZ z3 z4 H3 z1 z2 HOK0 HZL0
      go_wp2_with fail
      go_loopw [6] (fun v6 W => ∃ i : Nat, v6 = .int .i64 (i : Int) ∧ i ≤ M ∧ Aside0 (St wc W (rVs g3 c3 (un Z) :: rVs g2 c2 (un Z) :: rVs g1 c1 T :: []))) (fun v6 _ => M - (RowKit.intOf v6).toNat)
      case atStart => exact ⟨0, rfl, Nat.zero_le _, HI0⟩
      case round =>
        clear HI0
        obtain ⟨i, rfl, hi, HI⟩ := hrel
        by_cases hiM : i < M
        · have t1 : decide ((i : Int) < (M : Int)) = true := decide_eq_true (by omega)
          have t1' : (i : Int) < (M : Int) := by omega
          have hzl : i < Z.length := by rw [HZL.out]; exact hiM
          have hxl : i < T.length := by rw [HTL.out]; exact hiM
          obtain ⟨z, hz⟩ : ∃ z, z = Z[i].1 := ⟨_, rfl⟩
          obtain ⟨x, hx⟩ : ∃ x, x = T[i] := ⟨_, rfl⟩
          have hzg : (un Z)[i]? = some z := by rw [un, List.getElem?_map, List.getElem?_eq_getElem hzl, hz]; rfl
          have hxg : T[i]? = some x := by rw [List.getElem?_eq_getElem hxl, hx]
          have hzo : VOk wc z := by rw [hz]; exact HZO.out _ (List.getElem_mem _)
          have hxo : VOk wc x := by rw [hx]; exact HTOK.out _ (List.getElem_mem _)
          have hb := HI.out.below
          obtain ⟨b0, b1, _, _⟩ := HI.out.two hzg hzg
          obtain ⟨a0, a1, _, _⟩ := (St.swap HI.out).two hzg hzg
          obtain ⟨o0, o1, _, _⟩ := (St.rot3 HI.out).two hxg hxg
          obtain ⟨l0, l1⟩ := HCL.out i x hxg
          have l0 := (hb.cell (World.block_lt_of_cell? wc _ l0)).trans l0
          have l1 := (hb.cell (World.block_lt_of_cell? wc _ l1)).trans l1
          have r1 := HI.out.sameR hzo
          have r2 := HI.out.sameR hxo
          have k0 := cell_regrown b0
          have k1 := cell_regrown b1
          have k2 := cell_regrown a0
          have k3 := cell_regrown a1
          have k4 := cell_regrown o0
          have k5 := cell_regrown o1
          have k6 := cell_regrown l0
          have k7 := cell_regrown l1
          have q1 : (0 : Int) ≤ (i : Int) := by omega
          by_cases hi0 : 0 < i
          · as_aux_lemma =>
              have v1 : decide ((0 : Int) < (i : Int)) = true := decide_eq_true (by omega)
              have v1' : (0 : Int) < (i : Int) := by omega
              obtain ⟨i', hi'⟩ : ∃ i', i = i' + 1 := ⟨i - 1, by omega⟩
              have hyl : i' < Z.length := by omega
              obtain ⟨y, hy⟩ : ∃ y, y = Z[i'].1 := ⟨_, rfl⟩
              have hyg : (un Z)[i']? = some y := by rw [un, List.getElem?_map, List.getElem?_eq_getElem hyl, hy]; rfl
              have hyo : VOk wc y := by rw [hy]; exact HZO.out _ (List.getElem_mem _)
              obtain ⟨p0, p1, _, _⟩ := (St.swap HI.out).two hyg hyg
              have k8 := cell_regrown p0
              have k9 := cell_regrown p1
              have r3 := HI.out.cmpR hyo hzo
              have hyz : ord y z ≤ 0 := by
                have h := List.pairwise_iff_getElem.1 HZS.out i' i hyl hzl (by omega)
                rw [hy, hz]
                rcases h with h | h <;> omega
              have v2 : decide ((0 : Int) < ord y z) = false := decide_eq_false (by omega)
              have wi : IntKind.i64.wrap ((i : Int) - 1) = (i' : Int) := by rw [IntWalk.i64_in _ (by omega)]; omega
              have q2 : (0 : Int) ≤ (i' : Int) := by omega
              have q3 : (i' : Int) < (M : Int) := by omega
              clear hi' hyl hy hyg hyo p0 p1 hzl hxl hz hx hzg hxg hzo hxo hb b0 b1 a0 a1 o0 o1 l0 l1
              go_wp2_with fail
              refine wp_region_quiet_below (by kernel_rfl) (by kernel_rfl) ?_
              repeat (
                with_reducible refine wpQuiet_step ?_
                intro KK hK
                go_simp
                first
                  | (with_reducible refine hK _ ?_; clear hK KK)
                  | (apply Exists.intro
                     refine ⟨fun _ => ?_, hK _ ?_⟩
                     (first | with_reducible exact r1 _ _ | with_reducible exact r2 _ _ | with_reducible exact r3 _ _)
                     clear hK KK))
              refine wpQuiet_nil ?_
              intro _ hw'
              obtain ⟨⟨dq, osq⟩, hw''⟩ := hw'
              subst hw''
              have HW := Aside0.mk (HI.out.go (below_regrown wr dq osq))
              clear HI
              clear k0 k1 k2 k3 k4 k5 k6 k7 k8 k9 r1 r2 r3 wi q2 q3
              generalize Sort.grow (redrawn wr dq) osq = W at *
              go_wp2
              go_roundw
              case rel => exact ⟨i + 1, by go_num, hiM, HW⟩
              case measure => simp only [RowKit.intOf]; omega
          · as_aux_lemma =>
              have v1 : decide ((0 : Int) < (i : Int)) = false := decide_eq_false (by omega)
              have v1' : (i : Int) ≤ 0 := by omega
              clear hzl hxl hz hx hzg hxg hzo hxo hb b0 b1 a0 a1 o0 o1 l0 l1
              go_wp2_with fail
              refine wp_region_quiet_below (by kernel_rfl) (by kernel_rfl) ?_
              repeat (
                with_reducible refine wpQuiet_step ?_
                intro KK hK
                go_simp
                first
                  | (with_reducible refine hK _ ?_; clear hK KK)
                  | (apply Exists.intro
                     refine ⟨fun _ => ?_, hK _ ?_⟩
                     (first | with_reducible exact r1 _ _ | with_reducible exact r2 _ _)
                     clear hK KK))
              refine wpQuiet_nil ?_
              intro _ hw'
              obtain ⟨⟨dq, osq⟩, hw''⟩ := hw'
              subst hw''
              have HW := Aside0.mk (HI.out.go (below_regrown wr dq osq))
              clear HI
              clear k0 k1 k2 k3 k4 k5 k6 k7 r1 r2
              generalize Sort.grow (redrawn wr dq) osq = W at *
              go_wp2
              go_roundw
              case rel => exact ⟨i + 1, by go_num, hiM, HW⟩
              case measure => simp only [RowKit.intOf]; omega
        · have hie : i = M := by omega
          subst hie
          have t1 : decide ((i : Int) < (i : Int)) = false := decide_eq_false (by omega)
          have hw := PAll.sutlerlaw17_works.calls true wr PAll.works_true (HT.out.below HI.out.below)
          have HWK := Aside0.mk hw
          clear hw
          go_wp2_with fail
          refine HWK.out.mono ?_
          rintro e w9 ⟨rfl, hb9⟩
          have HB9 := Aside0.mk (HI.out.below.trans (hb9.mono HI.out.below.size))
          clear HI HWK hb9
          go_wp2
          go_ret
          exact ⟨rfl, HB9.out⟩
end Go.Proofs.YtbikimkmkchkhaaDoor
