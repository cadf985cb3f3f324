/- VersionSorts: insertionSortCmpFunc. -/
import Derived.Test.YtbikimkmkchkhaaDoorMASo4
import Derived.Lib.QuietBelow
namespace Go.Proofs.YtbikimkmkchkhaaDoor
open Go.RowKit Go.Proofs.YtbikimkmkchkhaaDoorW.PrintWords
attribute [local go_sem ↓] Go.wp_at_zero Go.wp_at_succ
set_option linter.unusedVariables false
set_option linter.unusedSimpArgs false
set_option maxRecDepth 100000

section
variable {w0 w : World} {g c : Nat} {L : List Res}
/-- The two elements that a test reads. -/
theorem St.two {W : World} {l : List VE} (H : St w0 W (rVs g c l :: L)) {i j : Nat} {x y : VE} (hi : l[i]? = some x) (hj : l[j]? = some y) :
    W.cell? ⟨g, i * 2, none⟩ = some (.slice x.A x.p.length x.c) ∧ W.cell? ⟨g, i * 2 + 1, none⟩ = some (.string x.t) ∧ W.cell? ⟨g, j * 2, none⟩ = some (.slice y.A y.p.length y.c) ∧ W.cell? ⟨g, j * 2 + 1, none⟩ = some (.string y.t) := by
  obtain ⟨h1, g1⟩ := List.getElem?_eq_some_iff.1 hi
  obtain ⟨h2, g2⟩ := List.getElem?_eq_some_iff.1 hj
  have a := H.vsAt h1
  have b := H.vsAt h2
  rw [g1] at a
  rw [g2] at b
  exact ⟨a.1, a.2, b.1, b.2⟩
/-- Compare's contract wherever memory has grown. -/
theorem St.cmpR {W : World} {M : List Res} (H : St w0 W M) {x y : VE} (hx : VOk w0 x) (hy : VOk w0 y) (d : Nat) (os : Array Obj) : Calls Tryd.prog 9 #[.agg #[.slice x.A x.p.length x.c, .string x.t], .agg #[.slice y.A y.p.length y.c, .string y.t]] (Sort.grow (redrawn W d) os) fun e w' => e = .returned (.int .i64 (ord x y)) ∧ ∃ p : Regrown, w' = Sort.grow (redrawn W p.d) p.os :=
  Calls.regrown_of (((H.go (below_regrown W d os)).cmp hx hy).mono fun e w' ⟨h1, h2⟩ => ⟨h1, h2⟩)
theorem srt_ins {Z1 Z2 : List TE} {x : TE} (h : Srt (Z1 ++ Z2)) (h1 : ∀ z ∈ Z1, tlt z x) (h2 : ∀ z ∈ Z2, tlt x z) : Srt (Z1 ++ x :: Z2) := by
  obtain ⟨p1, p2, p3⟩ := List.pairwise_append.1 h
  refine List.pairwise_append.2 ⟨p1, List.pairwise_cons.2 ⟨h2, p2⟩, fun y hy z hz => ?_⟩
  rcases List.mem_cons.1 hz with rfl | hz
  · exact h1 y hy
  · exact p3 y hy z hz
theorem perm_ins {Z Z1 Z2 V : List TE} {x : TE} (e : Z = Z1 ++ Z2) (h : (Z ++ [x]).Perm V) : (Z1 ++ x :: Z2).Perm V := by
  subst e
  refine List.Perm.trans ?_ h
  rw [List.append_assoc]
  exact List.Perm.append_left _ (List.perm_append_singleton x Z2).symm
/-- All of a sorted run lie ahead of x, if its last one does. -/
theorem all_lt {Z : List TE} {x y : TE} (h : Srt (Z ++ [y])) (hy : tlt y x) : ∀ z ∈ Z ++ [y], tlt z x := by
  intro z hz
  rcases List.mem_append.1 hz with hz | hz
  · exact tlt_trans ((List.pairwise_append.1 h).2.2 z hz y (List.mem_singleton_self y)) hy
  · rw [List.mem_singleton.1 hz]; exact hy
abbrev cmpF : Value := .func (.func 9) #[] #[]
set_option maxHeartbeats 4000000 in
theorem St.insertion {X U Y : List TE} {N : Nat} (H : St w0 w (rVs g c (un (X ++ U ++ Y)) :: L)) (hN : (un (X ++ U ++ Y)).length = N) (hN2 : N ≤ 1048576) (hU : ∀ t ∈ U, VOk w0 t.1) (htag : U.Pairwise (fun s t => s.2 < t.2)) (a b : Nat) (ha : a = X.length) (hb : b = X.length + U.length) :
    Calls Tryd.prog 63 #[.slice (some ⟨g, 0, none⟩) N c, .int .i64 (a : Nat), .int .i64 (b : Nat), cmpF] w fun e w' => e = .returned (.tuple #[]) ∧ ∃ Z, Z.Perm U ∧ Srt Z ∧ St w0 w' (rVs g c (un (X ++ Z ++ Y)) :: L) := by
  have hbN : b ≤ N := by rw [un_len] at hN; simp at hN; omega
  have hab : a ≤ b := by omega
  have H0 : Aside0 (St w0 w (rVs g c (un (X ++ U.take 1 ++ U.drop 1 ++ Y)) :: L)) := ⟨by rw [List.append_assoc X, List.take_append_drop]; exact H⟩
  have HZ0 : Aside0 (Srt (U.take 1)) := ⟨by
    rcases U with _ | ⟨x, r⟩
    · exact List.Pairwise.nil
    · exact List.pairwise_singleton _ _⟩
  have HU := Aside0.mk hU
  have HT := Aside0.mk htag
  have HE : Aside0 (a = X.length ∧ b = X.length + U.length ∧ (un (X ++ U ++ Y)).length = N) := ⟨⟨ha, hb, hN⟩⟩
  clear H hN hU htag ha hb
  go_enter Tryd.func63, Tryd.ntmps63
  go_wp2_with fail
  go_loopw [8] (fun vi W => ∃ (d i : Nat) (Z : List TE), vi = .int .i64 (i : Int) ∧ i = a + d ∧ 1 ≤ d ∧ a + d ≤ b + 1 ∧ Aside0 (Z.Perm (U.take d)) ∧ Aside0 (Srt Z) ∧ Aside0 (St w0 W (rVs g c (un (X ++ Z ++ U.drop d ++ Y)) :: L))) (fun vi _ => b + 1 - (RowKit.intOf vi).toNat)
  case atStart => exact ⟨1, a + 1, U.take 1, by go_num, rfl, Nat.le_refl _, by omega, ⟨List.Perm.refl _⟩, HZ0, H0⟩
  case round =>
    clear H0 HZ0
    obtain ⟨d, i, Z, rfl, hi, hd1, hd2, HP, HS, HI⟩ := hrel
    by_cases hlt : i < b
    · have t1 : decide ((i : Int) < (b : Int)) = true := decide_eq_true (by omega)
      obtain ⟨ha, hb, hN⟩ := HE.out
      have hdU : d < U.length := by omega
      obtain ⟨x, hx⟩ : ∃ x, x = U[d] := ⟨_, rfl⟩
      have hdrop : U.drop d = x :: U.drop (d + 1) := by rw [hx]; exact List.drop_eq_getElem_cons hdU
      have hZl : Z.length = d := by rw [HP.out.length_eq]; simp; omega
      have hxt : ∀ y ∈ Z, y.2 < x.2 := by
        intro y hy
        have hy := HP.out.subset hy
        have e : U = U.take d ++ x :: U.drop (d + 1) := by rw [← hdrop, List.take_append_drop]
        have hp := HT.out
        rw [e] at hp
        exact (List.pairwise_append.1 hp).2.2 y hy x (List.mem_cons_self)
      have hxo : VOk w0 x.1 := HU.out x (by rw [hx]; exact List.getElem_mem _)
      have hZo : ∀ y ∈ Z, VOk w0 y.1 := fun y hy => HU.out y (List.mem_of_mem_take (HP.out.subset hy))
      have HP' : Aside0 ((Z ++ [x]).Perm (U.take (d + 1))) := ⟨by rw [List.take_succ_eq_append_getElem hdU, ← hx]; exact HP.out.append_right _⟩
      have hin : i < N := by omega
      have H1 : Aside0 (St w0 wr (rVs g c (un (X ++ Z ++ x :: ([] ++ (U.drop (d + 1) ++ Y)))) :: L)) := ⟨by
        have h := HI.out
        rw [hdrop] at h
        simpa using h⟩
      have HL0 : Aside0 (X.length = a ∧ Z.length = d) := ⟨⟨ha.symm, hZl⟩⟩
      have HX := Aside0.mk hxt
      have HXO := Aside0.mk hxo
      have HZO := Aside0.mk hZo
      have HII := Aside0.mk hi
      clear ha hb hN hx hdrop hZl hxt hxo hZo HI HP hdU hi
      go_wp2_with fail
      go_loopw [9] (fun vj W => ∃ (j : Nat) (Z1 Z2 : List TE), vj = .int .i64 (j : Int) ∧ j = a + Z1.length ∧ j ≤ i ∧ Aside0 (Z = Z1 ++ Z2) ∧ Aside0 (∀ z ∈ Z2, tlt x z) ∧ Aside0 (St w0 W (rVs g c (un (X ++ Z1 ++ x :: (Z2 ++ (U.drop (d + 1) ++ Y)))) :: L))) (fun vj _ => (RowKit.intOf vj).toNat)
      case atStart => exact ⟨i, Z, [], rfl, by rw [HL0.out.2]; exact HII.out, Nat.le_refl _, ⟨by simp⟩, ⟨by simp⟩, H1⟩
      case round =>
        clear H1
        obtain ⟨j, Z1, Z2, rfl, hj, hji, HZZ, HG, HI⟩ := hrel
        by_cases hja : a < j
        · obtain ⟨Z1', y, rfl⟩ : ∃ Z1' y, Z1 = Z1' ++ [y] := by
            have hne : Z1 ≠ [] := by
              intro e
              rw [e] at hj
              simp at hj
              omega
            exact ⟨Z1.dropLast, Z1.getLast hne, (List.dropLast_concat_getLast hne).symm⟩
          have v1 : decide ((a : Int) < (j : Int)) = true := decide_eq_true (by omega)
          have v1n : decide (a < j) = true := decide_eq_true hja
          obtain ⟨j1, hj1⟩ : ∃ j1, j1 = a + Z1'.length := ⟨_, rfl⟩
          have hjj : j = j1 + 1 := by rw [hj, hj1]; simp; omega
          obtain ⟨hXl, hZl⟩ := HL0.out
          have hPl : (un (X ++ Z1')).length = j1 := by rw [un_len]; simp; omega
          have hform : un (X ++ (Z1' ++ [y]) ++ x :: (Z2 ++ (U.drop (d + 1) ++ Y))) = un (X ++ Z1') ++ y.1 :: ([] ++ x.1 :: un (Z2 ++ (U.drop (d + 1) ++ Y))) := by simp [un]
          have H2 := HI.out
          rw [hform] at H2
          have hgx : (un (X ++ Z1') ++ y.1 :: ([] ++ x.1 :: un (Z2 ++ (U.drop (d + 1) ++ Y))))[j]? = some x.1 := by
            rw [List.getElem?_append_right (by omega), hPl, hjj]
            simp
          have hgy : (un (X ++ Z1') ++ y.1 :: ([] ++ x.1 :: un (Z2 ++ (U.drop (d + 1) ++ Y))))[j1]? = some y.1 := by
            rw [List.getElem?_append_right (by omega), hPl]
            simp
          have hym : y ∈ Z := by rw [HZZ.out]; simp
          have hyo := HZO.out y hym
          have hyt := HX.out y hym
          obtain ⟨c0, c1, c2, c3⟩ := H2.two hgx hgy
          have r1 := H2.cmpR HXO.out hyo
          have HB := Aside0.mk H2
          have HR1 := Aside0.mk r1
          have k0 := cell_regrown c0
          have k1 := cell_regrown c1
          have k2 := cell_regrown c2
          have k3 := cell_regrown c3
          have wi : IntKind.i64.wrap ((j : Int) - 1) = (j1 : Int) := by rw [IntWalk.i64_in _ (by omega)]; omega
          have q1 : (0 : Int) ≤ (j : Int) := by omega
          have q2 : (j : Int) < (N : Int) := by omega
          have q3 : (0 : Int) ≤ (j1 : Int) := by omega
          have q4 : (j1 : Int) < (N : Int) := by omega
          have HJ : Aside0 (j = j1 + 1 ∧ j1 = a + Z1'.length ∧ (un (X ++ Z1')).length = j1) := ⟨⟨hjj, hj1, hPl⟩⟩
          have HYT := Aside0.mk hyt
          clear hjj hj1 hPl hXl hZl hform H2 hgx hgy hym hyo hyt c0 c1 c2 c3 hj HI HR1
          go_wp2_with fail
          refine wp_region_quiet_below (by kernel_rfl) (by kernel_rfl) ?_
          repeat (
            with_reducible refine wpQuiet_step ?_
            intro KK hK
            go_simp
            first
              | (with_reducible refine hK _ ?_; clear hK KK)
              | (apply Exists.intro
                 refine ⟨fun _ => ?_, hK _ ?_⟩
                 (first | with_reducible exact r1 _ _)
                 clear hK KK))
          refine wpQuiet_nil ?_
          intro _ hw'
          obtain ⟨⟨dq, osq⟩, hw''⟩ := hw'
          subst hw''
          have HW := Aside0.mk (HB.out.go (below_regrown wr dq osq))
          clear k0 k1 k2 k3 r1 HB wi
          generalize Sort.grow (redrawn wr dq) osq = W at *
          by_cases hlt0 : ord x.1 y.1 < 0
          · have b1 : decide (ord x.1 y.1 < 0) = true := decide_eq_true hlt0
            have H3 := HW.out.drew
            obtain ⟨k0, k1, k2, k3, hfin⟩ := H3.xchg2
            have hf := H3.vsFree (by rw [List.length_append, List.length_cons]; omega)
            obtain ⟨hjj, hj1, hPl⟩ := HJ.out
            have hPj : (un (X ++ Z1')).length + (1 + ([] : List VE).length) = j := by rw [hPl, hjj]; rfl
            rw [hPl] at k0 k1
            rw [hPj] at k2 k3 hfin
            rw [hPl] at hfin
            have hij : ¬ j1 = j := by omega
            have hji' : ¬ j = j1 := by omega
            have HF : Aside0 (St w0 (xw2 W.drew g j1 j y.1 x.1) (rVs g c (un (X ++ Z1' ++ x :: ((y :: Z2) ++ (U.drop (d + 1) ++ Y)))) :: L)) := ⟨by
              have e : un (X ++ Z1') ++ x.1 :: ([] ++ y.1 :: un (Z2 ++ (U.drop (d + 1) ++ Y))) = un (X ++ Z1' ++ x :: ((y :: Z2) ++ (U.drop (d + 1) ++ Y))) := by simp [un]
              rw [← e]; exact hfin⟩
            simp only [xw2, VE.p0, VE.t0] at HF
            have hfi : W.frozen? ⟨g, j1 * 2, none⟩ = false := hf (j1 * 2)
            have hfi1 : W.frozen? ⟨g, j1 * 2 + 1, none⟩ = false := hf (j1 * 2 + 1)
            have hfj : W.frozen? ⟨g, j * 2, none⟩ = false := hf (j * 2)
            have hfj1 : W.frozen? ⟨g, j * 2 + 1, none⟩ = false := hf (j * 2 + 1)
            replace k0 : W.cell? ⟨g, j1 * 2, none⟩ = some (.slice y.1.A y.1.p.length y.1.c) := k0
            replace k1 : W.cell? ⟨g, j1 * 2 + 1, none⟩ = some (.string y.1.t) := k1
            replace k2 : W.cell? ⟨g, j * 2, none⟩ = some (.slice x.1.A x.1.p.length x.1.c) := k2
            replace k3 : W.cell? ⟨g, j * 2 + 1, none⟩ = some (.string x.1.t) := k3
            have HG2 : Aside0 (∀ z ∈ y :: Z2, tlt x z) := ⟨fun z hz => by
              rcases List.mem_cons.1 hz with rfl | hz
              · exact tlt_of_lt hlt0
              · exact HG.out z hz⟩
            have HZ2 : Aside0 (Z = Z1' ++ (y :: Z2)) := ⟨by rw [HZZ.out]; simp⟩
            have wi : IntKind.i64.wrap ((j : Int) - 1) = (j1 : Int) := by rw [IntWalk.i64_in _ (by omega)]; omega
            have hj1i : j1 ≤ i := by omega
            have hj1j : j1 < j := by omega
            have hjn : (j : Int) - 1 = (j1 : Int) := by omega
            have HJN := Aside0.mk hjn
            have HJ1 := Aside0.mk hj1
            clear hjj hj1 hPl hPj hfin H3 hf hjn HJ HG HW HZZ
            go_wp2_with fail
            go_region_law (fail)
            all_goals (
              clear wi
              go_wp2
              go_roundw
              case rel => exact ⟨j1, Z1', y :: Z2, by congr 1; have := HJN.out; omega, HJ1.out, hj1i, HZ2, HG2, HF⟩
              case measure => simp only [RowKit.intOf]; have := HJN.out; omega)
          · have b1 : decide (ord x.1 y.1 < 0) = false := decide_eq_false hlt0
            have hS2 : Aside0 (Srt (Z1' ++ [y] ++ x :: Z2)) := ⟨by
              have hs : Srt ((Z1' ++ [y]) ++ Z2) := by rw [← HZZ.out]; exact HS.out
              exact srt_ins hs (all_lt (List.pairwise_append.1 hs).1 (tlt_of_ge hlt0 HYT.out)) HG.out⟩
            have hP2 : Aside0 ((Z1' ++ [y] ++ x :: Z2).Perm (U.take (d + 1))) := ⟨perm_ins HZZ.out HP'.out⟩
            have HF : Aside0 (St w0 W (rVs g c (un (X ++ (Z1' ++ [y] ++ x :: Z2) ++ U.drop (d + 1) ++ Y)) :: L)) := ⟨by
              have h := HW.out
              have e : un (X ++ Z1') ++ y.1 :: ([] ++ x.1 :: un (Z2 ++ (U.drop (d + 1) ++ Y))) = un (X ++ (Z1' ++ [y] ++ x :: Z2) ++ U.drop (d + 1) ++ Y) := by simp [un]
              rwa [e] at h⟩
            have hi1 : i + 1 = a + (d + 1) := by have := HII.out; omega
            have hd3 : a + (d + 1) ≤ b + 1 := by omega
            have HI1 := Aside0.mk hi1
            clear HJ HW HZZ hi1
            have hge : 0 ≤ ord x.1 y.1 := by omega
            go_wp2
            go_roundw
            case rel => exact ⟨d + 1, i + 1, _, by go_num, HI1.out, by omega, hd3, hP2, hS2, HF⟩
            case measure => simp only [RowKit.intOf]; omega
        · have hje : j = a := by omega
          have hZ1 : Z1 = [] := List.eq_nil_of_length_eq_zero (by omega)
          subst hZ1
          have v1 : decide ((a : Int) < (j : Int)) = false := decide_eq_false (by omega)
          have v1n : decide (a < j) = false := decide_eq_false (by omega)
          have HZe : Aside0 (Z = [] ++ Z2) := HZZ
          have hS2 : Aside0 (Srt ([] ++ x :: Z2)) := ⟨srt_ins (by rw [← HZZ.out]; exact HS.out) (by simp) HG.out⟩
          have hP2 : Aside0 (([] ++ x :: Z2).Perm (U.take (d + 1))) := ⟨perm_ins HZZ.out HP'.out⟩
          have hi1 : i + 1 = a + (d + 1) := by have := HII.out; omega
          have hd3 : a + (d + 1) ≤ b + 1 := by omega
          have HI1 := Aside0.mk hi1
          have HB : Aside0 (St w0 wr (rVs g c (un (X ++ ([] ++ x :: Z2) ++ U.drop (d + 1) ++ Y)) :: L)) := ⟨by
            have h := HI.out
            have e : X ++ [] ++ x :: (Z2 ++ (U.drop (d + 1) ++ Y)) = X ++ ([] ++ x :: Z2) ++ U.drop (d + 1) ++ Y := by simp
            rwa [e] at h⟩
          clear HI HZZ HZe hi1 hj
          have r1 : True := trivial
          go_wp2_with fail
          refine wp_region_quiet_below (by kernel_rfl) (by kernel_rfl) ?_
          repeat (
            with_reducible refine wpQuiet_step ?_
            intro KK hK
            go_simp
            with_reducible refine hK _ ?_
            clear hK KK)
          refine wpQuiet_nil ?_
          intro _ hw'
          obtain ⟨⟨dq, osq⟩, hw''⟩ := hw'
          subst hw''
          have HF := Aside0.mk (HB.out.go (below_regrown wr dq osq))
          clear HB
          generalize Sort.grow (redrawn wr dq) osq = W at *
          go_wp2
          go_roundw
          case rel => exact ⟨d + 1, i + 1, _, by go_num, HI1.out, by omega, hd3, hP2, hS2, HF⟩
          case measure => simp only [RowKit.intOf]; omega
    · have t1 : decide ((i : Int) < (b : Int)) = false := decide_eq_false (by omega)
      have hfin : Aside0 (∃ Z, Z.Perm U ∧ Srt Z ∧ St w0 wr (rVs g c (un (X ++ Z ++ Y)) :: L)) := ⟨by
        obtain ⟨ha, hb, hN⟩ := HE.out
        refine ⟨Z, ?_, HS.out, ?_⟩
        · have := HP.out
          rwa [List.take_of_length_le (by omega)] at this
        · have h := HI.out
          rwa [List.drop_of_length_le (by omega), List.append_nil] at h⟩
      clear HP HS HI HE
      go_wp2
      go_end0
      exact ⟨rfl, hfin.out⟩
end
end Go.Proofs.YtbikimkmkchkhaaDoor
