/- VersionSorts: stableCmpFunc, SortStableFunc. -/
import Derived.Test.YtbikimkmkchkhaaDoorMASo10
namespace Go.Proofs.YtbikimkmkchkhaaDoor
open Go.RowKit Go.Proofs.YtbikimkmkchkhaaDoorW.PrintWords
attribute [local go_sem ↓] Go.wp_at_zero Go.wp_at_succ
set_option linter.unusedVariables false
set_option linter.unusedSimpArgs false
set_option maxRecDepth 100000

section
variable {w0 w : World} {g c : Nat} {L : List Res}
set_option maxHeartbeats 1000000 in
theorem St.stable {T0 : List TE} {N : Nat} (H : St w0 w (rVs g c (un T0) :: L)) (hN : T0.length = N) (hN2 : N ≤ 1000) (hok : ∀ t ∈ T0, VOk w0 t.1) (htag : T0.Pairwise (fun s t => s.2 < t.2)) :
    Calls Tryd.prog 46 #[.slice (some ⟨g, 0, none⟩) N c, .int .i64 (N : Nat), cmpF] w fun e w' => e = .returned (.tuple #[]) ∧ ∃ Z, Z.Perm T0 ∧ Srt Z ∧ St w0 w' (rVs g c (un Z) :: L) := by
  have H0 : Aside0 (St w0 w (rVs g c (un ([] ++ T0)) :: L)) := ⟨H⟩
  have HN := Aside0.mk hN
  have HOK := Aside0.mk hok
  have HTG := Aside0.mk htag
  clear H hN hok htag
  go_enter Tryd.func46, Tryd.ntmps46
  go_wp2_with fail
  go_loopw [7, 8] (fun va vb W => ∃ (a b : Nat) (D T1 R : List TE), va = .int .i64 (a : Int) ∧ vb = .int .i64 (b : Int) ∧ b = a + 20 ∧ a ≤ N ∧ Aside0 (D.length = a ∧ Full 20 D T1 ∧ T0 = T1 ++ R) ∧ Aside0 (St w0 W (rVs g c (un (D ++ R)) :: L))) (fun _ vb _ => N + 21 - (RowKit.intOf vb).toNat)
  case atStart => exact ⟨0, 20, [], [], T0, rfl, rfl, rfl, Nat.zero_le _, ⟨⟨rfl, Full.nil, rfl⟩⟩, H0⟩
  case round =>
    clear H0
    obtain ⟨a, b, D, T1, R, rfl, rfl, hb, haN, HD, HI⟩ := hrel
    by_cases hbN : b ≤ N
    · have t1 : decide ((b : Int) ≤ (N : Int)) = true := decide_eq_true (by omega)
      obtain ⟨hDl, hF, hT⟩ := HD.out
      have hpl := hF.perm.length_eq
      have hRl : R.length = N - a := by have h := HN.out; rw [hT] at h; simp at h; omega
      obtain ⟨W, hW⟩ : ∃ W, W = R.take 20 := ⟨_, rfl⟩
      obtain ⟨R', hR'⟩ : ∃ R', R' = R.drop 20 := ⟨_, rfl⟩
      have eR : R = W ++ R' := by rw [hW, hR', List.take_append_drop]
      have hWl : W.length = 20 := by rw [hW]; simp; omega
      subst eR
      have hok := HOK.out
      have htg := HTG.out
      rw [hT] at hok htg
      have hca := St.insertion (X := D) (U := W) (Y := R') (N := N) (by have h := HI.out; simpa using h) (by rw [un_len]; simp at hRl ⊢; omega) (by omega) (fun t ht => hok t (by simp [ht])) (List.pairwise_append.1 (List.pairwise_append.1 htg).2.1).1 a b hDl.symm (by omega)
      have HCA := Aside0.mk hca
      have HT1 : Aside0 (D.length = a ∧ Full 20 D T1 ∧ T0 = T1 ++ (W ++ R') ∧ W.length = 20) := ⟨⟨hDl, hF, hT, hWl⟩⟩
      have HB := Aside0.mk hb
      have hab : a < b := by omega
      clear hca hDl hF hT hpl hRl hW hR' hWl hok htg HI HD hb
      go_wp2_with fail
      refine HCA.out.mono ?_
      rintro e W2 ⟨rfl, Z, z1, z2, H2⟩
      have HD2 : Aside0 ((D ++ Z).length = b ∧ Full 20 (D ++ Z) (T1 ++ W) ∧ T0 = (T1 ++ W) ++ R') := ⟨by
        obtain ⟨hDl, hF, hT, hWl⟩ := HT1.out
        have := z1.length_eq
        have hb := HB.out
        exact ⟨by rw [List.length_append]; omega, Full.snoc D T1 Z W hF z1 z2 hWl, by rw [hT, List.append_assoc]⟩⟩
      have H2 := Aside0.mk H2
      clear HCA z1 z2 HT1
      go_wp2
      go_roundw
      case rel => exact ⟨b, b + 20, D ++ Z, T1 ++ W, R', rfl, by go_num, rfl, hbN, HD2, H2⟩
      case measure => simp only [RowKit.intOf]; omega
    · have t1 : decide ((b : Int) ≤ (N : Int)) = false := decide_eq_false (by omega)
      obtain ⟨hDl, hF, hT⟩ := HD.out
      have hpl := hF.perm.length_eq
      have hRl : R.length = N - a := by have h := HN.out; rw [hT] at h; simp at h; omega
      have hok := HOK.out
      have htg := HTG.out
      rw [hT] at hok htg
      have hca := St.insertion (X := D) (U := R) (Y := []) (N := N) (by have h := HI.out; simpa using h) (by rw [un_len]; simp; omega) (by omega) (fun t ht => hok t (by simp [ht])) (List.pairwise_append.1 htg).2.1 a N hDl.symm (by omega)
      have HCA := Aside0.mk hca
      have HT1 : Aside0 (Full 20 D T1 ∧ T0 = T1 ++ R ∧ R.length ≤ 20) := ⟨⟨hF, hT, by omega⟩⟩
      have hNb : (N : Int) < (b : Int) := by omega
      clear hca hDl hF hT hpl hRl hok htg HI HD hb haN hbN
      go_wp2_with fail
      refine HCA.out.mono ?_
      rintro e W2 ⟨rfl, Z, z1, z2, H2⟩
      have HG : Aside0 (Good 20 (D ++ Z) T0) := ⟨by
        obtain ⟨hF, hT, hl⟩ := HT1.out
        rw [hT]
        exact hF.app (Good.last Z R z1 z2 hl)⟩
      have H2 : Aside0 (St w0 W2 (rVs g c (un (D ++ Z)) :: L)) := ⟨by simpa using H2⟩
      clear HCA z1 z2 HT1
      go_wp2_with fail
      go_loopw [6, 7, 8, 9] (fun v6 v7 v8 v9 W => ∃ (bs : Nat) (cur : List TE), v6 = .int .i64 (bs : Int) ∧ 20 ≤ bs ∧ bs ≤ 2000 ∧ Aside0 (Good bs cur T0) ∧ Aside0 (St w0 W (rVs g c (un cur) :: L))) (fun v6 _ _ _ _ => N - (RowKit.intOf v6).toNat)
      case atStart => exact ⟨20, D ++ Z, rfl, by omega, by omega, HG, H2⟩
      case round =>
        clear H2 HG
        obtain ⟨bs, cur, rfl, hbs1, hbs2, HG, HI⟩ := hrel
        by_cases hbN : bs < N
        · have t1 : decide ((bs : Int) < (N : Int)) = true := decide_eq_true (by omega)
          have t1' : (bs : Int) < (N : Int) := by omega
          obtain ⟨b2, hb2⟩ : ∃ b2, b2 = 2 * bs := ⟨_, rfl⟩
          have hb2N : b2 ≤ 2000 := by omega
          have HB2 := Aside0.mk hb2
          have H1 : Aside0 (St w0 wr (rVs g c (un ([] ++ cur)) :: L)) := ⟨HI.out⟩
          clear hb2 HI
          go_wp2_with fail
          have e2 : (2 : Int) * (bs : Int) = (b2 : Int) := by have := HB2.out; omega
          have w2 : wrap64 ((2 : Int) * (bs : Int)) = (b2 : Int) := by rw [wrap_in (by omega) (by omega)]; exact e2
          try simp only [w2, e2]
          clear w2 e2
          go_loopw [7, 8] (fun va vb W => ∃ (a b : Nat) (D T1 R T2 : List TE), va = .int .i64 (a : Int) ∧ vb = .int .i64 (b : Int) ∧ b = a + b2 ∧ a ≤ N ∧ Aside0 (D.length = a ∧ Full b2 D T1 ∧ Good bs R T2 ∧ T0 = T1 ++ T2) ∧ Aside0 (St w0 W (rVs g c (un (D ++ R)) :: L))) (fun _ vb _ => N + 3000 - (RowKit.intOf vb).toNat)
          case atStart => exact ⟨0, b2, [], [], cur, T0, rfl, rfl, by omega, Nat.zero_le _, ⟨⟨rfl, Full.nil, HG.out, rfl⟩⟩, H1⟩
          case round =>
            clear H1 HG
            obtain ⟨a, b, D, T1, R, T2, rfl, rfl, hb, haN, HD, HI⟩ := hrel
            obtain ⟨hDl, hF, hG, hT⟩ := HD.out
            have hpl := hF.perm.length_eq
            have hRl : R.length = N - a := by have h := HN.out; have h2 := hG.perm.length_eq; rw [hT] at h; simp at h; omega
            have hok := HOK.out
            have htg := HTG.out
            rw [hT] at hok htg
            obtain ⟨m, hm⟩ : ∃ m, m = a + bs := ⟨_, rfl⟩
            have hm' := HB2.out
            by_cases hbN2 : b ≤ N
            · have t2 : decide ((b : Int) ≤ (N : Int)) = true := decide_eq_true (by omega)
              obtain ⟨B1, R1, W1, T3, e1, e2, p1, s1, l1, g1⟩ := hG.split (by omega)
              have lB1 := p1.length_eq
              have lR1 : R1.length = N - a - bs := by rw [e1] at hRl; simp at hRl; omega
              obtain ⟨B2, R2, W2, T4, e3, e4, p2, s2, l2', g2⟩ := g1.split (by omega)
              have lB2 := p2.length_eq
              subst e1 e2 e3 e4
              have htg2 := (List.pairwise_append.1 htg).2.1
              have hca := merge_all w0 g c L (B1.length + B2.length) wr D B1 B2 R2 N a m b (Nat.le_refl _) (by have h := HI.out; simpa using h) (by simp at hRl ⊢; omega) (by omega) (fun t ht => hok t (by
                rcases List.mem_append.1 ht with ht | ht
                · simp [p1.subset ht]
                · simp [p2.subset ht])) s1 s2 (fun u hu v hv => (List.pairwise_append.1 htg2).2.2 u (p1.subset hu) v (by simp [p2.subset hv])) (by omega) (by omega) hDl.symm (by omega) (by omega)
              have HCA := Aside0.mk hca
              have HT1 : Aside0 (D.length = a ∧ Full b2 D T1 ∧ T0 = T1 ++ (W1 ++ (W2 ++ T4)) ∧ W1.length = bs ∧ W2.length = bs ∧ B1.Perm W1 ∧ B2.Perm W2 ∧ Good bs R2 T4) := ⟨⟨hDl, hF, hT, l1, l2', p1, p2, g2⟩⟩
              have HB := Aside0.mk hb
              have HM := Aside0.mk hm
              have hab : a < b := by omega
              have hmN : m ≤ 3000 := by omega
              clear hca hDl hF hG hT hpl hRl hok htg hm hm' lB1 lR1 lB2 htg2 p1 s1 l1 g1 p2 s2 l2' g2 HI HD hb
              go_wp2_with fail
              have e5 : (a : Int) + (bs : Int) = (m : Int) := by have := HM.out; omega
              have w5 : wrap64 ((a : Int) + (bs : Int)) = (m : Int) := by rw [wrap_in (by omega) (by omega)]; exact e5
              try simp only [w5, e5]
              clear w5 e5
              refine HCA.out.mono ?_
              rintro e W2' ⟨rfl, Z, z1, z2, H2⟩
              have HD2 : Aside0 ((D ++ Z).length = b ∧ Full b2 (D ++ Z) (T1 ++ (W1 ++ W2)) ∧ Good bs R2 T4 ∧ T0 = (T1 ++ (W1 ++ W2)) ++ T4) := ⟨by
                obtain ⟨hDl, hF, hT, k1, k2, p1, p2, g2⟩ := HT1.out
                have h1 := z1.length_eq
                have h2 := p1.length_eq
                have h3 := p2.length_eq
                have hb := HB.out
                have hb2 := HB2.out
                rw [List.length_append] at h1
                exact ⟨by rw [List.length_append]; omega, Full.snoc D T1 Z (W1 ++ W2) hF (z1.trans (p1.append p2)) z2 (by rw [List.length_append]; omega), g2, by rw [hT]; simp only [List.append_assoc]⟩⟩
              have H2' : Aside0 (St w0 W2' (rVs g c (un (D ++ Z ++ R2)) :: L)) := ⟨H2⟩
              clear HCA z1 z2 HT1 H2
              go_wp2
              go_roundw
              case rel => exact ⟨b, b + b2, D ++ Z, T1 ++ (W1 ++ W2), R2, T4, rfl, by congr 1; have := HB2.out; omega, rfl, hbN2, HD2, H2'⟩
              case measure => simp only [RowKit.intOf]; have := HB2.out; omega
            · have t2 : decide ((b : Int) ≤ (N : Int)) = false := decide_eq_false (by omega)
              have t2' : (N : Int) < (b : Int) := by omega
              by_cases hmN : m < N
              · have t3 : decide ((m : Int) < (N : Int)) = true := decide_eq_true (by omega)
                have t3' : (m : Int) < (N : Int) := by omega
                obtain ⟨B1, R1, W1, T3, e1, e2, p1, s1, l1, g1⟩ := hG.split (by omega)
                have lB1 := p1.length_eq
                have lR1 : R1.length = N - a - bs := by rw [e1] at hRl; simp at hRl; omega
                obtain ⟨p2, s2⟩ := g1.one (by omega)
                subst e1 e2
                have htg2 := (List.pairwise_append.1 htg).2.1
                have hca := merge_all w0 g c L (B1.length + R1.length) wr D B1 R1 [] N a m N (Nat.le_refl _) (by have h := HI.out; simpa using h) (by simp at hRl ⊢; omega) (by omega) (fun t ht => hok t (by
                  rcases List.mem_append.1 ht with ht | ht
                  · simp [p1.subset ht]
                  · simp [p2.subset ht])) s1 s2 (fun u hu v hv => (List.pairwise_append.1 htg2).2.2 u (p1.subset hu) v (p2.subset hv)) (by omega) (by omega) hDl.symm (by omega) (by omega)
                have HCA := Aside0.mk hca
                have HG2 : Aside0 (∀ Z, Z.Perm (B1 ++ R1) → Srt Z → Good b2 (D ++ Z) T0) := ⟨fun Z z1 z2 => by
                  rw [hT]
                  refine hF.app (Good.last Z _ (z1.trans (p1.append p2)) z2 ?_)
                  have := p2.length_eq
                  rw [List.length_append]; omega⟩
                have HM := Aside0.mk hm
                have hmB : m ≤ 3000 := by omega
                clear hca hDl hF hG hT hpl hRl hok htg hm hm' lB1 lR1 htg2 p1 s1 l1 g1 p2 s2 HI HD hb hbN2 hmN
                go_upto_region 14 with fail
                have e5 : (a : Int) + (bs : Int) = (m : Int) := by have := HM.out; omega
                have w5 : wrap64 ((a : Int) + (bs : Int)) = (m : Int) := by rw [wrap_in (by omega) (by omega)]; exact e5
                try simp only [w5, e5]
                clear w5 e5
                go_wp2_with fail
                refine HCA.out.mono ?_
                rintro e W2' ⟨rfl, Z, z1, z2, H2⟩
                have HG3 := Aside0.mk (HG2.out Z z1 z2)
                have H2' : Aside0 (St w0 W2' (rVs g c (un (D ++ Z)) :: L)) := ⟨by simpa using H2⟩
                clear HCA z1 z2 HG2 H2
                go_wp2
                go_roundw
                case rel => exact ⟨b2, D ++ Z, by congr 1; have := HB2.out; omega, by have := HB2.out; omega, hb2N, HG3, H2'⟩
                case measure => simp only [RowKit.intOf]; have := HB2.out; omega
              · have t3 : decide ((m : Int) < (N : Int)) = false := decide_eq_false (by omega)
                have t3' : (N : Int) ≤ (m : Int) := by omega
                obtain ⟨p, sr⟩ := hG.one (by omega)
                have HG3 : Aside0 (Good b2 (D ++ R) T0) := ⟨by
                  rw [hT]
                  have := p.length_eq
                  exact hF.app (Good.last R _ p sr (by omega))⟩
                have H2' := HI
                have HM := Aside0.mk hm
                have hmB : m ≤ 3000 := by omega
                clear hDl hF hG hT hpl hRl hok htg hm hm' p sr HI HD hb hbN2 hmN
                go_upto_region 14 with fail
                have e5 : (a : Int) + (bs : Int) = (m : Int) := by have := HM.out; omega
                have w5 : wrap64 ((a : Int) + (bs : Int)) = (m : Int) := by rw [wrap_in (by omega) (by omega)]; exact e5
                try simp only [w5, e5]
                clear w5 e5
                go_wp2
                go_roundw
                case rel => exact ⟨b2, D ++ R, by congr 1; have := HB2.out; omega, by have := HB2.out; omega, hb2N, HG3, H2'⟩
                case measure => simp only [RowKit.intOf]; have := HB2.out; omega
        · have t1 : decide ((bs : Int) < (N : Int)) = false := decide_eq_false (by omega)
          have hfin : Aside0 (∃ Z, Z.Perm T0 ∧ Srt Z ∧ St w0 wr (rVs g c (un Z) :: L)) := ⟨by
            have hl := HG.out.perm.length_eq
            rw [HN.out] at hl
            obtain ⟨p, s⟩ := HG.out.one (by omega)
            exact ⟨cur, p, s, HI.out⟩⟩
          clear HI HG
          go_wp2
          go_end0
          exact ⟨rfl, hfin.out⟩
end
end Go.Proofs.YtbikimkmkchkhaaDoor
