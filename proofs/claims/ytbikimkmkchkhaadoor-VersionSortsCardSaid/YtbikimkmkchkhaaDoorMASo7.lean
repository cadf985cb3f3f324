/- VersionSorts: symMergeCmpFunc where the second run is of one element. -/
import Derived.Test.YtbikimkmkchkhaaDoorMASo6
namespace Go.Proofs.YtbikimkmkchkhaaDoor
open Go.RowKit Go.Proofs.YtbikimkmkchkhaaDoorW.PrintWords
attribute [local go_sem ↓] Go.wp_at_zero Go.wp_at_succ
set_option linter.unusedVariables false
set_option linter.unusedSimpArgs false
set_option maxRecDepth 100000

section
variable {w0 w : World} {g c : Nat} {L : List Res}
set_option maxHeartbeats 4000000 in
theorem St.symB {X U Y : List TE} {v : TE} {N : Nat} (H : St w0 w (rVs g c (un (X ++ U ++ v :: Y)) :: L)) (hN : (X ++ U ++ v :: Y).length = N) (hN2 : N ≤ 1048576) (hvo : VOk w0 v.1) (hUo : ∀ t ∈ U, VOk w0 t.1) (hU : Srt U) (htag : ∀ u ∈ U, u.2 < v.2) (hU2 : 2 ≤ U.length) (a m b : Nat) (ha : a = X.length) (hm : m = a + U.length) (hb : b = m + 1) :
    Calls Tryd.prog 64 #[.slice (some ⟨g, 0, none⟩) N c, .int .i64 (a : Nat), .int .i64 (m : Nat), .int .i64 (b : Nat), cmpF] w fun e w' => e = .returned (.tuple #[]) ∧ ∃ Z, Z.Perm (U ++ [v]) ∧ Srt Z ∧ St w0 w' (rVs g c (un (X ++ Z ++ Y)) :: L) := by
  have hbN : b ≤ N := by simp at hN; omega
  have ham : a ≤ m := by omega
  have hmN : m ≤ N := by omega
  have b0 : ((m : Int) - (a : Int) == 1) = false := by simp only [beq_eq_false_iff_ne, ne_eq]; omega
  have w0' : wrap64 ((m : Int) - (a : Int)) = (m : Int) - (a : Int) := wrap_in (by omega) (by omega)
  have b1 : ((b : Int) - (m : Int) == 1) = true := by simp; omega
  have wm : wrap64 ((b : Int) - (m : Int)) = 1 := by rw [wrap_in (by omega) (by omega)]; omega
  have H0 := Aside0.mk H
  have HE : Aside0 (a = X.length ∧ m = a + U.length ∧ b = m + 1 ∧ (X ++ U ++ v :: Y).length = N) := ⟨⟨ha, hm, hb, hN⟩⟩
  have HS := Aside0.mk hU
  have HT := Aside0.mk htag
  have HO := Aside0.mk hvo
  have HVO := Aside0.mk hUo
  have hgU : Aside0 (∀ k, a ≤ k → k < m → (X ++ U ++ v :: Y).getD k v = U.getD (k - a) v) := ⟨fun k h1 h2 => by
    rw [List.getD_eq_getElem?_getD, List.getD_eq_getElem?_getD, List.getElem?_append_left (by simp; omega), List.getElem?_append_right (by omega), ha]⟩
  clear H ha hm hb hN hU htag hvo hUo hU2
  go_enter Tryd.func64, Tryd.ntmps64
  go_wp2_with fail
  clear wm b1 w0' b0
  go_loopw [14, 15] (fun vi vj W => ∃ (i j : Nat), vi = .int .i64 (i : Int) ∧ vj = .int .i64 (j : Int) ∧ Aside0 (Sr (fun k => tlt (U.getD (k - a) v) v) a m i j) ∧ Aside0 (St w0 W (rVs g c (un (X ++ U ++ v :: Y)) :: L))) (fun vi vj _ => (RowKit.intOf vj).toNat - (RowKit.intOf vi).toNat)
  case atStart => exact ⟨a, m, rfl, rfl, ⟨Sr.start ham⟩, H0⟩
  case round =>
    clear H0
    obtain ⟨i, j, rfl, rfl, HR, HI⟩ := hrel
    have hr1 := HR.out.h1
    have hr2 := HR.out.h2
    have hr3 := HR.out.h3
    by_cases hij : i < j
    · have t1 : decide ((i : Int) < (j : Int)) = true := decide_eq_true (by omega)
      obtain ⟨h, hh⟩ : ∃ h, h = (i + j) / 2 := ⟨_, rfl⟩
      go_upto_region 17 with fail
      have hd : ((i : Int) + (j : Int)) / 2 = (h : Int) := by omega
      simp only [hd]
      have hi1 : i ≤ h := by omega
      have hj1 : h < j := by omega
      obtain ⟨ea, em, eb, eN⟩ := HE.out
      have gx := un_get (T := X ++ U ++ v :: Y) v (i := h) (by omega)
      have gy := un_get (T := X ++ U ++ v :: Y) v (i := m) (by omega)
      rw [hgU.out h (by omega) (by omega)] at gx
      have eu : (X ++ U ++ v :: Y).getD m v = v := by
        rw [List.getD_eq_getElem?_getD, List.getElem?_append_right (by simp; omega)]
        have e : m - (X ++ U).length = 0 := by simp; omega
        rw [e]; rfl
      rw [eu] at gy
      have hxm : U.getD (h - a) v ∈ U := getD_mem v (by omega)
      have hmono : ∀ k k', a ≤ k' → k' < k → k < m → tlt (U.getD (k - a) v) v → tlt (U.getD (k' - a) v) v := fun k k' h1 h2 h3 h4 => tlt_trans (srt_get HS.out v (by omega) (by omega)) h4
      have hyes : ∀ _ : ¬ ord v.1 (U.getD (h - a) v).1 < 0, Sr (fun k => tlt (U.getD (k - a) v) v) a m (h + 1) j := fun hlt => HR.out.up hmono hi1 hj1 (tlt_of_ge hlt (HT.out _ hxm))
      have hno : ∀ _ : ord v.1 (U.getD (h - a) v).1 < 0, Sr (fun k => tlt (U.getD (k - a) v) v) a m i h := fun hlt => HR.out.down hmono hi1 hj1 (fun hp => tlt_asym hp (tlt_of_lt hlt))
      have hxo := HVO.out _ hxm
      generalize U.getD (h - a) v = x at *
      obtain ⟨c0, c1, c2, c3⟩ := HI.out.two gx gy
      have r1 := HI.out.cmpR HO.out hxo
      have k0 := cell_regrown c0
      have k1 := cell_regrown c1
      have k2 := cell_regrown c2
      have k3 := cell_regrown c3
      have q1 : (0 : Int) ≤ (h : Int) := by omega
      have q2 : (h : Int) < (N : Int) := by omega
      have q3 : (0 : Int) ≤ (m : Int) := by omega
      have q4 : (m : Int) < (N : Int) := by omega
      have HYES := Aside0.mk hyes
      have HNO := Aside0.mk hno
      clear hh ea em eb eN gx gy eu hxm hmono hyes hno hxo c0 c1 c2 c3 HR
      go_wp2_with fail
      refine wp_region_quiet_below (by kernel_rfl) (by kernel_rfl) ?_
      repeat (
        with_reducible refine wpQuiet_step ?_
        intro KK hK
        go_simp
        first
          | (with_reducible refine hK _ ?_; clear hK KK)
          | (apply Exists.intro
             refine ⟨fun _ => ?_, hK _ ?_⟩
             (first | with_reducible exact r1 _ _)
             clear hK KK))
      refine wpQuiet_nil ?_
      intro _ hw'
      obtain ⟨⟨dq, osq⟩, hw''⟩ := hw'
      subst hw''
      have HW := Aside0.mk (HI.out.go (below_regrown wr dq osq))
      clear k0 k1 k2 k3 r1 HI
      generalize Sort.grow (redrawn wr dq) osq = W at *
      by_cases hlt0 : ord v.1 x.1 < 0
      · have HR2 := Aside0.mk (HNO.out hlt0)
        have b2 : decide (ord v.1 x.1 < 0) = true := decide_eq_true hlt0
        clear HYES HNO hd
        simp only [b2, Bool.not_true]
        go_wp2
        go_roundw
        case rel => exact ⟨i, h, rfl, rfl, HR2, HW⟩
        case measure => simp only [RowKit.intOf]; omega
      · have hge : 0 ≤ ord v.1 x.1 := by omega
        have HR2 : Aside0 (Sr (fun k => tlt (U.getD (k - a) v) v) a m (h + 1) j) := ⟨by first | exact HYES.out hge | exact HYES.out hlt0⟩
        have b2 : decide (ord v.1 x.1 < 0) = false := decide_eq_false hlt0
        clear HYES HNO hd
        simp only [b2, Bool.not_false]
        go_wp2
        go_roundw
        case rel => exact ⟨h + 1, j, by go_num, rfl, HR2, HW⟩
        case measure => simp only [RowKit.intOf]; omega
    · have hije : i = j := by omega
      subst hije
      have t1 : decide ((i : Int) < (i : Int)) = false := decide_eq_false (by omega)
      obtain ⟨e, he⟩ : ∃ e, e = i - a := ⟨_, rfl⟩
      have hem := HE.out.2.1
      have heU : e ≤ U.length := by omega
      have hlow : ∀ z ∈ U.take e, tlt z v := fun z hz => by
        obtain ⟨k, hk, rfl⟩ := List.mem_iff_getElem.1 hz
        have hk' : k < e := by simp at hk; omega
        have := HR.out.yes (a + k) (by omega) (by omega)
        rw [Nat.add_sub_cancel_left] at this
        rw [List.getElem_take]
        rwa [List.getD_eq_getElem?_getD, List.getElem?_eq_getElem (by omega : k < U.length)] at this
      have hhigh : ∀ z ∈ U.drop e, tlt v z := fun z hz => by
        obtain ⟨k, hk, rfl⟩ := List.mem_iff_getElem.1 hz
        have hk' : e + k < U.length := by simp at hk; omega
        have := HR.out.no (a + (e + k)) (by omega) (by omega)
        rw [Nat.add_sub_cancel_left] at this
        rw [List.getElem_drop]
        rw [List.getD_eq_getElem?_getD, List.getElem?_eq_getElem hk'] at this
        by_cases hl : ord v.1 (U[e + k]).1 < 0
        · exact tlt_of_lt hl
        · exact absurd (tlt_of_ge hl (HT.out _ (List.getElem_mem _))) this
      have hZ : Aside0 (Srt (U.take e ++ v :: U.drop e)) := ⟨srt_ins (by rw [List.take_append_drop]; exact HS.out) hlow hhigh⟩
      have hP : Aside0 ((U.take e ++ v :: U.drop e).Perm (U ++ [v])) := ⟨perm_ins (List.take_append_drop e U).symm (List.Perm.refl _)⟩
      obtain ⟨D, hD⟩ : ∃ D, D = U.drop e := ⟨_, rfl⟩
      obtain ⟨X', hX'⟩ : ∃ X', X' = X ++ U.take e := ⟨_, rfl⟩
      obtain ⟨f, hf⟩ : ∃ f, f = D.length := ⟨_, rfl⟩
      have hfl : f = U.length - e := by rw [hf, hD]; simp
      have hXl : X'.length = i := by have := HE.out.1; rw [hX']; simp; omega
      have hTl : i + f + 1 + Y.length = N := by have h := HE.out.2.2.2; have := HE.out.1; simp at h; omega
      have H1 : Aside0 (St w0 wr (rVs g c (un (X' ++ D.take f ++ v :: (D.drop f ++ Y))) :: L)) := ⟨by
        have h := HI.out
        have e1 : X ++ U ++ v :: Y = X' ++ D.take f ++ v :: (D.drop f ++ Y) := by
          rw [hf, List.take_length, List.drop_length, hX', hD, List.append_assoc X (U.take e), List.take_append_drop]
          rfl
        rwa [e1] at h⟩
      have hmf : m = i + f := by omega
      have hin : i + f < N := by omega
      have HXL := Aside0.mk hXl
      have HFL : Aside0 (f = D.length) := ⟨hf⟩
      have HDX : Aside0 (D = U.drop e ∧ X' = X ++ U.take e) := ⟨⟨hD, hX'⟩⟩
      have HMF := Aside0.mk hmf
      clear hlow hhigh HR HI he hr1 hr2 hr3 hD hX' hf hfl hXl hTl hem hmf heU
      go_wp2_with fail
      go_loopw [17] (fun vk W => ∃ (q k : Nat), vk = .int .i64 (k : Int) ∧ k = i + q ∧ q ≤ f ∧ Aside0 (St w0 W (rVs g c (un (X' ++ D.take q ++ v :: (D.drop q ++ Y))) :: L))) (fun vk _ => (RowKit.intOf vk).toNat)
      case atStart => exact ⟨f, m, rfl, HMF.out, Nat.le_refl _, H1⟩
      case round =>
        clear H1
        obtain ⟨q, k, rfl, hk, hqf, HI⟩ := hrel
        by_cases hq0 : 0 < q
        · have t1 : decide ((i : Int) < (k : Int)) = true := decide_eq_true (by omega)
          have t2 : (i : Int) < (k : Int) := by omega
          obtain ⟨q', hq'⟩ : ∃ q', q = q' + 1 := ⟨q - 1, by omega⟩
          have hqD : q' < D.length := by have := HFL.out; omega
          have hdr : D.drop q' = D[q'] :: D.drop (q' + 1) := List.drop_eq_getElem_cons hqD
          have H1 := HI.out.drew
          rw [hq'] at H1
          have e1 : un (X' ++ D.take (q' + 1) ++ v :: (D.drop (q' + 1) ++ Y)) = un (X' ++ D.take q') ++ (D[q']).1 :: ([] ++ v.1 :: un (D.drop (q' + 1) ++ Y)) := by rw [List.take_succ_eq_append_getElem hqD]; simp only [un, List.map_append, List.map_cons, List.map_nil, List.append_assoc, List.cons_append, List.nil_append]
          rw [e1] at H1
          obtain ⟨k0, k1, k2, k3, hfin⟩ := H1.xchg2
          have e2 : un (X' ++ D.take q') ++ v.1 :: ([] ++ (D[q']).1 :: un (D.drop (q' + 1) ++ Y)) = un (X' ++ D.take q' ++ v :: (D.drop q' ++ Y)) := by rw [hdr]; simp only [un, List.map_append, List.map_cons, List.map_nil, List.append_assoc, List.cons_append, List.nil_append]
          rw [e2] at hfin
          obtain ⟨j, hj⟩ : ∃ j, j = i + q' := ⟨_, rfl⟩
          have hPl : (un (X' ++ D.take q')).length = j := by have := HXL.out; rw [un_len]; simp; omega
          have hPj : (un (X' ++ D.take q')).length + (1 + ([] : List VE).length) = k := by rw [hPl]; show j + 1 = k; omega
          have hf := H1.vsFree (by rw [List.length_append, List.length_cons]; omega)
          rw [hPj] at k2 k3 hfin
          rw [hPl] at k0 k1 hfin
          generalize D[q'] = u at *
          simp only [xw2, VE.p0, VE.t0] at hfin
          have hij : ¬ k = j := by omega
          have hji : ¬ j = k := by omega
          have HF := Aside0.mk hfin
          have hfi : wr.frozen? ⟨g, k * 2, none⟩ = false := hf (k * 2)
          have hfi1 : wr.frozen? ⟨g, k * 2 + 1, none⟩ = false := hf (k * 2 + 1)
          have hfj : wr.frozen? ⟨g, j * 2, none⟩ = false := hf (j * 2)
          have hfj1 : wr.frozen? ⟨g, j * 2 + 1, none⟩ = false := hf (j * 2 + 1)
          replace k0 : wr.cell? ⟨g, j * 2, none⟩ = some (.slice u.1.A u.1.p.length u.1.c) := k0
          replace k1 : wr.cell? ⟨g, j * 2 + 1, none⟩ = some (.string u.1.t) := k1
          replace k2 : wr.cell? ⟨g, k * 2, none⟩ = some (.slice v.1.A v.1.p.length v.1.c) := k2
          replace k3 : wr.cell? ⟨g, k * 2 + 1, none⟩ = some (.string v.1.t) := k3
          have wi : IntKind.i64.wrap ((k : Int) - 1) = (j : Int) := by rw [IntWalk.i64_in _ (by omega)]; omega
          have q1 : (0 : Int) ≤ (k : Int) := by omega
          have q2 : (k : Int) < (N : Int) := by omega
          have q3 : (0 : Int) ≤ (j : Int) := by omega
          have q4 : (j : Int) < (N : Int) := by omega
          have hkj : k = j + 1 := by omega
          have HJ := Aside0.mk hj
          have HKJ := Aside0.mk hkj
          have hq'f : q' ≤ f := by omega
          clear hdr H1 e1 e2 hPl hPj hf hfin hj hk HI hkj hq'
          go_wp2_with fail
          go_region_law (fail)
          all_goals (
            clear wi
            go_wp2
            go_roundw
            case rel => exact ⟨q', j, by congr 1; have := HKJ.out; omega, HJ.out, hq'f, HF⟩
            case measure => simp only [RowKit.intOf]; have := HKJ.out; omega)
        · have t1 : decide ((i : Int) < (k : Int)) = false := decide_eq_false (by omega)
          have t2 : (k : Int) ≤ (i : Int) := by omega
          have hqe : q = 0 := by omega
          have HF : Aside0 (St w0 wr (rVs g c (un (X ++ (U.take e ++ v :: U.drop e) ++ Y)) :: L)) := ⟨by
            have h := HI.out
            obtain ⟨hD, hX'⟩ := HDX.out
            rw [hqe, hX', List.take_zero, List.drop_zero, hD] at h
            simpa using h⟩
          clear HI hk
          go_wp2
          (try simp only [Exit.inBlock, Exit.then])
          refine bodyPost_ret (results_none rfl _ _ _) rfl ?_
          exact ⟨rfl, _, hP.out, hZ.out, HF.out⟩
end
end Go.Proofs.YtbikimkmkchkhaaDoor
