/- VersionSorts: symMergeCmpFunc where one run is of one element. -/
import Derived.Test.YtbikimkmkchkhaaDoorMASo5
import Derived.Deep.DeepCutAuto
namespace Go.Proofs.YtbikimkmkchkhaaDoor
open Go.RowKit Go.Proofs.YtbikimkmkchkhaaDoorW.PrintWords
attribute [local go_sem ↓] Go.wp_at_zero Go.wp_at_succ
set_option linter.unusedVariables false
set_option linter.unusedSimpArgs false
set_option maxRecDepth 100000

/-- A search by halves for the first place from which on p holds no more. -/
structure Sr (p : Nat → Prop) (lo hi i j : Nat) : Prop where
  h1 : lo ≤ i
  h2 : i ≤ j
  h3 : j ≤ hi
  yes : ∀ k, lo ≤ k → k < i → p k
  no : ∀ k, j ≤ k → k < hi → ¬ p k
theorem Sr.up {p : Nat → Prop} {lo hi i j h : Nat} (s : Sr p lo hi i j) (hm : ∀ k k', lo ≤ k' → k' < k → k < hi → p k → p k') (h1 : i ≤ h) (h2 : h < j) (hp : p h) : Sr p lo hi (h + 1) j :=
  ⟨by have := s.h1; omega, by omega, s.h3, fun k hk1 hk2 => by
    by_cases e : k = h
    · rw [e]; exact hp
    · exact hm h k hk1 (by omega) (by have := s.h3; omega) hp, s.no⟩
theorem Sr.down {p : Nat → Prop} {lo hi i j h : Nat} (s : Sr p lo hi i j) (hm : ∀ k k', lo ≤ k' → k' < k → k < hi → p k → p k') (h1 : i ≤ h) (h2 : h < j) (hp : ¬ p h) : Sr p lo hi i h :=
  ⟨s.h1, h1, by have := s.h3; omega, s.yes, fun k hk1 hk2 => by
    by_cases e : k = h
    · rw [e]; exact hp
    · exact fun hpk => hp (hm k h (by have := s.h1; omega) (by omega) hk2 hpk)⟩
theorem Sr.start {p : Nat → Prop} {lo hi : Nat} (h : lo ≤ hi) : Sr p lo hi lo hi := ⟨Nat.le_refl _, h, Nat.le_refl _, fun k h1 h2 => by omega, fun k h1 h2 => by omega⟩
theorem un_get {T : List TE} (d0 : TE) {i : Nat} (h : i < T.length) : (un T)[i]? = some (T.getD i d0).1 := by
  rw [un, List.getElem?_map, List.getElem?_eq_getElem h, List.getD_eq_getElem?_getD, List.getElem?_eq_getElem h]
  rfl
theorem getD_mem {T : List TE} (d0 : TE) {i : Nat} (h : i < T.length) : T.getD i d0 ∈ T := by
  rw [List.getD_eq_getElem?_getD, List.getElem?_eq_getElem h]
  exact List.getElem_mem h
theorem srt_get {T : List TE} (h : Srt T) (d0 : TE) {i j : Nat} (hij : i < j) (hj : j < T.length) : tlt (T.getD i d0) (T.getD j d0) := by
  rw [List.getD_eq_getElem?_getD, List.getD_eq_getElem?_getD, List.getElem?_eq_getElem hj, List.getElem?_eq_getElem (by omega : i < T.length)]
  exact List.pairwise_iff_getElem.1 h i j _ hj hij
section
variable {w0 w : World} {g c : Nat} {L : List Res}
set_option maxHeartbeats 4000000 in
theorem St.symA {X V Y : List TE} {u : TE} {N : Nat} (H : St w0 w (rVs g c (un (X ++ u :: (V ++ Y))) :: L)) (hN : (X ++ u :: (V ++ Y)).length = N) (hN2 : N ≤ 1048576) (huo : VOk w0 u.1) (hVo : ∀ t ∈ V, VOk w0 t.1) (hV : Srt V) (htag : ∀ v ∈ V, u.2 < v.2) (a m b : Nat) (ha : a = X.length) (hm : m = a + 1) (hb : b = m + V.length) :
    Calls Tryd.prog 64 #[.slice (some ⟨g, 0, none⟩) N c, .int .i64 (a : Nat), .int .i64 (m : Nat), .int .i64 (b : Nat), cmpF] w fun e w' => e = .returned (.tuple #[]) ∧ ∃ Z, Z.Perm (u :: V) ∧ Srt Z ∧ St w0 w' (rVs g c (un (X ++ Z ++ Y)) :: L) := by
  have hbN : b ≤ N := by simp at hN; omega
  have hmb : m ≤ b := by omega
  have b1 : ((m : Int) - (a : Int) == 1) = true := by simp; omega
  have wm : wrap64 ((m : Int) - (a : Int)) = 1 := by rw [wrap_in (by omega) (by omega)]; omega
  have H0 := Aside0.mk H
  have HE : Aside0 (a = X.length ∧ m = a + 1 ∧ b = m + V.length ∧ (X ++ u :: (V ++ Y)).length = N) := ⟨⟨ha, hm, hb, hN⟩⟩
  have HS := Aside0.mk hV
  have HT := Aside0.mk htag
  have HO := Aside0.mk huo
  have HVO := Aside0.mk hVo
  have hgV : Aside0 (∀ k, m ≤ k → k < b → (X ++ u :: (V ++ Y)).getD k u = V.getD (k - m) u) := ⟨fun k h1 h2 => by
    have e : X ++ u :: (V ++ Y) = (X ++ [u]) ++ (V ++ Y) := by simp
    rw [e, List.getD_eq_getElem?_getD, List.getD_eq_getElem?_getD, List.getElem?_append_right (by simp; omega), List.getElem?_append_left (by simp; omega)]
    congr 2
    simp
    omega⟩
  clear H ha hm hb hN hV htag huo hVo
  go_enter Tryd.func64, Tryd.ntmps64
  go_wp2_with fail
  clear wm b1
  go_loopw [10, 11] (fun vi vj W => ∃ (i j : Nat), vi = .int .i64 (i : Int) ∧ vj = .int .i64 (j : Int) ∧ Aside0 (Sr (fun k => tlt (V.getD (k - m) u) u) m b i j) ∧ Aside0 (St w0 W (rVs g c (un (X ++ u :: (V ++ Y))) :: L))) (fun vi vj _ => (RowKit.intOf vj).toNat - (RowKit.intOf vi).toNat)
  case atStart => exact ⟨m, b, rfl, rfl, ⟨Sr.start hmb⟩, H0⟩
  case round =>
    clear H0
    obtain ⟨i, j, rfl, rfl, HR, HI⟩ := hrel
    have hr1 := HR.out.h1
    have hr2 := HR.out.h2
    have hr3 := HR.out.h3
    by_cases hij : i < j
    · have t1 : decide ((i : Int) < (j : Int)) = true := decide_eq_true (by omega)
      obtain ⟨h, hh⟩ : ∃ h, h = (i + j) / 2 := ⟨_, rfl⟩
      go_upto_region 5 with fail
      have hd : ((i : Int) + (j : Int)) / 2 = (h : Int) := by omega
      simp only [hd]
      have hi1 : i ≤ h := by omega
      have hj1 : h < j := by omega
      obtain ⟨ea, em, eb, eN⟩ := HE.out
      have gx := un_get (T := X ++ u :: (V ++ Y)) u (i := h) (by omega)
      have gy := un_get (T := X ++ u :: (V ++ Y)) u (i := a) (by omega)
      rw [hgV.out h (by omega) (by omega)] at gx
      have eu : (X ++ u :: (V ++ Y)).getD a u = u := by rw [ea]; simp
      rw [eu] at gy
      have hxm : V.getD (h - m) u ∈ V := getD_mem u (by omega)
      have hmono : ∀ k k', m ≤ k' → k' < k → k < b → tlt (V.getD (k - m) u) u → tlt (V.getD (k' - m) u) u := fun k k' h1 h2 h3 h4 => tlt_trans (srt_get HS.out u (by omega) (by omega)) h4
      have hyes : ∀ _ : ord (V.getD (h - m) u).1 u.1 < 0, Sr (fun k => tlt (V.getD (k - m) u) u) m b (h + 1) j := fun hlt => HR.out.up hmono hi1 hj1 (tlt_of_lt hlt)
      have hno : ∀ _ : ¬ ord (V.getD (h - m) u).1 u.1 < 0, Sr (fun k => tlt (V.getD (k - m) u) u) m b i h := fun hlt => HR.out.down hmono hi1 hj1 (fun hp => tlt_asym hp (tlt_of_ge hlt (HT.out _ hxm)))
      have hxo := HVO.out _ hxm
      generalize V.getD (h - m) u = x at *
      obtain ⟨c0, c1, c2, c3⟩ := HI.out.two gx gy
      have r1 := HI.out.cmpR hxo HO.out
      have k0 := cell_regrown c0
      have k1 := cell_regrown c1
      have k2 := cell_regrown c2
      have k3 := cell_regrown c3
      have q1 : (0 : Int) ≤ (h : Int) := by omega
      have q2 : (h : Int) < (N : Int) := by omega
      have q3 : (0 : Int) ≤ (a : Int) := by omega
      have q4 : (a : Int) < (N : Int) := by omega
      have HYES := Aside0.mk hyes
      have HNO := Aside0.mk hno
      clear hh ea em eb eN gx gy eu hxm hmono hyes hno hxo c0 c1 c2 c3 HR
      refine wp_region_quiet_below (by kernel_rfl) (by kernel_rfl) ?_
      repeat (
        with_reducible refine wpQuiet_step ?_
        intro KK hK
        go_simp
        first
          | (with_reducible refine hK _ ?_; clear hK KK)
          | (apply Exists.intro
             refine ⟨fun _ => ?_, hK _ ?_⟩
             (first | with_reducible exact r1 _ _)
             clear hK KK))
      refine wpQuiet_nil ?_
      intro _ hw'
      obtain ⟨⟨dq, osq⟩, hw''⟩ := hw'
      subst hw''
      have HW := Aside0.mk (HI.out.go (below_regrown wr dq osq))
      clear k0 k1 k2 k3 r1 HI
      generalize Sort.grow (redrawn wr dq) osq = W at *
      by_cases hlt0 : ord x.1 u.1 < 0
      · have b2 : decide (ord x.1 u.1 < 0) = true := decide_eq_true hlt0
        have HR2 := Aside0.mk (HYES.out hlt0)
        clear HYES HNO hd
        go_wp2
        go_roundw
        case rel => exact ⟨h + 1, j, by go_num, rfl, HR2, HW⟩
        case measure => simp only [RowKit.intOf]; omega
      · have b2 : decide (ord x.1 u.1 < 0) = false := decide_eq_false hlt0
        have hge : 0 ≤ ord x.1 u.1 := by omega
        have HR2 := Aside0.mk (HNO.out hlt0)
        clear HYES HNO hd
        go_wp2
        go_roundw
        case rel => exact ⟨i, h, rfl, rfl, HR2, HW⟩
        case measure => simp only [RowKit.intOf]; omega
    · have hije : i = j := by omega
      subst hije
      have t1 : decide ((i : Int) < (i : Int)) = false := decide_eq_false (by omega)
      obtain ⟨e, he⟩ : ∃ e, e = i - m := ⟨_, rfl⟩
      have heV : e ≤ V.length := by have := HE.out.2.2.1; omega
      have hform : Aside0 (∀ K, K ≤ e → X ++ V.take K ++ u :: (V.drop K ++ Y) = X ++ V.take K ++ u :: (V.drop K ++ Y)) := ⟨fun _ _ => rfl⟩
      have hlow : ∀ z ∈ V.take e, tlt z u := fun z hz => by
        obtain ⟨k, hk, rfl⟩ := List.mem_iff_getElem.1 hz
        have hk' : k < e := by simp at hk; omega
        have := HR.out.yes (m + k) (by omega) (by omega)
        rw [Nat.add_sub_cancel_left] at this
        rw [List.getElem_take]
        rwa [List.getD_eq_getElem?_getD, List.getElem?_eq_getElem (by omega : k < V.length)] at this
      have hhigh : ∀ z ∈ V.drop e, tlt u z := fun z hz => by
        obtain ⟨k, hk, rfl⟩ := List.mem_iff_getElem.1 hz
        have hk' : e + k < V.length := by simp at hk; omega
        have hb3 := HE.out.2.2.1
        have := HR.out.no (m + (e + k)) (by omega) (by omega)
        rw [Nat.add_sub_cancel_left] at this
        rw [List.getElem_drop]
        rw [List.getD_eq_getElem?_getD, List.getElem?_eq_getElem hk'] at this
        by_cases hl : ord (V[e + k]).1 u.1 < 0
        · exact absurd (tlt_of_lt hl) this
        · exact tlt_of_ge hl (HT.out _ (List.getElem_mem _))
      have hZ : Aside0 (Srt (V.take e ++ u :: V.drop e)) := ⟨srt_ins (by rw [List.take_append_drop]; exact HS.out) hlow hhigh⟩
      have hP : Aside0 ((V.take e ++ u :: V.drop e).Perm (u :: V)) := ⟨by
        have h := List.perm_middle (a := u) (l₁ := V.take e) (l₂ := V.drop e)
        rwa [List.take_append_drop] at h⟩
      have H1 : Aside0 (St w0 wr (rVs g c (un (X ++ V.take 0 ++ u :: (V.drop 0 ++ Y))) :: L)) := ⟨by simpa using HI.out⟩
      have hie : i = a + 1 + e := by have := HE.out.2.1; omega
      have hein : a + 1 + e ≤ N := by omega
      obtain ⟨i1, hi1⟩ : ∃ i1, i1 = a + e := ⟨_, rfl⟩
      have w1 : wrap64 ((i : Int) - 1) = (i1 : Int) := by rw [wrap_in (by omega) (by omega)]; omega
      have HIE := Aside0.mk hi1
      clear hi1 hlow hhigh HR HI he hie hr1 hr2 hr3 hform
      go_wp2_with fail
      go_loopw [13] (fun vk W => ∃ (K k : Nat), vk = .int .i64 (k : Int) ∧ k = a + K ∧ K ≤ e ∧ Aside0 (St w0 W (rVs g c (un (X ++ V.take K ++ u :: (V.drop K ++ Y))) :: L))) (fun vk _ => a + e - (RowKit.intOf vk).toNat)
      case atStart => exact ⟨0, a, rfl, rfl, Nat.zero_le _, H1⟩
      case round =>
        clear H1
        obtain ⟨K, k, rfl, hk, hKe, HI⟩ := hrel
        have hie := HIE.out
        by_cases hKl : K < e
        · have t1 : decide ((k : Int) < (i1 : Int)) = true := decide_eq_true (by omega)
          have t2 : (k : Int) < (i1 : Int) := by omega
          have hKV : K < V.length := by omega
          have hdr : V.drop K = V[K] :: V.drop (K + 1) := List.drop_eq_getElem_cons hKV
          have H1 := HI.out.drew
          have e1 : un (X ++ V.take K ++ u :: (V.drop K ++ Y)) = un (X ++ V.take K) ++ u.1 :: ([] ++ (V[K]).1 :: un (V.drop (K + 1) ++ Y)) := by rw [hdr]; simp only [un, List.map_append, List.map_cons, List.map_nil, List.append_assoc, List.cons_append, List.nil_append]
          rw [e1] at H1
          obtain ⟨k0, k1, k2, k3, hfin⟩ := H1.xchg
          have e2 : un (X ++ V.take K) ++ (V[K]).1 :: ([] ++ u.1 :: un (V.drop (K + 1) ++ Y)) = un (X ++ V.take (K + 1) ++ u :: (V.drop (K + 1) ++ Y)) := by rw [List.take_succ_eq_append_getElem hKV]; simp only [un, List.map_append, List.map_cons, List.map_nil, List.append_assoc, List.cons_append, List.nil_append]
          rw [e2] at hfin
          have hPl : (un (X ++ V.take K)).length = k := by have := HE.out.1; rw [un_len]; simp; omega
          have hPj : (un (X ++ V.take K)).length + (1 + ([] : List VE).length) = k + 1 := by rw [hPl]; rfl
          have hf := H1.vsFree (by rw [List.length_append, List.length_cons]; omega)
          obtain ⟨j, hj⟩ : ∃ j, j = k + 1 := ⟨_, rfl⟩
          rw [hPj, ← hj] at k2 k3 hfin
          rw [hPl] at k0 k1 hfin
          generalize V[K] = v at *
          simp only [xw, VE.p0, VE.t0] at hfin
          have hij : ¬ k = j := by omega
          have hji : ¬ j = k := by omega
          have HF := Aside0.mk hfin
          have hfi : wr.frozen? ⟨g, k * 2, none⟩ = false := hf (k * 2)
          have hfi1 : wr.frozen? ⟨g, k * 2 + 1, none⟩ = false := hf (k * 2 + 1)
          have hfj : wr.frozen? ⟨g, j * 2, none⟩ = false := hf (j * 2)
          have hfj1 : wr.frozen? ⟨g, j * 2 + 1, none⟩ = false := hf (j * 2 + 1)
          replace k0 : wr.cell? ⟨g, k * 2, none⟩ = some (.slice u.1.A u.1.p.length u.1.c) := k0
          replace k1 : wr.cell? ⟨g, k * 2 + 1, none⟩ = some (.string u.1.t) := k1
          replace k2 : wr.cell? ⟨g, j * 2, none⟩ = some (.slice v.1.A v.1.p.length v.1.c) := k2
          replace k3 : wr.cell? ⟨g, j * 2 + 1, none⟩ = some (.string v.1.t) := k3
          have wi : IntKind.i64.wrap ((k : Int) + 1) = (j : Int) := by rw [IntWalk.i64_in _ (by omega)]; omega
          have q1 : (0 : Int) ≤ (k : Int) := by omega
          have q2 : (k : Int) < (N : Int) := by omega
          have q3 : (0 : Int) ≤ (j : Int) := by omega
          have q4 : (j : Int) < (N : Int) := by omega
          have HJ := Aside0.mk hj
          have HKK := Aside0.mk hk
          have hke : a + e - k = e - K := by omega
          clear hdr H1 e1 e2 hPl hPj hf hfin hj hie hk HI
          go_wp2_with fail
          go_region_law (fail)
          all_goals (
            clear wi
            go_wp2
            go_roundw
            case rel => exact ⟨K + 1, k + 1, by go_num, by have := HKK.out; omega, hKl, HF⟩
            case measure => simp only [RowKit.intOf]; have := HKK.out; omega)
        · have t1 : decide ((k : Int) < (i1 : Int)) = false := decide_eq_false (by omega)
          have t2 : (i1 : Int) ≤ (k : Int) := by omega
          have hKe' : K = e := by omega
          have HF : Aside0 (St w0 wr (rVs g c (un (X ++ (V.take e ++ u :: V.drop e) ++ Y)) :: L)) := ⟨by
            have h := HI.out
            rw [hKe'] at h
            simpa using h⟩
          clear HI hk
          go_wp2
          (try simp only [Exit.inBlock, Exit.then])
          refine bodyPost_ret (results_none rfl _ _ _) rfl ?_
          exact ⟨rfl, _, hP.out, hZ.out, HF.out⟩
end
end Go.Proofs.YtbikimkmkchkhaaDoor
