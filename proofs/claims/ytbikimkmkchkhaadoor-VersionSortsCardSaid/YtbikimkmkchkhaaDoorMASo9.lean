/- VersionSorts: symMergeCmpFunc. -/
import Derived.Test.YtbikimkmkchkhaaDoorMASo8
import Derived.Deep.CutBlock
namespace Go.Proofs.YtbikimkmkchkhaaDoor
open Go.RowKit Go.Proofs.YtbikimkmkchkhaaDoorW.PrintWords
attribute [local go_sem ↓] Go.wp_at_zero Go.wp_at_succ
set_option linter.unusedVariables false
set_option linter.unusedSimpArgs false
set_option maxRecDepth 100000

section
variable {w0 : World} {g c : Nat} {L : List Res}
/-- What symMerge does with two runs of at most n elements. -/
def MergeSaid (w0 : World) (g c : Nat) (L : List Res) (n : Nat) : Prop :=
  ∀ (w : World) (X U V Y : List TE) (N a m b : Nat), U.length + V.length ≤ n → St w0 w (rVs g c (un (X ++ U ++ V ++ Y)) :: L) → (X ++ U ++ V ++ Y).length = N → N ≤ 1048576 → (∀ t ∈ U ++ V, VOk w0 t.1) → Srt U → Srt V → (∀ u ∈ U, ∀ v ∈ V, u.2 < v.2) → 0 < U.length → 0 < V.length → a = X.length → m = a + U.length → b = m + V.length →
    Calls Tryd.prog 64 #[.slice (some ⟨g, 0, none⟩) N c, .int .i64 (a : Nat), .int .i64 (m : Nat), .int .i64 (b : Nat), cmpF] w fun e w' => e = .returned (.tuple #[]) ∧ ∃ Z, Z.Perm (U ++ V) ∧ Srt Z ∧ St w0 w' (rVs g c (un (X ++ Z ++ Y)) :: L)
set_option maxHeartbeats 8000000 in
theorem merge_step {n : Nat} (ih : MergeSaid w0 g c L n) {w : World} {X U V Y : List TE} {N a m b : Nat} (hn : U.length + V.length ≤ n + 1) (H : St w0 w (rVs g c (un (X ++ U ++ V ++ Y)) :: L)) (hN : (X ++ U ++ V ++ Y).length = N) (hN2 : N ≤ 1048576) (hok : ∀ t ∈ U ++ V, VOk w0 t.1) (hU : Srt U) (hV : Srt V) (htag : ∀ u ∈ U, ∀ v ∈ V, u.2 < v.2) (hu2 : 2 ≤ U.length) (hv2 : 2 ≤ V.length) (ha : a = X.length) (hm : m = a + U.length) (hb : b = m + V.length) :
    Calls Tryd.prog 64 #[.slice (some ⟨g, 0, none⟩) N c, .int .i64 (a : Nat), .int .i64 (m : Nat), .int .i64 (b : Nat), cmpF] w fun e w' => e = .returned (.tuple #[]) ∧ ∃ Z, Z.Perm (U ++ V) ∧ Srt Z ∧ St w0 w' (rVs g c (un (X ++ Z ++ Y)) :: L) := by
  obtain ⟨d0, hd0⟩ : ∃ d0 : TE, d0 ∈ U := by
    rcases U with _ | ⟨x, r⟩
    · simp at hu2
    · exact ⟨x, List.mem_cons_self⟩
  have hbN : b ≤ N := by simp at hN; omega
  have hmb : m < b := by omega
  have ham : a < m := by omega
  have b0 : ((m : Int) - (a : Int) == 1) = false := by simp only [beq_eq_false_iff_ne, ne_eq]; omega
  have b1 : ((b : Int) - (m : Int) == 1) = false := by simp only [beq_eq_false_iff_ne, ne_eq]; omega
  obtain ⟨mid, hmid⟩ : ∃ mid, mid = (a + b) / 2 := ⟨_, rfl⟩
  obtain ⟨s, hs⟩ : ∃ s, s = mid + m := ⟨_, rfl⟩
  have hmid1 : a < mid := by omega
  have hmid2 : mid < b := by omega
  have HY : Aside0 (∀ lo hi, (mid < m → lo = s - b ∧ hi = mid) → (¬ mid < m → lo = a ∧ hi = m) → Sym X U V Y a m b mid s lo hi) := ⟨fun lo hi h1 h2 => ⟨ha, hm, hb, hu2, hv2, hmid, hs, h1, h2, hU, hV, htag⟩⟩
  have H0 := Aside0.mk H
  have HN := Aside0.mk hN
  have HOK := Aside0.mk hok
  have IH := Aside0.mk ih
  have HLN := Aside0.mk hn
  have HMS : Aside0 (mid = (a + b) / 2 ∧ s = mid + m) := ⟨⟨hmid, hs⟩⟩
  have hsb : s ≤ N + N := by omega
  clear H hN hok hU hV htag hu2 hv2 ha hm hb ih hn hd0 hmid hs
  go_enter Tryd.func64, Tryd.ntmps64
  go_upto_region 24 with fail
  clear b0 b1
  go_upto_region 25 with fail
  have hd : ((a : Int) + (b : Int)) / 2 = (mid : Int) := by have := HMS.out; omega
  simp only [hd]
  clear hd
  go_upto_region 26 with fail
  have hd : (mid : Int) + (m : Int) = (s : Int) := by have := HMS.out; omega
  have wd : wrap64 ((mid : Int) + (m : Int)) = (s : Int) := by rw [wrap_in (by omega) (by omega)]; exact hd
  simp only [wd, hd]
  clear hd wd
  go_upto_if 140 with fail
  go_cut [20, 21] (fun v20 v21 W => ∃ lo hi : Nat, v20 = .int .i64 (lo : Int) ∧ v21 = .int .i64 (hi : Int) ∧ Aside0 (Sym X U V Y a m b mid s lo hi) ∧ Aside0 (St w0 W (rVs g c (un (X ++ U ++ V ++ Y)) :: L)))
  case first =>
    as_aux_lemma =>
      by_cases hmm : mid < m
      · have t1 : decide ((mid : Int) < (m : Int)) = true := decide_eq_true (by omega)
        have hS : Aside0 (Sym X U V Y a m b mid s (s - b) mid) := ⟨HY.out _ _ (fun _ => ⟨rfl, rfl⟩) (fun h => absurd hmm h)⟩
        obtain ⟨lo, hlo⟩ : ∃ lo, lo = s - b := ⟨_, rfl⟩
        rw [← hlo] at hS
        have e1 : b + lo = s := by have := HMS.out; omega
        have w1 : wrap64 ((s : Int) - (b : Int)) = (lo : Int) := w_sub e1 (by omega)
        have e2 := w_sub' e1
        have E2 := Aside0.mk e2
        clear hlo e1 e2 hsb hbN hmb ham hmid1 hmid2 hN2
        go_wp2
        go_meet
        exact ⟨lo, mid, by first | rfl | congr 1 | (congr 1; exact E2.out), rfl, hS, H0⟩
      · have t1 : decide ((mid : Int) < (m : Int)) = false := decide_eq_false (by omega)
        have hS : Aside0 (Sym X U V Y a m b mid s a m) := ⟨HY.out _ _ (fun h => absurd h hmm) (fun _ => ⟨rfl, rfl⟩)⟩
        go_wp2
        go_meet
        exact ⟨a, m, rfl, rfl, hS, H0⟩
  case rest =>
    clear H0 HY
    obtain ⟨lo, hi, rfl, rfl, HY, H0⟩ := hcut
    have hl := HY.out.lohi
    obtain ⟨l1, l2, l3, _⟩ := hl
    obtain ⟨p, hp⟩ : ∃ p, p = s - 1 := ⟨_, rfl⟩
    have hp1 : p + 1 = s := by have := HMS.out; omega
    have HPE : Aside0 (p + 1 = s ∧ p = s - 1) := ⟨⟨hp1, hp⟩⟩
    have hs1 : 1 ≤ s := by omega
    clear hp hp1
    go_wp2_with fail
    have hpe : (s : Int) - 1 = (p : Int) := by have := HPE.out; omega
    have wpe : wrap64 ((s : Int) - 1) = (p : Int) := by rw [wrap_in (by omega) (by omega)]; exact hpe
    simp only [wpe, hpe]
    clear hpe wpe
    go_loopw [20, 21] (fun vi vj W => ∃ (i j : Nat), vi = .int .i64 (i : Int) ∧ vj = .int .i64 (j : Int) ∧ Aside0 (Sr (Sym.q X U V Y d0 s) lo hi i j) ∧ Aside0 (St w0 W (rVs g c (un (X ++ U ++ V ++ Y)) :: L))) (fun vi vj _ => (RowKit.intOf vj).toNat - (RowKit.intOf vi).toNat)
    case atStart => exact ⟨lo, hi, rfl, rfl, ⟨Sr.start l1⟩, H0⟩
    case round =>
      clear H0
      obtain ⟨i, j, rfl, rfl, HR, HI⟩ := hrel
      have hr1 := HR.out.h1
      have hr2 := HR.out.h2
      have hr3 := HR.out.h3
      by_cases hij : i < j
      · as_aux_lemma =>
        have t1 : decide ((i : Int) < (j : Int)) = true := decide_eq_true (by omega)
        obtain ⟨h, hh⟩ : ∃ h, h = (i + j) / 2 := ⟨_, rfl⟩
        go_upto_region 35 with fail
        have hd : ((i : Int) + (j : Int)) / 2 = (h : Int) := by omega
        simp only [hd]
        have hi1 : i ≤ h := by omega
        have hj1 : h < j := by omega
        obtain ⟨f1, f2, f3, f4⟩ := HY.out.within (k := h) (by omega) (by omega)
        have hyes : ∀ _ : ¬ ord ((X ++ U ++ V ++ Y).getD (s - 1 - h) d0).1 ((X ++ U ++ V ++ Y).getD h d0).1 < 0, Sr (Sym.q X U V Y d0 s) lo hi (h + 1) j := fun hlt => HR.out.up HY.out.mono hi1 hj1 (HY.out.yes (by omega) (by omega) hlt)
        have hno : ∀ _ : ord ((X ++ U ++ V ++ Y).getD (s - 1 - h) d0).1 ((X ++ U ++ V ++ Y).getD h d0).1 < 0, Sr (Sym.q X U V Y d0 s) lo hi i h := fun hlt => HR.out.down HY.out.mono hi1 hj1 (HY.out.no (by omega) (by omega) hlt)
        have hxo := HOK.out _ (List.mem_append_right U (HY.out.memV (d0 := d0) f3 f4))
        have hyo := HOK.out _ (List.mem_append_left V (HY.out.memU (d0 := d0) f1 f2))
        obtain ⟨pc, hpc⟩ : ∃ pc, pc = s - 1 - h := ⟨_, rfl⟩
        rw [← hpc] at hyes hno hxo f3 f4
        have gx := un_get (T := X ++ U ++ V ++ Y) d0 (i := pc) (by rw [HN.out]; omega)
        have gy := un_get (T := X ++ U ++ V ++ Y) d0 (i := h) (by rw [HN.out]; omega)
        generalize (X ++ U ++ V ++ Y).getD pc d0 = x at *
        generalize (X ++ U ++ V ++ Y).getD h d0 = y at *
        obtain ⟨c0, c1, c2, c3⟩ := HI.out.two gx gy
        have r1 := HI.out.cmpR hxo hyo
        have k0 := cell_regrown c0
        have k1 := cell_regrown c1
        have k2 := cell_regrown c2
        have k3 := cell_regrown c3
        have hpp := HPE.out
        have wi : IntKind.i64.wrap ((p : Int) - (h : Int)) = (pc : Int) := by rw [IntWalk.i64_in _ (by omega)]; omega
        have q1 : (0 : Int) ≤ (h : Int) := by omega
        have q2 : (h : Int) < (N : Int) := by omega
        have q3 : (0 : Int) ≤ (pc : Int) := by omega
        have q4 : (pc : Int) < (N : Int) := by omega
        have HYES := Aside0.mk hyes
        have HNO := Aside0.mk hno
        clear hh hyes hno hxo hyo c0 c1 c2 c3 HR gx gy hpc hpp f1 f2 f3 f4
        go_wp2_with fail
        refine wp_region_quiet_below (by kernel_rfl) (by kernel_rfl) ?_
        repeat (
          with_reducible refine wpQuiet_step ?_
          intro KK hK
          go_simp
          first
            | (with_reducible refine hK _ ?_; clear hK KK)
            | (apply Exists.intro
               refine ⟨fun _ => ?_, hK _ ?_⟩
               (first | with_reducible exact r1 _ _)
               clear hK KK))
        refine wpQuiet_nil ?_
        intro _ hw'
        obtain ⟨⟨dq, osq⟩, hw''⟩ := hw'
        subst hw''
        have HW := Aside0.mk (HI.out.go (below_regrown wr dq osq))
        clear k0 k1 k2 k3 r1 HI wi
        generalize Sort.grow (redrawn wr dq) osq = W at *
        by_cases hlt0 : ord x.1 y.1 < 0
        · have HR2 := Aside0.mk (HNO.out hlt0)
          have b2 : decide (ord x.1 y.1 < 0) = true := decide_eq_true hlt0
          clear HYES HNO hd
          simp only [b2, Bool.not_true]
          go_wp2
          go_roundw
          case rel => exact ⟨i, h, rfl, rfl, HR2, HW⟩
          case measure => simp only [RowKit.intOf]; omega
        · have hge : 0 ≤ ord x.1 y.1 := by omega
          have HR2 : Aside0 (Sr (Sym.q X U V Y d0 s) lo hi (h + 1) j) := ⟨by first | exact HYES.out hge | exact HYES.out hlt0⟩
          have b2 : decide (ord x.1 y.1 < 0) = false := decide_eq_false hlt0
          clear HYES HNO hd
          simp only [b2, Bool.not_false]
          go_wp2
          go_roundw
          case rel => exact ⟨h + 1, j, by go_num, rfl, HR2, HW⟩
          case measure => simp only [RowKit.intOf]; omega
      · have hije : i = j := by omega
        subst hije
        have t1 : decide ((i : Int) < (i : Int)) = false := decide_eq_false (by omega)
        obtain ⟨en, hen⟩ : ∃ en, en = s - i := ⟨_, rfl⟩
        have hms := HMS.out
        have him : i ≤ mid := by
          by_cases hb : mid < m
          · obtain ⟨g1, g2⟩ := HY.out.big hb; omega
          · obtain ⟨g1, g2⟩ := HY.out.small hb; omega
        have henb : en ≤ b := by
          by_cases hb : mid < m
          · obtain ⟨g1, g2⟩ := HY.out.big hb; omega
          · obtain ⟨g1, g2⟩ := HY.out.small hb; omega
        have hmen : m ≤ en := by omega
        have hsum : i + en = mid + m := by omega
        have hcr := HY.out.cross HR.out
        rw [← hen] at hcr
        obtain ⟨U1, hU1⟩ : ∃ U1, U1 = U.take (i - a) := ⟨_, rfl⟩
        obtain ⟨U2, hU2⟩ : ∃ U2, U2 = U.drop (i - a) := ⟨_, rfl⟩
        obtain ⟨V1, hV1⟩ : ∃ V1, V1 = V.take (en - m) := ⟨_, rfl⟩
        obtain ⟨V2, hV2⟩ : ∃ V2, V2 = V.drop (en - m) := ⟨_, rfl⟩
        have eU : U = U1 ++ U2 := by rw [hU1, hU2, List.take_append_drop]
        have eV : V = V1 ++ V2 := by rw [hV1, hV2, List.take_append_drop]
        have hem := HY.out.em
        have heb := HY.out.eb
        have hea := HY.out.ea
        have lU1 : U1.length = i - a := by rw [hU1]; simp; omega
        have lU2 : U2.length = m - i := by rw [hU2]; simp; omega
        have lV1 : V1.length = en - m := by rw [hV1]; simp; omega
        have lV2 : V2.length = b - en := by rw [hV2]; simp; omega
        rw [← hU1, ← hU2, ← hV1, ← hV2] at hcr
        have HCR := Aside0.mk hcr
        have HE : Aside0 (U = U1 ++ U2 ∧ V = V1 ++ V2 ∧ U1.length = i - a ∧ U2.length = m - i ∧ V1.length = en - m ∧ V2.length = b - en ∧ a = X.length) := ⟨⟨eU, eV, lU1, lU2, lV1, lV2, hea⟩⟩
        have HEN : Aside0 (en = s - i) := ⟨hen⟩
        have H1 : Aside0 (St w0 wr (rVs g c (un (X ++ U1 ++ U2 ++ V1 ++ V2 ++ Y)) :: L)) := ⟨by
          have h := HI.out
          rw [eU, eV] at h
          simpa using h⟩
        have HL1 : Aside0 ((X ++ U1 ++ U2 ++ V1 ++ V2 ++ Y).length = N) := ⟨by
          have h := HN.out
          rw [eU, eV] at h
          simpa using h⟩
        have HS1 : Aside0 (Srt U1 ∧ Srt U2 ∧ Srt V1 ∧ Srt V2 ∧ (∀ u ∈ U1 ++ U2, ∀ v ∈ V1 ++ V2, u.2 < v.2) ∧ (∀ t ∈ U1 ++ U2 ++ (V1 ++ V2), VOk w0 t.1)) := ⟨by
          have s1 := HY.out.su
          have s2 := HY.out.sv
          have s3 := HY.out.tag
          have s4 := HOK.out
          rw [eU] at s1
          rw [eV] at s2
          rw [eU, eV] at s3 s4
          exact ⟨(List.pairwise_append.1 s1).1, (List.pairwise_append.1 s1).2.1, (List.pairwise_append.1 s2).1, (List.pairwise_append.1 s2).2.1, s3, s4⟩⟩
        have HLE : Aside0 ((mid - a) ≤ n ∧ b - mid ≤ n) := ⟨by have := HLN.out; omega⟩
        clear hcr hU1 hU2 hV1 hV2 eU eV lU1 lU2 lV1 lV2 hen hms hem heb hea HI HR HY
        go_upto_region 39 with fail
        have hE : (s : Int) - (i : Int) = (en : Int) := by have := HEN.out; have := HMS.out; omega
        have wE : wrap64 ((s : Int) - (i : Int)) = (en : Int) := by rw [wrap_in (by omega) (by omega)]; exact hE
        try simp only [wE, hE]
        clear hE wE
        obtain ⟨bb, HBB⟩ : ∃ bb : Bool, Aside0 (bb = (decide (i < m) && decide (m < en))) := ⟨_, ⟨rfl⟩⟩
        go_cut [185] (fun v W => v = .bool bb ∧ Aside0 (St w0 W (rVs g c (un (X ++ U1 ++ U2 ++ V1 ++ V2 ++ Y)) :: L)))
        case first =>
          as_aux_lemma =>
            by_cases h1 : i < m
            · have u1 : decide ((i : Int) < (m : Int)) = true := decide_eq_true (by omega)
              by_cases h2 : m < en
              · have u2 : decide ((m : Int) < (en : Int)) = true := decide_eq_true (by omega)
                have e : true = bb := by rw [HBB.out, decide_eq_true h1, decide_eq_true h2]; rfl
                have E := Aside0.mk e
                clear e
                go_wp2
                go_meet
                exact ⟨congrArg Value.bool E.out, H1⟩
              · have u2 : decide ((m : Int) < (en : Int)) = false := decide_eq_false (by omega)
                have u3 : (en : Int) ≤ (m : Int) := by omega
                have e : false = bb := by rw [HBB.out, decide_eq_true h1, decide_eq_false h2]; rfl
                have E := Aside0.mk e
                clear e
                go_wp2
                go_meet
                exact ⟨congrArg Value.bool E.out, H1⟩
            · have u1 : decide ((i : Int) < (m : Int)) = false := decide_eq_false (by omega)
              have u3 : (m : Int) ≤ (i : Int) := by omega
              have e : false = bb := by rw [HBB.out, decide_eq_false h1]; rfl
              have E := Aside0.mk e
              clear e
              go_wp2
              go_meet
              exact ⟨congrArg Value.bool E.out, H1⟩
        case rest =>
          clear H1
          obtain ⟨rfl, H1⟩ := hcut
          go_upto_if 185 with fail
          go_cut [] (fun W => Aside0 (St w0 W (rVs g c (un (X ++ U1 ++ V1 ++ U2 ++ V2 ++ Y)) :: L)))
          case first =>
            as_aux_lemma =>
              cases bb with
              | true =>
                have hh := HBB.out
                simp only [Bool.true_eq, Bool.and_eq_true, decide_eq_true_eq] at hh
                obtain ⟨eU, eV, lU1, lU2, lV1, lV2, hea⟩ := HE.out
                have hro := St.rotate (X := un (X ++ U1)) (U := un U2) (V := un V1) (Y := un (V2 ++ Y)) (N := N) (by have h := H1.out; simpa [un] using h) (by have h := HL1.out; simp [un] at h ⊢; omega) hN2 i m en (by rw [un_len]; simp; omega) (by rw [un_len, un_len]; simp; omega) (by rw [un_len, un_len, un_len]; simp; omega) (by rw [un_len]; omega) (by rw [un_len]; omega) cmpF
                have HRO := Aside0.mk hro
                clear hro hh eU eV lU1 lU2 lV1 lV2 hea
                go_wp2_with fail
                refine HRO.out.mono ?_
                rintro e W2 ⟨rfl, H2⟩
                have H2 : Aside0 (St w0 W2 (rVs g c (un (X ++ U1 ++ V1 ++ U2 ++ V2 ++ Y)) :: L)) := ⟨by simpa [un] using H2⟩
                clear HRO
                go_wp2
                go_meet
                exact H2
              | false =>
                have hh := HBB.out
                have H2 : Aside0 (St w0 wc (rVs g c (un (X ++ U1 ++ V1 ++ U2 ++ V2 ++ Y)) :: L)) := ⟨by
                  obtain ⟨eU, eV, lU1, lU2, lV1, lV2, hea⟩ := HE.out
                  by_cases h1 : i < m
                  · have h2 : ¬ m < en := fun h2 => by rw [decide_eq_true h1, decide_eq_true h2] at hh; cases hh
                    have e : V1 = [] := List.eq_nil_of_length_eq_zero (by omega)
                    have h := H1.out
                    rw [e] at h ⊢
                    simpa using h
                  · have e : U2 = [] := List.eq_nil_of_length_eq_zero (by omega)
                    have h := H1.out
                    rw [e] at h ⊢
                    simpa using h⟩
                clear hh
                go_wp2
                go_meet
                exact H2
          case rest =>
            clear H1
            have H1 := hcut
            clear hcut
            go_upto_region 41 with fail
            obtain ⟨bc, HBC⟩ : ∃ bb : Bool, Aside0 (bb = (decide (a < i) && decide (i < mid))) := ⟨_, ⟨rfl⟩⟩
            go_cut [199] (fun v W => v = .bool bc ∧ Aside0 (St w0 W (rVs g c (un (X ++ U1 ++ V1 ++ U2 ++ V2 ++ Y)) :: L)))
            case first =>
              as_aux_lemma =>
                by_cases h1 : a < i
                · have u1 : decide ((a : Int) < (i : Int)) = true := decide_eq_true (by omega)
                  by_cases h2 : i < mid
                  · have u2 : decide ((i : Int) < (mid : Int)) = true := decide_eq_true (by omega)
                    have e : true = bc := by rw [HBC.out, decide_eq_true h1, decide_eq_true h2]; rfl
                    have E := Aside0.mk e
                    clear e
                    go_wp2
                    go_meet
                    exact ⟨congrArg Value.bool E.out, H1⟩
                  · have u2 : decide ((i : Int) < (mid : Int)) = false := decide_eq_false (by omega)
                    have u3 : (mid : Int) ≤ (i : Int) := by omega
                    have e : false = bc := by rw [HBC.out, decide_eq_true h1, decide_eq_false h2]; rfl
                    have E := Aside0.mk e
                    clear e
                    go_wp2
                    go_meet
                    exact ⟨congrArg Value.bool E.out, H1⟩
                · have u1 : decide ((a : Int) < (i : Int)) = false := decide_eq_false (by omega)
                  have u3 : (i : Int) ≤ (a : Int) := by omega
                  have e : false = bc := by rw [HBC.out, decide_eq_false h1]; rfl
                  have E := Aside0.mk e
                  clear e
                  go_wp2
                  go_meet
                  exact ⟨congrArg Value.bool E.out, H1⟩
            case rest =>
              clear H1
              obtain ⟨rfl, H1⟩ := hcut
              go_upto_if 199 with fail
              go_cut [] (fun W => ∃ Z1, Aside0 (Z1.Perm (U1 ++ V1)) ∧ Aside0 (Srt Z1) ∧ Aside0 (St w0 W (rVs g c (un (X ++ Z1 ++ U2 ++ V2 ++ Y)) :: L)))
              case first =>
                as_aux_lemma =>
                  cases bc with
                  | true =>
                    have hh := HBC.out
                    simp only [Bool.true_eq, Bool.and_eq_true, decide_eq_true_eq] at hh
                    obtain ⟨eU, eV, lU1, lU2, lV1, lV2, hea⟩ := HE.out
                    obtain ⟨s1, s2, s3, s4, s5, s6⟩ := HS1.out
                    have hle := HLE.out
                    have hca := IH.out wc X U1 V1 (U2 ++ (V2 ++ Y)) N a i mid (by omega) (by have h := H1.out; simpa using h) (by have h := HL1.out; simp at h ⊢; omega) hN2 (fun t ht => s6 t (by
                      rcases List.mem_append.1 ht with ht | ht <;> simp [ht])) s1 s3 (fun u hu v hv => s5 u (by simp [hu]) v (by simp [hv])) (by omega) (by omega) hea (by omega) (by omega)
                    have HCA := Aside0.mk hca
                    clear hca hh eU eV lU1 lU2 lV1 lV2 hea s1 s2 s3 s4 s5 s6 hle
                    go_wp2_with fail
                    refine HCA.out.mono ?_
                    rintro e W2 ⟨rfl, Z1, z1, z2, H2⟩
                    have H2 : Aside0 (St w0 W2 (rVs g c (un (X ++ Z1 ++ U2 ++ V2 ++ Y)) :: L)) := ⟨by simpa using H2⟩
                    have Z1p := Aside0.mk z1
                    have Z1s := Aside0.mk z2
                    clear HCA z1 z2
                    go_wp2
                    go_meet
                    exact ⟨Z1, Z1p, Z1s, H2⟩
                  | false =>
                    have hh := HBC.out
                    have hz : Aside0 (Srt (U1 ++ V1)) := ⟨by
                      obtain ⟨eU, eV, lU1, lU2, lV1, lV2, hea⟩ := HE.out
                      obtain ⟨s1, s2, s3, s4, s5, s6⟩ := HS1.out
                      by_cases h1 : a < i
                      · have h2 : ¬ i < mid := fun h2 => by rw [decide_eq_true h1, decide_eq_true h2] at hh; cases hh
                        have e : V1 = [] := List.eq_nil_of_length_eq_zero (by omega)
                        rw [e, List.append_nil]; exact s1
                      · have e : U1 = [] := List.eq_nil_of_length_eq_zero (by omega)
                        rw [e, List.nil_append]; exact s3⟩
                    have H2 : Aside0 (St w0 wc (rVs g c (un (X ++ (U1 ++ V1) ++ U2 ++ V2 ++ Y)) :: L)) := ⟨by have h := H1.out; simpa using h⟩
                    clear hh
                    go_wp2
                    go_meet
                    exact ⟨U1 ++ V1, ⟨List.Perm.refl _⟩, hz, H2⟩
              case rest =>
                clear H1
                obtain ⟨Z1, Z1p, Z1s, H1⟩ := hcut
                go_upto_region 43 with fail
                obtain ⟨bd, HBD⟩ : ∃ bb : Bool, Aside0 (bb = (decide (mid < en) && decide (en < b))) := ⟨_, ⟨rfl⟩⟩
                go_cut [213] (fun v W => v = .bool bd ∧ Aside0 (St w0 W (rVs g c (un (X ++ Z1 ++ U2 ++ V2 ++ Y)) :: L)))
                case first =>
                  as_aux_lemma =>
                    by_cases h1 : mid < en
                    · have u1 : decide ((mid : Int) < (en : Int)) = true := decide_eq_true (by omega)
                      by_cases h2 : en < b
                      · have u2 : decide ((en : Int) < (b : Int)) = true := decide_eq_true (by omega)
                        have e : true = bd := by rw [HBD.out, decide_eq_true h1, decide_eq_true h2]; rfl
                        have E := Aside0.mk e
                        clear e
                        go_wp2
                        go_meet
                        exact ⟨congrArg Value.bool E.out, H1⟩
                      · have u2 : decide ((en : Int) < (b : Int)) = false := decide_eq_false (by omega)
                        have u3 : (b : Int) ≤ (en : Int) := by omega
                        have e : false = bd := by rw [HBD.out, decide_eq_true h1, decide_eq_false h2]; rfl
                        have E := Aside0.mk e
                        clear e
                        go_wp2
                        go_meet
                        exact ⟨congrArg Value.bool E.out, H1⟩
                    · have u1 : decide ((mid : Int) < (en : Int)) = false := decide_eq_false (by omega)
                      have u3 : (en : Int) ≤ (mid : Int) := by omega
                      have e : false = bd := by rw [HBD.out, decide_eq_false h1]; rfl
                      have E := Aside0.mk e
                      clear e
                      go_wp2
                      go_meet
                      exact ⟨congrArg Value.bool E.out, H1⟩
                case rest =>
                  clear H1
                  obtain ⟨rfl, H1⟩ := hcut
                  go_upto_if 213 with fail
                  cases bd with
                  | true =>
                    have hh := HBD.out
                    simp only [Bool.true_eq, Bool.and_eq_true, decide_eq_true_eq] at hh
                    obtain ⟨eU, eV, lU1, lU2, lV1, lV2, hea⟩ := HE.out
                    obtain ⟨s1, s2, s3, s4, s5, s6⟩ := HS1.out
                    have hle := HLE.out
                    have hzl := Z1p.out.length_eq
                    rw [List.length_append] at hzl
                    have hca := IH.out wc (X ++ Z1) U2 V2 Y N mid en b (by omega) (by have h := H1.out; simpa using h) (by have h := HL1.out; simp at h ⊢; omega) hN2 (fun t ht => s6 t (by
                      rcases List.mem_append.1 ht with ht | ht <;> simp [ht])) s2 s4 (fun u hu v hv => s5 u (by simp [hu]) v (by simp [hv])) (by omega) (by omega) (by simp; omega) (by omega) (by omega)
                    have HCA := Aside0.mk hca
                    clear hca hh eU eV lU1 lU2 lV1 lV2 hea s1 s2 s3 s4 s5 s6 hle hzl
                    go_wp2_with fail
                    refine HCA.out.mono ?_
                    rintro e W2 ⟨rfl, Z2, z1, z2, H2⟩
                    have H2 := Aside0.mk H2
                    have Z2p := Aside0.mk z1
                    have Z2s := Aside0.mk z2
                    clear HCA z1 z2
                    have hfin : Aside0 (∃ Z, Z.Perm (U ++ V) ∧ Srt Z ∧ St w0 W2 (rVs g c (un (X ++ Z ++ Y)) :: L)) := ⟨by
                      obtain ⟨eU, eV, _⟩ := HE.out
                      refine ⟨Z1 ++ Z2, ?_, ?_, by have h := H2.out; simpa using h⟩
                      · refine (List.Perm.append Z1p.out Z2p.out).trans ?_
                        rw [eU, eV]
                        simp only [List.append_assoc]
                        refine List.Perm.append_left U1 ?_
                        rw [← List.append_assoc, ← List.append_assoc]
                        exact List.Perm.append_right V2 List.perm_append_comm
                      · exact List.pairwise_append.2 ⟨Z1s.out, Z2s.out, fun z hz y hy => HCR.out z (Z1p.out.subset hz) y (Z2p.out.subset hy)⟩⟩
                    clear H2
                    go_wp2
                    go_end0
                    exact ⟨rfl, hfin.out⟩
                  | false =>
                    have hh := HBD.out
                    obtain ⟨Z2, hZ2⟩ : ∃ Z2, Z2 = U2 ++ V2 := ⟨_, rfl⟩
                    have Z2p : Aside0 (Z2.Perm (U2 ++ V2)) := ⟨by rw [hZ2]⟩
                    have Z2s : Aside0 (Srt Z2) := ⟨by
                      rw [hZ2]
                      obtain ⟨eU, eV, lU1, lU2, lV1, lV2, hea⟩ := HE.out
                      obtain ⟨s1, s2, s3, s4, s5, s6⟩ := HS1.out
                      by_cases h1 : mid < en
                      · have h2 : ¬ en < b := fun h2 => by rw [decide_eq_true h1, decide_eq_true h2] at hh; cases hh
                        have e : V2 = [] := List.eq_nil_of_length_eq_zero (by omega)
                        rw [e, List.append_nil]; exact s2
                      · have e : U2 = [] := List.eq_nil_of_length_eq_zero (by omega)
                        rw [e, List.nil_append]; exact s4⟩
                    have H2 : Aside0 (St w0 wc (rVs g c (un (X ++ Z1 ++ Z2 ++ Y)) :: L)) := ⟨by have h := H1.out; rw [hZ2]; simpa using h⟩
                    clear hh hZ2
                    have hfin : Aside0 (∃ Z, Z.Perm (U ++ V) ∧ Srt Z ∧ St w0 wc (rVs g c (un (X ++ Z ++ Y)) :: L)) := ⟨by
                      obtain ⟨eU, eV, _⟩ := HE.out
                      refine ⟨Z1 ++ Z2, ?_, ?_, by have h := H2.out; simpa using h⟩
                      · refine (List.Perm.append Z1p.out Z2p.out).trans ?_
                        rw [eU, eV]
                        simp only [List.append_assoc]
                        refine List.Perm.append_left U1 ?_
                        rw [← List.append_assoc, ← List.append_assoc]
                        exact List.Perm.append_right V2 List.perm_append_comm
                      · exact List.pairwise_append.2 ⟨Z1s.out, Z2s.out, fun z hz y hy => HCR.out z (Z1p.out.subset hz) y (Z2p.out.subset hy)⟩⟩
                    clear H2
                    go_wp2
                    go_end0
                    exact ⟨rfl, hfin.out⟩
end
end Go.Proofs.YtbikimkmkchkhaaDoor
