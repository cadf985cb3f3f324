/- DiskOne: a crash leaves each sector one of its values, each choice of them reached. -/
import Derived.Test.YtoojcgmdcbcenaaL4b
namespace Go.Proofs.Ytoojcgmdcbcenaa
open Go.RowKit Go.Maps Go.Proofs.YtoojcgmdcbcenaaW.PrintWords
attribute [local go_sem ↓] Go.wp_at_zero Go.wp_at_succ
set_option linter.unusedVariables false
set_option linter.unusedSimpArgs false
set_option maxRecDepth 100000

set_option maxHeartbeats 4000000 in
theorem one_calls (w : World) (sectors : Int) (A1 : Option Addr) (c1 : Nat) (acts : List S42) (A2 : Option Addr) (c2 : Nat) (later : List S42) (A3 : Option Addr) (c3 : Nat) (picks : List Int) (at_ : Int) (hA : Kd.C k42 w A1 acts.length acts) (hf : ∀ x ∈ acts, 0 ≤ x.f3 ∧ x.f3 ≤ 255)
    (hL : Kd.C k42 w A2 later.length later) (hfl : ∀ x ∈ later, 0 ≤ x.f3 ∧ x.f3 ≤ 255) (hP : RdI w A3 picks) :
    Calls Try.prog 4 #[.int .i64 sectors, .slice A1 acts.length c1, .slice A2 later.length c2, .slice A3 picks.length c3, .int .i64 at_] w fun e w' => e = .returned (.bool true) ∧ Below w.heap.size w w' := by
  have hwk := works_calls w
  have ham := fun W => among_calls W sectors (m := 20) (by omega) (by omega)
  have hlt := among_lt sectors (m := 20) (by omega)
  obtain ⟨s, hs⟩ : ∃ s, s = among sectors 20 := ⟨_, rfl⟩
  rw [← hs] at ham hlt
  obtain ⟨n, hn⟩ : ∃ n, n = s + 1 := ⟨_, rfl⟩
  have wn : (1 : Int) + (s : Int) = (n : Int) := by omega
  have ww : wrap64 (1 + (s : Int)) = (n : Int) := by unfold wrap64; omega
  have hposn : 0 < n := by omega
  have h2n : n ≤ 4096 := by omega
  have hama := fun W => among_calls W at_ (m := n) hposn (by omega)
  have hlta := among_lt at_ (m := n) hposn
  obtain ⟨a, ha⟩ : ∃ a, a = among at_ n := ⟨_, rfl⟩
  rw [← ha] at hama hlta
  obtain ⟨d1, hd1⟩ : ∃ d1, d1 = doD (newD n) (acts.take 200) := ⟨_, rfl⟩
  have hfree : Free d1 := by rw [hd1]; exact Free.doD _ (newD_free n)
  have htk : d1.taken ≤ 200 := by
    rw [hd1]
    have h1 := doD_taken (acts.take 200) (newD n)
    have h2 : (newD n).taken = 0 := rfl
    rw [List.length_take] at h1
    omega
  have hlen : d1.vals.length = n := by rw [hd1, doD_len]; simp [newD]
  obtain ⟨d2, hd2⟩ : ∃ d2, d2 = d1.sync.2 := ⟨_, rfl⟩
  have hfree2 : Free d2 := by rw [hd2]; exact hfree.syncF
  have hlen2 : d2.vals.length = n := by rw [hd2, sync_len, hlen]
  have htk2 : d2.taken ≤ 201 := by have := sync_taken d1; rw [hd2]; omega
  have hone : ∀ l ∈ d2.vals, l.length = 1 := by rw [hd2, hfree.sync]; exact settled_one d1
  obtain ⟨m, hm⟩ : ∃ m, m = later.length := ⟨_, rfl⟩
  have hmax : later.length ≤ 9223372036854775807 := hL.2.1
  rw [← hm] at hmax ⊢
  have HA := Aside0.mk hA
  have HF := Aside0.mk hf
  have HL := Aside0.mk hL
  have HFL := Aside0.mk hfl
  have HP := Aside0.mk hP
  have HW := Aside0.mk hwk
  have HM := Aside0.mk hm
  have HD1 := Aside0.mk hd1
  have HD2 := Aside0.mk hd2
  have HON := Aside0.mk (on_start (a := a) hfree2 hlen2 htk2 hone)
  have h1n : 1 ≤ n := by omega
  have H0 := Aside0.mk (St.start w)
  have HT1 := Aside0.mk htk
  have HONE := Aside0.mk (And.intro hfree2 hone)
  have HLEN2 := Aside0.mk hlen2
  clear hA hf hL hfl hP hwk hd1 hd2 hs hn hm ha hone hfree hfree2 htk htk2 hlen hlen2
  go_enter Try.func4, Try.ntmps4
  go_wp2_with fail
  refine HW.out.mono ?_
  rintro e W1 ⟨rfl, hb1⟩
  replace H0 := Aside0.mk (H0.out.go hb1)
  clear hb1
  go_wp2_with fail
  refine (ham _).mono ?_
  rintro e W2 ⟨rfl, rfl⟩
  have hnew := H0.out.new h1n h2n
  go_wp2_with fail
  refine hnew.mono ?_
  rintro e W3 ⟨p, rfl, H1⟩
  have hdo := do_calls (c := c1) H1 HA.out HF.out (by show 0 + 200 ≤ maxTaken; unfold maxTaken; omega)
  rw [← HD1.out] at hdo
  replace H1 := Aside0.mk H1
  clear hnew H0
  go_wp2_with fail
  refine hdo.mono ?_
  rintro e W4 ⟨rfl, H2⟩
  have hsy := H2.sync (by have := HT1.out; unfold maxTaken; omega)
  rw [← HD2.out] at hsy
  clear H2 hdo H1
  go_wp2_with fail
  refine hsy.mono ?_
  rintro e W5 ⟨rfl, H3⟩
  have hsec := H3.sectors
  rw [HLEN2.out] at hsec
  obtain ⟨f, hfa, hfr, hf256⟩ := one_read H3.diskOk HONE.out.1 HONE.out.2 (a := a) (by rw [HLEN2.out]; exact hlta)
  have hrd := H3.readAt (a : Int) hfr
  rw [hf256] at hrd
  have HRD := Aside0.mk hrd
  have HFA := Aside0.mk hfa
  clear H3 hrd hsy hfr hfa
  go_wp2_with fail
  refine hsec.mono ?_
  rintro e W6 ⟨rfl, rfl⟩
  go_wp2_with fail
  refine (hama _).mono ?_
  rintro e W7 ⟨rfl, rfl⟩
  clear hsec
  go_wp2_with fail
  refine HRD.out.mono ?_
  rintro e W8 ⟨B1, k1, rfl, H4⟩
  obtain ⟨g1, rfl, H5⟩ := H4.rowVal'
  have H6 := (H5.alloc (.cells #[.slice (some ⟨g1, 0, none⟩) 256 k1] 31)).listOne
  replace H6 := Aside0.mk H6
  clear H4 H5 HRD
  go_wp2_with fail
  go_loopw [15, 16] (fun v i W => ∃ (k : Nat) (dk : Dsk) (vs : List Sec), i = .int .i64 (k : Int) ∧ k ≤ m ∧ k ≤ 60 ∧ Aside0 (On a n 201 d2 (later.take k) dk ∧ dk.vals.getD a [] = vs) ∧ Aside0 (St w W (rList v vs :: rDisk p dk :: []))) (fun _ i _ => m - (RowKit.intOf i).toNat)
  case atStart => exact ⟨0, d2, [f], rfl, Nat.zero_le _, Nat.zero_le _, ⟨⟨by simpa using HON.out, HFA.out⟩⟩, H6⟩
  case round =>
    clear H6
    obtain ⟨k, dk, vs, rfl, hk1, hk2, HS, HK⟩ := hrel
    by_cases hlt : k < m ∧ k < 60
    · obtain ⟨h1, h2⟩ := hlt
      have t1 : decide ((k : Int) < (m : Int)) = true := decide_eq_true (by omega)
      have t2 : decide ((k : Int) < 60) = true := decide_eq_true (by omega)
      have t3 : (0 : Int) ≤ (k : Int) := by omega
      have t4 : (k : Int) < (m : Int) := by omega
      have hkl : k < later.length := by rw [← HM.out]; exact h1
      have hx := HFL.out later[k] (List.getElem_mem hkl)
      have htk1 := getD_lt hkl
      obtain ⟨ad, A4, c4, rfl, _⟩ := act_at HL.out hkl
      have hS : ∀ W, Below w.heap.size w W → W.cell? ⟨(ad.add (k * 5)).block, (ad.add (k * 5)).off + 1, none⟩ = some (.int .i64 later[k].f1) ∧ W.cell? ⟨(ad.add (k * 5)).block, (ad.add (k * 5)).off + 3, none⟩ = some (.int .u8 later[k].f3) := fun W hW => by
        obtain ⟨ad', _, _, e, b0, b1, _, b3, _⟩ := act_at HL.out hkl
        cases e
        exact ⟨pw_cell_below hW b1, pw_cell_below hW b3⟩
      generalize later[k] = x at *
      have hds := HK.out.swap.drew.sectors
      rw [HS.out.1.len] at hds
      have ham1 := fun W => among_calls W x.f1 hposn (by omega)
      have hltj := among_lt x.f1 (m := n) hposn
      have hst := on_step HS.out.1 hposn HK.out.swap.diskOk.ne x
      have htk := HS.out.1.taken
      rw [List.length_take] at htk
      obtain ⟨j, hj⟩ : ∃ j, j = among x.f1 n := ⟨_, rfl⟩
      rw [← hj] at ham1 hltj hst
      obtain ⟨a1, a3⟩ := hS _ HK.out.below
      have hS1 := hS _ HK.out.drew.below
      have HSA := Aside0.mk hS
      have HS1 := Aside0.mk hS1
      have hwc := write_chain HK.out.swap.drew (by unfold maxTaken; omega) hx (j : Int)
      have HWC := Aside0.mk hwc
      have HST := Aside0.mk hst
      have HX := Aside0.mk hx
      have HTK1 := Aside0.mk htk1
      clear hkl hS hS1 hj htk hwc hst hx htk1
      go_wp2_with fail
      go_region_held3 (fun W => W.cell? ⟨(ad.add (k * 5)).block, (ad.add (k * 5)).off + 1, none⟩ = some (.int .i64 x.f1) ∧ W.cell? ⟨(ad.add (k * 5)).block, (ad.add (k * 5)).off + 3, none⟩ = some (.int .u8 x.f3))
        ((exact HS1.out))
        ((first
          | (go_at_call 19; refine hds.mono ?_; rintro e w2 ⟨rfl, rfl⟩)
          | (go_at_call 11; refine (ham1 _).mono ?_; rintro e w2 ⟨rfl, rfl⟩)))
      clear a1 a3
      obtain ⟨a1, a3⟩ := HS1.out
      go_wp2_with fail
      refine HWC.out.mono ?_
      rintro e w2 ⟨g, cc, rfl, _, h21⟩
      replace h21 := Aside0.mk h21
      go_wp2_with fail
      refine h21.out.mono ?_
      rintro e w3 ⟨r, rfl, _, H7⟩
      clear a1 a3
      obtain ⟨a1, a3⟩ := HSA.out _ H7.out.below
      clear h21 HWC hds
      generalize (dk.write (j : Int) (fullS x.f3)).2 = d3 at *
      by_cases hja : j = a
      · subst hja
        have hst2 := HST.out
        rw [if_pos rfl, HS.out.2] at hst2
        have hfew := hst2.1.few _ hlta
        rw [hst2.2, List.length_append, List.length_append, List.length_take] at hfew
        have hvl : vs.length + 1 ≤ 1048576 := by simp at hfew; omega
        replace hst2 := Aside0.mk hst2
        have hfu := H7.out.full x.f3
        have HFU := Aside0.mk hfu
        clear hfu hfew
        go_wp2_with fail
        refine HFU.out.mono ?_
        rintro e w4 ⟨g4, cc4, rfl, H8⟩
        obtain ⟨g5, hg5, H9⟩ := H8.rowVal'
        cases hg5
        have H10 := Aside0.mk (H9.alloc (.cells #[.slice (some ⟨g4, 0, none⟩) 256 cc4] 31)).swap.rot4
        clear H8 H9 HFU
        go_wp2_with (at_builtin; refine wpl_appL rfl (.tmp 93) (.tmp 100) rfl _ vs w4.heap.size g4 cc4 (fullS x.f3) rfl rfl H10.out hvl ?_; intro v1 w5 H12; replace H12 := Aside0.mk H12)
        go_roundw
        case rel => exact ⟨k + 1, _, _, by go_num, h1, h2, ⟨⟨by rw [HTK1.out]; exact hst2.out.1, hst2.out.2⟩⟩, H12⟩
        case measure => simp only [RowKit.intOf]; omega
      · have bj : ((j : Int) == (a : Int)) = false := by simp only [beq_eq_false_iff_ne, ne_eq]; omega
        have hst2 := HST.out
        rw [if_neg hja, HS.out.2] at hst2
        replace hst2 := Aside0.mk hst2
        go_wp2
        go_roundw
        case rel => exact ⟨k + 1, _, _, by go_num, h1, h2, ⟨⟨by rw [HTK1.out]; exact hst2.out.1, hst2.out.2⟩⟩, ⟨St.swap H7.out⟩⟩
        case measure => simp only [RowKit.intOf]; omega
    · have hS := HS
      obtain ⟨VA, vc, rfl⟩ := HK.out.listVal
      have hvs := hS.out.2
      have hal := hS.out.1.len
      have hmem : dk.vals.getD a [] ∈ dk.vals := by rw [List.getD_eq_getElem?_getD, List.getElem?_eq_getElem (by omega)]; exact List.getElem_mem _
      have h256 : ∀ s ∈ vs, s.length = 256 := fun s hs => (HK.out.swap.diskOk.sec _ hmem s (by rw [hvs]; exact hs)).1
      have hpos : 0 < vs.length := by rw [← hvs]; exact List.length_pos_iff.2 (HK.out.swap.diskOk.ne _ hmem)
      obtain ⟨lg, hlg⟩ : ∃ lg, VA = some ⟨lg, 0, none⟩ := by
        obtain ⟨g, cap, b, c, e, _⟩ := HK.out.listAt hpos h256
        injection e with e1 e2 e3
        exact ⟨g, e1⟩
      subst hlg
      have H256 := Aside0.mk h256
      obtain ⟨N, hN⟩ : ∃ N, N = vs.length := ⟨_, rfl⟩
      have hN1 : 1 ≤ N := by omega
      have hN2 : N ≤ 61 := by
        have := hS.out.1.few a hlta
        rw [List.length_take, hvs, ← hN] at this
        omega
      have hK60 : later.take k = later.take 60 := by
        by_cases h : k < 60
        · have e1 : m ≤ k := by omega
          rw [List.take_of_length_le (by rw [← HM.out]; exact e1), List.take_of_length_le (by rw [← HM.out]; omega)]
        · rw [show k = 60 by omega]
      rw [hK60] at HS hS
      have htk0 := hS.out.1.taken
      rw [List.length_take] at htk0
      have htk : dk.taken ≤ 261 := by omega
      clear htk0
      have HTK := Aside0.mk htk
      have HNE := Aside0.mk hN
      rw [← hN] at HK ⊢
      clear htk hal hvs hS hK60 hN hmem h256 hpos
      have hcl := HK.out.swap.clone
      have HCL := Aside0.mk hcl
      clear hcl
      have hb : (k < m ∧ ¬ k < 60) ∨ ¬ k < m := by omega
      clear hlt
      rcases hb with ⟨e1, e2⟩ | e1
      · have t1 : decide ((k : Int) < (m : Int)) = true := decide_eq_true (by omega)
        have t2 : decide ((k : Int) < 60) = false := decide_eq_false (by omega)
        go_wp2_with fail
        refine HCL.out.mono ?_
        rintro e V1 ⟨q, rfl, G1⟩
        replace G1 := Aside0.mk G1
        clear HCL HK
        go_wp2_with fail
        go_loopw [18, 20] (fun pl i W => ∃ I : Nat, i = .int .i64 (I : Int) ∧ I ≤ a ∧ pl = .int .i64 (rank dk.vals I : Nat) ∧ Aside0 (St w W (rDisk q dk :: rDisk p dk :: rList (.slice (some ⟨lg, 0, none⟩) N vc) vs :: []))) (fun _ i _ => a - (RowKit.intOf i).toNat)
        case atStart => exact ⟨0, rfl, Nat.zero_le _, rfl, G1⟩
        case round =>
          clear G1
          obtain ⟨I, rfl, hI, rfl, GI⟩ := hrel
          by_cases hIa : I < a
          · have u1 : decide ((I : Int) < (a : Int)) = true := decide_eq_true (by omega)
            have hrk := rank_le dk.vals I
            have hrs := rank_succ dk.vals (I := I) (by rw [HS.out.1.len]; omega)
            have hro := rank_on HS.out.1 GI.out.diskOk (I := I) (by omega)
            obtain ⟨r, hr⟩ : ∃ r, r = rank dk.vals I := ⟨_, rfl⟩
            rw [← hr] at hrk hrs ⊢
            have HR := Aside0.mk hr
            have HRS := Aside0.mk hrs
            have HRO := Aside0.mk hro
            have hr2 : r ≤ 4096 := by omega
            clear hr hrs hro
            go_wp2_with fail
            go_loopw [21, 22] (fun h t W => ∃ (T : Nat) (b : Bool), t = .int .i64 (T : Int) ∧ h = .bool b ∧ T ≤ m ∧ T ≤ 60 ∧ Aside0 (b = true ↔ ∃ x ∈ later.take T, among x.f1 n = I) ∧ Aside0 (St w W (rDisk q dk :: rDisk p dk :: rList (.slice (some ⟨lg, 0, none⟩) N vc) vs :: []))) (fun _ t _ => m - (RowKit.intOf t).toNat)
            case atStart => exact ⟨0, false, rfl, rfl, Nat.zero_le _, Nat.zero_le _, ⟨by simp⟩, GI⟩
            case round =>
              clear GI
              obtain ⟨T, b, rfl, rfl, hT1, hT2, HH, GT⟩ := hrel
              by_cases ht : T < m ∧ T < 60
              · obtain ⟨i1, i2⟩ := ht
                have v1 : decide ((T : Int) < (m : Int)) = true := decide_eq_true (by omega)
                have v2 : decide ((T : Int) < 60) = true := decide_eq_true (by omega)
                have v3 : (0 : Int) ≤ (T : Int) := by omega
                have v4 : (T : Int) < (m : Int) := by omega
                have hkl : T < later.length := by rw [← HM.out]; exact i1
                have htk1 := getD_lt hkl
                obtain ⟨ad, A4, c4, rfl, _⟩ := act_at HL.out hkl
                have x1 : wr.cell? ⟨(ad.add (T * 5)).block, (ad.add (T * 5)).off + 1, none⟩ = some (.int .i64 later[T].f1) := by
                  obtain ⟨ad', _, _, e, b0, b1, _, b3, _⟩ := act_at HL.out hkl
                  cases e
                  exact pw_cell_below GT.out.below b1
                generalize later[T] = x at *
                have HTK1 := Aside0.mk htk1
                have hds := fun d os => (GT.out.go (below_regrown wr d os)).swap.sectors
                simp only [HS.out.1.len] at hds
                have ham1 := fun W => among_calls W x.f1 hposn (by omega)
                obtain ⟨j, hj⟩ : ∃ j, j = among x.f1 n := ⟨_, rfl⟩
                rw [← hj] at ham1
                have HJ := Aside0.mk hj
                have R1 := Aside0.mk (fun d os => Calls.regrown_of ((hds d os).mono fun e w' ⟨h1, h2⟩ => ⟨h1, h2 ▸ Below.refl _ _⟩))
                have R2 := Aside0.mk (fun d os => Calls.regrown_of (d := d) (os := os) ((ham1 (Sort.grow (redrawn wr d) os)).mono fun e w' ⟨h1, h2⟩ => ⟨h1, h2 ▸ Below.refl _ _⟩))
                clear hkl htk1 hds ham1 hj
                have HX1 := Aside0.mk x1
                clear x1
                cases b with
                | true =>
                  have hyes := Aside0.mk (HH.out.1 rfl)
                  clear HH
                  go_wp2_with fail
                  refine wp_region_quiet_below (by kernel_rfl) (by kernel_rfl) ?_
                  repeat (
                    with_reducible refine wpQuiet_step ?_
                    intro KK hK
                    go_simp
                    first
                      | (with_reducible refine hK _ ?_; clear hK KK))
                  refine wpQuiet_nil ?_
                  intro _ hw'
                  obtain ⟨⟨dq, osq⟩, hw''⟩ := hw'
                  subst hw''
                  have GT2 := Aside0.mk (GT.out.go (below_regrown wr dq osq))
                  generalize Sort.grow (redrawn wr dq) osq = W at *
                  go_wp2
                  go_roundw
                  case rel => exact ⟨T + 1, true, by go_num, rfl, i1, i2, ⟨⟨fun _ => by
                      obtain ⟨y, hy, e⟩ := hyes.out
                      exact ⟨y, by rw [HTK1.out]; exact List.mem_append_left _ hy, e⟩, fun _ => rfl⟩⟩, GT2⟩
                  case measure => simp only [RowKit.intOf]; omega
                | false =>
                  have hno : ¬ ∃ x ∈ later.take T, among x.f1 n = I := fun h => Bool.false_ne_true (HH.out.2 h)
                  have HNO := Aside0.mk hno
                  clear hno
                  by_cases hjI : j = I
                  · have bj : ((j : Int) == (I : Int)) = true := by rw [hjI]; simp
                    have k0 := cell_regrown HX1.out
                    have r1 := R1.out
                    have r2 := R2.out
                    go_wp2_with fail
                    refine wp_region_quiet_below (by kernel_rfl) (by kernel_rfl) ?_
                    repeat (
                      with_reducible refine wpQuiet_step ?_
                      intro KK hK
                      go_simp
                      first
                        | (with_reducible refine hK _ ?_; clear hK KK)
                        | (apply Exists.intro
                           refine ⟨fun _ => ?_, hK _ ?_⟩
                           (first | with_reducible exact r1 _ _ | with_reducible exact r2 _ _)
                           clear hK KK))
                    refine wpQuiet_nil ?_
                    intro _ hw'
                    obtain ⟨⟨dq, osq⟩, hw''⟩ := hw'
                    subst hw''
                    have GT2 := Aside0.mk (GT.out.go (below_regrown wr dq osq))
                    clear k0 r1 r2
                    generalize Sort.grow (redrawn wr dq) osq = W at *
                    go_wp2
                    go_roundw
                    case rel => exact ⟨T + 1, true, by go_num, rfl, i1, i2, ⟨⟨fun _ => ⟨x, by rw [HTK1.out]; simp, by rw [← HJ.out]; exact hjI⟩, fun _ => rfl⟩⟩, GT2⟩
                    case measure => simp only [RowKit.intOf]; omega
                  · have bj : ((j : Int) == (I : Int)) = false := by simp only [beq_eq_false_iff_ne, ne_eq]; omega
                    have k0 := cell_regrown HX1.out
                    have r1 := R1.out
                    have r2 := R2.out
                    go_wp2_with fail
                    refine wp_region_quiet_below (by kernel_rfl) (by kernel_rfl) ?_
                    repeat (
                      with_reducible refine wpQuiet_step ?_
                      intro KK hK
                      go_simp
                      first
                        | (with_reducible refine hK _ ?_; clear hK KK)
                        | (apply Exists.intro
                           refine ⟨fun _ => ?_, hK _ ?_⟩
                           (first | with_reducible exact r1 _ _ | with_reducible exact r2 _ _)
                           clear hK KK))
                    refine wpQuiet_nil ?_
                    intro _ hw'
                    obtain ⟨⟨dq, osq⟩, hw''⟩ := hw'
                    subst hw''
                    have GT2 := Aside0.mk (GT.out.go (below_regrown wr dq osq))
                    clear k0 r1 r2
                    generalize Sort.grow (redrawn wr dq) osq = W at *
                    go_wp2
                    go_roundw
                    case rel => exact ⟨T + 1, false, by go_num, rfl, i1, i2, ⟨⟨fun h => absurd h Bool.false_ne_true, fun ⟨y, hy, e⟩ => by
                      rw [HTK1.out] at hy
                      rcases List.mem_append.1 hy with hy | hy
                      · exact absurd ⟨y, hy, e⟩ HNO.out
                      · rw [List.mem_singleton.1 hy, ← HJ.out] at e; exact absurd e hjI⟩⟩, GT2⟩
                    case measure => simp only [RowKit.intOf]; omega
              · have hT60 : later.take T = later.take 60 := by
                  by_cases h : T < 60
                  · have e1 : m ≤ T := by omega
                    rw [List.take_of_length_le (by rw [← HM.out]; exact e1), List.take_of_length_le (by rw [← HM.out]; omega)]
                  · rw [show T = 60 by omega]
                have HHT := Aside0.mk (hT60 ▸ HH.out)
                have HGT := Aside0.mk GT
                clear hT60
                have hbb : (T < m ∧ ¬ T < 60) ∨ ¬ T < m := by omega
                rcases hbb with ⟨i1, i2⟩ | i1
                · have v1 : decide ((T : Int) < (m : Int)) = true := decide_eq_true (by omega)
                  have v2 : decide ((T : Int) < 60) = false := decide_eq_false (by omega)
                  cases b with
                  | true =>
                    have hr1 : rank dk.vals (I + 1) = r + 1 := by rw [HRS.out, if_pos (HRO.out.2 (HHT.out.1 rfl))]
                    replace hr1 := Aside0.mk hr1
                    go_wp2
                    go_roundw
                    case rel => exact ⟨I + 1, by go_num, hIa, by rw [hr1.out]; go_num, GT⟩
                    case measure => simp only [RowKit.intOf]; omega
                  | false =>
                    have hr1 : rank dk.vals (I + 1) = r := by rw [HRS.out, if_neg fun h => Bool.false_ne_true (HHT.out.2 (HRO.out.1 h))]; rfl
                    replace hr1 := Aside0.mk hr1
                    go_wp2
                    go_roundw
                    case rel => exact ⟨I + 1, by go_num, hIa, by rw [hr1.out], GT⟩
                    case measure => simp only [RowKit.intOf]; omega
                · have v1 : decide ((T : Int) < (m : Int)) = false := decide_eq_false (by omega)
                  cases b with
                  | true =>
                    have hr1 : rank dk.vals (I + 1) = r + 1 := by rw [HRS.out, if_pos (HRO.out.2 (HHT.out.1 rfl))]
                    replace hr1 := Aside0.mk hr1
                    go_wp2
                    go_roundw
                    case rel => exact ⟨I + 1, by go_num, hIa, by rw [hr1.out]; go_num, GT⟩
                    case measure => simp only [RowKit.intOf]; omega
                  | false =>
                    have hr1 : rank dk.vals (I + 1) = r := by rw [HRS.out, if_neg fun h => Bool.false_ne_true (HHT.out.2 (HRO.out.1 h))]; rfl
                    replace hr1 := Aside0.mk hr1
                    go_wp2
                    go_roundw
                    case rel => exact ⟨I + 1, by go_num, hIa, by rw [hr1.out], GT⟩
                    case measure => simp only [RowKit.intOf]; omega
          · have hIe : I = a := by omega
            subst hIe
            have hPle := rank_le dk.vals I
            obtain ⟨P, hP⟩ : ∃ P, P = rank dk.vals I := ⟨_, rfl⟩
            rw [← hP] at hPle ⊢
            have hP2 : P ≤ 4096 := by omega
            have HPR := Aside0.mk hP
            obtain ⟨P1, hP1⟩ : ∃ P1, P1 = P + 1 := ⟨_, rfl⟩
            have wP : wrap64 ((P : Int) + 1) = (P1 : Int) := by unfold wrap64; omega
            have wP2 : (P : Int) + 1 = (P1 : Int) := by omega
            have lP : (P : Int) < (P1 : Int) := by omega
            have HP1 := Aside0.mk hP1
            clear hP hPle hP1
            go_wp2_with fail
            go_loopw [23] (fun i W => ∃ K : Nat, i = .int .i64 (K : Int) ∧ K ≤ N ∧ Aside0 (St w W (rDisk q dk :: rDisk p dk :: rList (.slice (some ⟨lg, 0, none⟩) N vc) vs :: []))) (fun i _ => N - (RowKit.intOf i).toNat)
            case atStart => exact ⟨0, rfl, Nat.zero_le _, GI⟩
            case round =>
              clear GI
              obtain ⟨K, rfl, hK, GK⟩ := hrel
              by_cases hKN : K < N
              · have z1 : decide ((K : Int) < (N : Int)) = true := decide_eq_true (by omega)
                have z2 : (0 : Int) ≤ (K : Int) := by omega
                have z3 : (K : Int) < (N : Int) := by omega
                have hcl := GK.out.clone
                have HCL := Aside0.mk hcl
                clear hcl
                go_wp2_with fail
                refine HCL.out.mono ?_
                rintro e Y1 ⟨y, rfl, J1⟩
                replace J1 := Aside0.mk J1
                clear HCL GK
                go_wp2_with (at_make; refine wpl_makeI rfl (.tmp 146) rfl P1 P HP1.out hP2 rfl J1.out ?_; intro Y2 g J2 y2c y2f; replace J2 := Aside0.mk J2)
                have J3 : St w (Y2.setCell ⟨g, P, none⟩ (.int .i64 (K : Int))) (rDisk y dk :: rBlk g (.cells ((choice P K).map (Value.int .i64)).toArray 3) :: rDisk q dk :: rDisk p dk :: rList (.slice (some ⟨lg, 0, none⟩) N vc) vs :: []) := by
                  have h := J2.out.setCell P (.int .i64 (K : Int))
                  rw [HP1.out, choice_cells] at h
                  exact h.swap
                have hKl : K < (dk.vals.getD I []).length := by rw [HS.out.2, ← HNE.out]; exact hKN
                have hr0 := choice_read J3.diskOk (a := I) (k := K) (by rw [HS.out.1.len]; exact hlta) hKl (by rw [HS.out.2, ← HNE.out]; omega)
                rw [← HPR.out, HS.out.2] at hr0
                have hcr := St.crash (picks := choice P K) (c := P1) J3 (fun {w T S} h => blk_rdI (by rw [choice_len]; omega) h) (by have := HTK.out; unfold maxTaken; omega)
                rw [choice_len, ← HP1.out] at hcr
                have hs256 : (vs.getD K []).length = 256 := by
                  rw [List.getD_eq_getElem?_getD, List.getElem?_eq_getElem (by rw [← HNE.out]; exact hKN)]; exact H256.out _ (List.getElem_mem _)
                have HCR := Aside0.mk hcr
                have HR0 := Aside0.mk hr0
                have HS256 := Aside0.mk hs256
                clear hcr hr0 hs256 hKl J3 J2 y2c y2f J1
                generalize Y2.setCell ⟨g, P, none⟩ (.int .i64 (K : Int)) = Y3 at *
                refine HCR.out.mono ?_
                rintro e Y4 ⟨rfl, J4⟩
                generalize dk.crash (choice P K) = dz at *
                have hrd := J4.readAt (I : Int) HR0.out
                rw [HS256.out] at hrd
                have HRD := Aside0.mk hrd
                clear hrd J4 HCR HR0
                go_wp2_with fail
                refine HRD.out.mono ?_
                rintro e Y5 ⟨B5, k5, rfl, J5⟩
                obtain ⟨lb, lc, hc5, hrd5⟩ := J5.rot6.listAt' HNE.out hKN H256.out
                have hsa := same_eq (c1 := k5) (c2 := lc) (J5.rdRow HS256.out) hrd5 HS256.out HS256.out rfl
                have HSA := Aside0.mk hsa
                replace J5 := Aside0.mk J5
                clear hsa hrd5 HRD
                go_wp2_with fail
                refine HSA.out.mono ?_
                rintro e Y6 ⟨rfl, hb6⟩
                have J6 := Aside0.mk (J5.out.go hb6).drop.drop.drop
                clear hb6 J5 HSA hc5
                go_wp2
                go_roundw
                case rel => exact ⟨K + 1, by go_num, hKN, J6⟩
                case measure => simp only [RowKit.intOf]; omega
              · have z1 : decide ((K : Int) < (N : Int)) = false := decide_eq_false (by omega)
                have J7 := St.swap ((GK.out.swap).oldK (k := .i64) HP.out)
                obtain ⟨K0, hK0, hrK⟩ : ∃ K0, K0 < N ∧ (dk.crash picks).read (I : Int) = (vs.getD K0 [], 0) := by
                  have h := crash_read J7.diskOk (a := I) (by rw [HS.out.1.len]; exact hlta) picks
                  rw [HS.out.2] at h
                  refine ⟨_, ?_, h⟩
                  rw [← HNE.out]
                  split
                  · exact pick_lt _ _ _ (by omega)
                  · omega
                have hs256 : (vs.getD K0 []).length = 256 := by
                  rw [List.getD_eq_getElem?_getD, List.getElem?_eq_getElem (by rw [← HNE.out]; exact hK0)]; exact H256.out _ (List.getElem_mem _)
                have hof := one_facts (crash_one dk picks J7.diskOk)
                have hct := crash_taken dk picks
                have hcr := St.crash (picks := picks) (c := c3) J7 (fun {w T S} h => h.1.1) (by have := HTK.out; unfold maxTaken; omega)
                have HCR := Aside0.mk hcr
                have htz : (dk.crash picks).taken ≤ maxTaken := by rw [hct]; have := HTK.out; unfold maxTaken; omega
                generalize dk.crash picks = dz at *
                obtain ⟨rs, hrs⟩ : ∃ rs, rs = vs.getD K0 [] := ⟨_, rfl⟩
                rw [← hrs] at hrK hs256
                have HRK := Aside0.mk hrK
                have HS256 := Aside0.mk hs256
                have HOF := Aside0.mk hof
                have HTZ := Aside0.mk htz
                have HRS := Aside0.mk hrs
                clear hcr hrK hs256 hof htz hct hrs J7 GK
                go_wp2_with fail
                refine HCR.out.mono ?_
                rintro e Z1 ⟨rfl, J8⟩
                have hrd := J8.readAt (I : Int) HRK.out
                rw [HS256.out] at hrd
                have HRD := Aside0.mk hrd
                clear hrd J8 HCR HRK
                go_wp2_with fail
                refine HRD.out.mono ?_
                rintro e Z2 ⟨B9, k9, rfl, J9⟩
                replace J9 := Aside0.mk J9
                clear HRD
                go_wp2_with fail
                go_loopw [29, 30] (fun fo i W => ∃ (T : Nat) (b : Bool), i = .int .i64 (T : Int) ∧ fo = .bool b ∧ T ≤ N ∧ Aside0 (b = true ↔ ∃ j, j < T ∧ rs = vs.getD j []) ∧ Aside0 (St w W (rRow 5 1 (.slice B9 256 k9) 256 (bytes rs) :: rDisk p dz :: rRdK .i64 A3 picks :: rDisk q dk :: rList (.slice (some ⟨lg, 0, none⟩) N vc) vs :: []))) (fun _ i _ => N - (RowKit.intOf i).toNat)
                case atStart => exact ⟨0, false, rfl, rfl, Nat.zero_le _, ⟨by simp⟩, J9⟩
                case round =>
                  clear J9
                  obtain ⟨T, b, rfl, rfl, hT, HH, GT⟩ := hrel
                  by_cases hTN : T < N
                  · have q1 : decide ((T : Int) < (N : Int)) = true := decide_eq_true (by omega)
                    have q2 : (0 : Int) ≤ (T : Int) := by omega
                    have q3 : (T : Int) < (N : Int) := by omega
                    cases b with
                    | true =>
                      have hyes := Aside0.mk (HH.out.1 rfl)
                      clear HH
                      go_wp2
                      go_roundw
                      case rel => exact ⟨T + 1, true, by go_num, rfl, hTN, ⟨⟨fun _ => by
                          obtain ⟨j, hj, e⟩ := hyes.out
                          exact ⟨j, by omega, e⟩, fun _ => rfl⟩⟩, GT⟩
                      case measure => simp only [RowKit.intOf]; omega
                    | false =>
                      have hno := Aside0.mk (fun h => Bool.false_ne_true (HH.out.2 h))
                      clear HH
                      have ht256 : (vs.getD T []).length = 256 := by
                        rw [List.getD_eq_getElem?_getD, List.getElem?_eq_getElem (by rw [← HNE.out]; exact hTN)]; exact H256.out _ (List.getElem_mem _)
                      obtain ⟨lb, lc, hc5, hrd5⟩ := GT.out.rot5.listAt' HNE.out hTN H256.out
                      have hsa := same_of (c1 := k9) (c2 := lc) (GT.out.rdRow HS256.out) hrd5 HS256.out ht256
                      obtain ⟨bb, hbb⟩ : ∃ bb, bb = decide (rs = vs.getD T []) := ⟨_, rfl⟩
                      rw [← hbb] at hsa
                      have HSA := Aside0.mk hsa
                      have HBB := Aside0.mk hbb
                      clear hsa hrd5 ht256 hbb
                      go_wp2_with fail
                      refine HSA.out.mono ?_
                      rintro e Z6 ⟨rfl, hb6⟩
                      have J6 := Aside0.mk (GT.out.go hb6)
                      clear hb6 HSA hc5
                      go_wp2
                      go_roundw
                      case rel => exact ⟨T + 1, bb, by go_num, rfl, hTN, ⟨⟨fun h => by
                          rw [HBB.out] at h
                          exact ⟨T, by omega, of_decide_eq_true h⟩, fun ⟨j, hj, e⟩ => by
                          by_cases hjT : j = T
                          · rw [hjT] at e; rw [HBB.out]; exact decide_eq_true e
                          · exact absurd ⟨j, by omega, e⟩ hno.out⟩⟩, J6⟩
                      case measure => simp only [RowKit.intOf]; omega
                  · have q1 : decide ((T : Int) < (N : Int)) = false := decide_eq_false (by omega)
                    have hbt : b = true := HH.out.2 ⟨K0, by omega, HRS.out⟩
                    subst hbt
                    clear HH
                    have hpe := GT.out.swap.pending
                    rw [HOF.out.1] at hpe
                    obtain ⟨M, hM⟩ : ∃ M, M = dz.image.length := ⟨_, rfl⟩
                    have him := GT.out.swap.imageAt HTZ.out hM.symm
                    have HIM := Aside0.mk him
                    have HMM := Aside0.mk hM
                    clear him hM
                    replace hpe := Aside0.mk hpe
                    clear GT
                    go_wp2_with fail
                    refine hpe.out.mono ?_
                    rintro e Z3 ⟨rfl, rfl⟩
                    go_wp2_with fail
                    refine HIM.out.mono ?_
                    rintro e Z4 ⟨B4, k4, rfl, R4⟩
                    have hM2 : dz.sure.length = M := by rw [← HOF.out.2]; exact HMM.out.symm
                    have hsu := R4.swap.sureAt hM2
                    have HSU := Aside0.mk hsu
                    have HM2 := Aside0.mk hM2
                    clear hsu hM2 R4 HIM
                    go_wp2_with fail
                    refine HSU.out.mono ?_
                    rintro e Z5 ⟨B5, k5, rfl, R5⟩
                    have hsa := same_eq (c1 := k4) (c2 := k5) (R5.rot3.rdRow HMM.out.symm) (R5.rdRow HM2.out) HMM.out.symm HM2.out HOF.out.2
                    have HSA := Aside0.mk hsa
                    replace R5 := Aside0.mk R5
                    clear hsa HSU
                    go_wp2_with fail
                    refine HSA.out.mono ?_
                    rintro e Z6 ⟨rfl, hb6⟩
                    have HB := Aside0.mk (R5.out.go hb6).below
                    clear hb6 R5 HSA
                    go_wp2
                    go_ret
                    exact ⟨rfl, HB.out⟩
      · have t1 : decide ((k : Int) < (m : Int)) = false := decide_eq_false (by omega)
        go_wp2_with fail
        refine HCL.out.mono ?_
        rintro e V1 ⟨q, rfl, G1⟩
        replace G1 := Aside0.mk G1
        clear HCL HK
        go_wp2_with fail
        go_loopw [18, 20] (fun pl i W => ∃ I : Nat, i = .int .i64 (I : Int) ∧ I ≤ a ∧ pl = .int .i64 (rank dk.vals I : Nat) ∧ Aside0 (St w W (rDisk q dk :: rDisk p dk :: rList (.slice (some ⟨lg, 0, none⟩) N vc) vs :: []))) (fun _ i _ => a - (RowKit.intOf i).toNat)
        case atStart => exact ⟨0, rfl, Nat.zero_le _, rfl, G1⟩
        case round =>
          clear G1
          obtain ⟨I, rfl, hI, rfl, GI⟩ := hrel
          by_cases hIa : I < a
          · have u1 : decide ((I : Int) < (a : Int)) = true := decide_eq_true (by omega)
            have hrk := rank_le dk.vals I
            have hrs := rank_succ dk.vals (I := I) (by rw [HS.out.1.len]; omega)
            have hro := rank_on HS.out.1 GI.out.diskOk (I := I) (by omega)
            obtain ⟨r, hr⟩ : ∃ r, r = rank dk.vals I := ⟨_, rfl⟩
            rw [← hr] at hrk hrs ⊢
            have HR := Aside0.mk hr
            have HRS := Aside0.mk hrs
            have HRO := Aside0.mk hro
            have hr2 : r ≤ 4096 := by omega
            clear hr hrs hro
            go_wp2_with fail
            go_loopw [21, 22] (fun h t W => ∃ (T : Nat) (b : Bool), t = .int .i64 (T : Int) ∧ h = .bool b ∧ T ≤ m ∧ T ≤ 60 ∧ Aside0 (b = true ↔ ∃ x ∈ later.take T, among x.f1 n = I) ∧ Aside0 (St w W (rDisk q dk :: rDisk p dk :: rList (.slice (some ⟨lg, 0, none⟩) N vc) vs :: []))) (fun _ t _ => m - (RowKit.intOf t).toNat)
            case atStart => exact ⟨0, false, rfl, rfl, Nat.zero_le _, Nat.zero_le _, ⟨by simp⟩, GI⟩
            case round =>
              clear GI
              obtain ⟨T, b, rfl, rfl, hT1, hT2, HH, GT⟩ := hrel
              by_cases ht : T < m ∧ T < 60
              · obtain ⟨i1, i2⟩ := ht
                have v1 : decide ((T : Int) < (m : Int)) = true := decide_eq_true (by omega)
                have v2 : decide ((T : Int) < 60) = true := decide_eq_true (by omega)
                have v3 : (0 : Int) ≤ (T : Int) := by omega
                have v4 : (T : Int) < (m : Int) := by omega
                have hkl : T < later.length := by rw [← HM.out]; exact i1
                have htk1 := getD_lt hkl
                obtain ⟨ad, A4, c4, rfl, _⟩ := act_at HL.out hkl
                have x1 : wr.cell? ⟨(ad.add (T * 5)).block, (ad.add (T * 5)).off + 1, none⟩ = some (.int .i64 later[T].f1) := by
                  obtain ⟨ad', _, _, e, b0, b1, _, b3, _⟩ := act_at HL.out hkl
                  cases e
                  exact pw_cell_below GT.out.below b1
                generalize later[T] = x at *
                have HTK1 := Aside0.mk htk1
                have hds := fun d os => (GT.out.go (below_regrown wr d os)).swap.sectors
                simp only [HS.out.1.len] at hds
                have ham1 := fun W => among_calls W x.f1 hposn (by omega)
                obtain ⟨j, hj⟩ : ∃ j, j = among x.f1 n := ⟨_, rfl⟩
                rw [← hj] at ham1
                have HJ := Aside0.mk hj
                have R1 := Aside0.mk (fun d os => Calls.regrown_of ((hds d os).mono fun e w' ⟨h1, h2⟩ => ⟨h1, h2 ▸ Below.refl _ _⟩))
                have R2 := Aside0.mk (fun d os => Calls.regrown_of (d := d) (os := os) ((ham1 (Sort.grow (redrawn wr d) os)).mono fun e w' ⟨h1, h2⟩ => ⟨h1, h2 ▸ Below.refl _ _⟩))
                clear hkl htk1 hds ham1 hj
                have HX1 := Aside0.mk x1
                clear x1
                cases b with
                | true =>
                  have hyes := Aside0.mk (HH.out.1 rfl)
                  clear HH
                  go_wp2_with fail
                  refine wp_region_quiet_below (by kernel_rfl) (by kernel_rfl) ?_
                  repeat (
                    with_reducible refine wpQuiet_step ?_
                    intro KK hK
                    go_simp
                    first
                      | (with_reducible refine hK _ ?_; clear hK KK))
                  refine wpQuiet_nil ?_
                  intro _ hw'
                  obtain ⟨⟨dq, osq⟩, hw''⟩ := hw'
                  subst hw''
                  have GT2 := Aside0.mk (GT.out.go (below_regrown wr dq osq))
                  generalize Sort.grow (redrawn wr dq) osq = W at *
                  go_wp2
                  go_roundw
                  case rel => exact ⟨T + 1, true, by go_num, rfl, i1, i2, ⟨⟨fun _ => by
                      obtain ⟨y, hy, e⟩ := hyes.out
                      exact ⟨y, by rw [HTK1.out]; exact List.mem_append_left _ hy, e⟩, fun _ => rfl⟩⟩, GT2⟩
                  case measure => simp only [RowKit.intOf]; omega
                | false =>
                  have hno : ¬ ∃ x ∈ later.take T, among x.f1 n = I := fun h => Bool.false_ne_true (HH.out.2 h)
                  have HNO := Aside0.mk hno
                  clear hno
                  by_cases hjI : j = I
                  · have bj : ((j : Int) == (I : Int)) = true := by rw [hjI]; simp
                    have k0 := cell_regrown HX1.out
                    have r1 := R1.out
                    have r2 := R2.out
                    go_wp2_with fail
                    refine wp_region_quiet_below (by kernel_rfl) (by kernel_rfl) ?_
                    repeat (
                      with_reducible refine wpQuiet_step ?_
                      intro KK hK
                      go_simp
                      first
                        | (with_reducible refine hK _ ?_; clear hK KK)
                        | (apply Exists.intro
                           refine ⟨fun _ => ?_, hK _ ?_⟩
                           (first | with_reducible exact r1 _ _ | with_reducible exact r2 _ _)
                           clear hK KK))
                    refine wpQuiet_nil ?_
                    intro _ hw'
                    obtain ⟨⟨dq, osq⟩, hw''⟩ := hw'
                    subst hw''
                    have GT2 := Aside0.mk (GT.out.go (below_regrown wr dq osq))
                    clear k0 r1 r2
                    generalize Sort.grow (redrawn wr dq) osq = W at *
                    go_wp2
                    go_roundw
                    case rel => exact ⟨T + 1, true, by go_num, rfl, i1, i2, ⟨⟨fun _ => ⟨x, by rw [HTK1.out]; simp, by rw [← HJ.out]; exact hjI⟩, fun _ => rfl⟩⟩, GT2⟩
                    case measure => simp only [RowKit.intOf]; omega
                  · have bj : ((j : Int) == (I : Int)) = false := by simp only [beq_eq_false_iff_ne, ne_eq]; omega
                    have k0 := cell_regrown HX1.out
                    have r1 := R1.out
                    have r2 := R2.out
                    go_wp2_with fail
                    refine wp_region_quiet_below (by kernel_rfl) (by kernel_rfl) ?_
                    repeat (
                      with_reducible refine wpQuiet_step ?_
                      intro KK hK
                      go_simp
                      first
                        | (with_reducible refine hK _ ?_; clear hK KK)
                        | (apply Exists.intro
                           refine ⟨fun _ => ?_, hK _ ?_⟩
                           (first | with_reducible exact r1 _ _ | with_reducible exact r2 _ _)
                           clear hK KK))
                    refine wpQuiet_nil ?_
                    intro _ hw'
                    obtain ⟨⟨dq, osq⟩, hw''⟩ := hw'
                    subst hw''
                    have GT2 := Aside0.mk (GT.out.go (below_regrown wr dq osq))
                    clear k0 r1 r2
                    generalize Sort.grow (redrawn wr dq) osq = W at *
                    go_wp2
                    go_roundw
                    case rel => exact ⟨T + 1, false, by go_num, rfl, i1, i2, ⟨⟨fun h => absurd h Bool.false_ne_true, fun ⟨y, hy, e⟩ => by
                      rw [HTK1.out] at hy
                      rcases List.mem_append.1 hy with hy | hy
                      · exact absurd ⟨y, hy, e⟩ HNO.out
                      · rw [List.mem_singleton.1 hy, ← HJ.out] at e; exact absurd e hjI⟩⟩, GT2⟩
                    case measure => simp only [RowKit.intOf]; omega
              · have hT60 : later.take T = later.take 60 := by
                  by_cases h : T < 60
                  · have e1 : m ≤ T := by omega
                    rw [List.take_of_length_le (by rw [← HM.out]; exact e1), List.take_of_length_le (by rw [← HM.out]; omega)]
                  · rw [show T = 60 by omega]
                have HHT := Aside0.mk (hT60 ▸ HH.out)
                have HGT := Aside0.mk GT
                clear hT60
                have hbb : (T < m ∧ ¬ T < 60) ∨ ¬ T < m := by omega
                rcases hbb with ⟨i1, i2⟩ | i1
                · have v1 : decide ((T : Int) < (m : Int)) = true := decide_eq_true (by omega)
                  have v2 : decide ((T : Int) < 60) = false := decide_eq_false (by omega)
                  cases b with
                  | true =>
                    have hr1 : rank dk.vals (I + 1) = r + 1 := by rw [HRS.out, if_pos (HRO.out.2 (HHT.out.1 rfl))]
                    replace hr1 := Aside0.mk hr1
                    go_wp2
                    go_roundw
                    case rel => exact ⟨I + 1, by go_num, hIa, by rw [hr1.out]; go_num, GT⟩
                    case measure => simp only [RowKit.intOf]; omega
                  | false =>
                    have hr1 : rank dk.vals (I + 1) = r := by rw [HRS.out, if_neg fun h => Bool.false_ne_true (HHT.out.2 (HRO.out.1 h))]; rfl
                    replace hr1 := Aside0.mk hr1
                    go_wp2
                    go_roundw
                    case rel => exact ⟨I + 1, by go_num, hIa, by rw [hr1.out], GT⟩
                    case measure => simp only [RowKit.intOf]; omega
                · have v1 : decide ((T : Int) < (m : Int)) = false := decide_eq_false (by omega)
                  cases b with
                  | true =>
                    have hr1 : rank dk.vals (I + 1) = r + 1 := by rw [HRS.out, if_pos (HRO.out.2 (HHT.out.1 rfl))]
                    replace hr1 := Aside0.mk hr1
                    go_wp2
                    go_roundw
                    case rel => exact ⟨I + 1, by go_num, hIa, by rw [hr1.out]; go_num, GT⟩
                    case measure => simp only [RowKit.intOf]; omega
                  | false =>
                    have hr1 : rank dk.vals (I + 1) = r := by rw [HRS.out, if_neg fun h => Bool.false_ne_true (HHT.out.2 (HRO.out.1 h))]; rfl
                    replace hr1 := Aside0.mk hr1
                    go_wp2
                    go_roundw
                    case rel => exact ⟨I + 1, by go_num, hIa, by rw [hr1.out], GT⟩
                    case measure => simp only [RowKit.intOf]; omega
          · have hIe : I = a := by omega
            subst hIe
            have hPle := rank_le dk.vals I
            obtain ⟨P, hP⟩ : ∃ P, P = rank dk.vals I := ⟨_, rfl⟩
            rw [← hP] at hPle ⊢
            have hP2 : P ≤ 4096 := by omega
            have HPR := Aside0.mk hP
            obtain ⟨P1, hP1⟩ : ∃ P1, P1 = P + 1 := ⟨_, rfl⟩
            have wP : wrap64 ((P : Int) + 1) = (P1 : Int) := by unfold wrap64; omega
            have wP2 : (P : Int) + 1 = (P1 : Int) := by omega
            have lP : (P : Int) < (P1 : Int) := by omega
            have HP1 := Aside0.mk hP1
            clear hP hPle hP1
            go_wp2_with fail
            go_loopw [23] (fun i W => ∃ K : Nat, i = .int .i64 (K : Int) ∧ K ≤ N ∧ Aside0 (St w W (rDisk q dk :: rDisk p dk :: rList (.slice (some ⟨lg, 0, none⟩) N vc) vs :: []))) (fun i _ => N - (RowKit.intOf i).toNat)
            case atStart => exact ⟨0, rfl, Nat.zero_le _, GI⟩
            case round =>
              clear GI
              obtain ⟨K, rfl, hK, GK⟩ := hrel
              by_cases hKN : K < N
              · have z1 : decide ((K : Int) < (N : Int)) = true := decide_eq_true (by omega)
                have z2 : (0 : Int) ≤ (K : Int) := by omega
                have z3 : (K : Int) < (N : Int) := by omega
                have hcl := GK.out.clone
                have HCL := Aside0.mk hcl
                clear hcl
                go_wp2_with fail
                refine HCL.out.mono ?_
                rintro e Y1 ⟨y, rfl, J1⟩
                replace J1 := Aside0.mk J1
                clear HCL GK
                go_wp2_with (at_make; refine wpl_makeI rfl (.tmp 146) rfl P1 P HP1.out hP2 rfl J1.out ?_; intro Y2 g J2 y2c y2f; replace J2 := Aside0.mk J2)
                have J3 : St w (Y2.setCell ⟨g, P, none⟩ (.int .i64 (K : Int))) (rDisk y dk :: rBlk g (.cells ((choice P K).map (Value.int .i64)).toArray 3) :: rDisk q dk :: rDisk p dk :: rList (.slice (some ⟨lg, 0, none⟩) N vc) vs :: []) := by
                  have h := J2.out.setCell P (.int .i64 (K : Int))
                  rw [HP1.out, choice_cells] at h
                  exact h.swap
                have hKl : K < (dk.vals.getD I []).length := by rw [HS.out.2, ← HNE.out]; exact hKN
                have hr0 := choice_read J3.diskOk (a := I) (k := K) (by rw [HS.out.1.len]; exact hlta) hKl (by rw [HS.out.2, ← HNE.out]; omega)
                rw [← HPR.out, HS.out.2] at hr0
                have hcr := St.crash (picks := choice P K) (c := P1) J3 (fun {w T S} h => blk_rdI (by rw [choice_len]; omega) h) (by have := HTK.out; unfold maxTaken; omega)
                rw [choice_len, ← HP1.out] at hcr
                have hs256 : (vs.getD K []).length = 256 := by
                  rw [List.getD_eq_getElem?_getD, List.getElem?_eq_getElem (by rw [← HNE.out]; exact hKN)]; exact H256.out _ (List.getElem_mem _)
                have HCR := Aside0.mk hcr
                have HR0 := Aside0.mk hr0
                have HS256 := Aside0.mk hs256
                clear hcr hr0 hs256 hKl J3 J2 y2c y2f J1
                generalize Y2.setCell ⟨g, P, none⟩ (.int .i64 (K : Int)) = Y3 at *
                refine HCR.out.mono ?_
                rintro e Y4 ⟨rfl, J4⟩
                generalize dk.crash (choice P K) = dz at *
                have hrd := J4.readAt (I : Int) HR0.out
                rw [HS256.out] at hrd
                have HRD := Aside0.mk hrd
                clear hrd J4 HCR HR0
                go_wp2_with fail
                refine HRD.out.mono ?_
                rintro e Y5 ⟨B5, k5, rfl, J5⟩
                obtain ⟨lb, lc, hc5, hrd5⟩ := J5.rot6.listAt' HNE.out hKN H256.out
                have hsa := same_eq (c1 := k5) (c2 := lc) (J5.rdRow HS256.out) hrd5 HS256.out HS256.out rfl
                have HSA := Aside0.mk hsa
                replace J5 := Aside0.mk J5
                clear hsa hrd5 HRD
                go_wp2_with fail
                refine HSA.out.mono ?_
                rintro e Y6 ⟨rfl, hb6⟩
                have J6 := Aside0.mk (J5.out.go hb6).drop.drop.drop
                clear hb6 J5 HSA hc5
                go_wp2
                go_roundw
                case rel => exact ⟨K + 1, by go_num, hKN, J6⟩
                case measure => simp only [RowKit.intOf]; omega
              · have z1 : decide ((K : Int) < (N : Int)) = false := decide_eq_false (by omega)
                have J7 := St.swap ((GK.out.swap).oldK (k := .i64) HP.out)
                obtain ⟨K0, hK0, hrK⟩ : ∃ K0, K0 < N ∧ (dk.crash picks).read (I : Int) = (vs.getD K0 [], 0) := by
                  have h := crash_read J7.diskOk (a := I) (by rw [HS.out.1.len]; exact hlta) picks
                  rw [HS.out.2] at h
                  refine ⟨_, ?_, h⟩
                  rw [← HNE.out]
                  split
                  · exact pick_lt _ _ _ (by omega)
                  · omega
                have hs256 : (vs.getD K0 []).length = 256 := by
                  rw [List.getD_eq_getElem?_getD, List.getElem?_eq_getElem (by rw [← HNE.out]; exact hK0)]; exact H256.out _ (List.getElem_mem _)
                have hof := one_facts (crash_one dk picks J7.diskOk)
                have hct := crash_taken dk picks
                have hcr := St.crash (picks := picks) (c := c3) J7 (fun {w T S} h => h.1.1) (by have := HTK.out; unfold maxTaken; omega)
                have HCR := Aside0.mk hcr
                have htz : (dk.crash picks).taken ≤ maxTaken := by rw [hct]; have := HTK.out; unfold maxTaken; omega
                generalize dk.crash picks = dz at *
                obtain ⟨rs, hrs⟩ : ∃ rs, rs = vs.getD K0 [] := ⟨_, rfl⟩
                rw [← hrs] at hrK hs256
                have HRK := Aside0.mk hrK
                have HS256 := Aside0.mk hs256
                have HOF := Aside0.mk hof
                have HTZ := Aside0.mk htz
                have HRS := Aside0.mk hrs
                clear hcr hrK hs256 hof htz hct hrs J7 GK
                go_wp2_with fail
                refine HCR.out.mono ?_
                rintro e Z1 ⟨rfl, J8⟩
                have hrd := J8.readAt (I : Int) HRK.out
                rw [HS256.out] at hrd
                have HRD := Aside0.mk hrd
                clear hrd J8 HCR HRK
                go_wp2_with fail
                refine HRD.out.mono ?_
                rintro e Z2 ⟨B9, k9, rfl, J9⟩
                replace J9 := Aside0.mk J9
                clear HRD
                go_wp2_with fail
                go_loopw [29, 30] (fun fo i W => ∃ (T : Nat) (b : Bool), i = .int .i64 (T : Int) ∧ fo = .bool b ∧ T ≤ N ∧ Aside0 (b = true ↔ ∃ j, j < T ∧ rs = vs.getD j []) ∧ Aside0 (St w W (rRow 5 1 (.slice B9 256 k9) 256 (bytes rs) :: rDisk p dz :: rRdK .i64 A3 picks :: rDisk q dk :: rList (.slice (some ⟨lg, 0, none⟩) N vc) vs :: []))) (fun _ i _ => N - (RowKit.intOf i).toNat)
                case atStart => exact ⟨0, false, rfl, rfl, Nat.zero_le _, ⟨by simp⟩, J9⟩
                case round =>
                  clear J9
                  obtain ⟨T, b, rfl, rfl, hT, HH, GT⟩ := hrel
                  by_cases hTN : T < N
                  · have q1 : decide ((T : Int) < (N : Int)) = true := decide_eq_true (by omega)
                    have q2 : (0 : Int) ≤ (T : Int) := by omega
                    have q3 : (T : Int) < (N : Int) := by omega
                    cases b with
                    | true =>
                      have hyes := Aside0.mk (HH.out.1 rfl)
                      clear HH
                      go_wp2
                      go_roundw
                      case rel => exact ⟨T + 1, true, by go_num, rfl, hTN, ⟨⟨fun _ => by
                          obtain ⟨j, hj, e⟩ := hyes.out
                          exact ⟨j, by omega, e⟩, fun _ => rfl⟩⟩, GT⟩
                      case measure => simp only [RowKit.intOf]; omega
                    | false =>
                      have hno := Aside0.mk (fun h => Bool.false_ne_true (HH.out.2 h))
                      clear HH
                      have ht256 : (vs.getD T []).length = 256 := by
                        rw [List.getD_eq_getElem?_getD, List.getElem?_eq_getElem (by rw [← HNE.out]; exact hTN)]; exact H256.out _ (List.getElem_mem _)
                      obtain ⟨lb, lc, hc5, hrd5⟩ := GT.out.rot5.listAt' HNE.out hTN H256.out
                      have hsa := same_of (c1 := k9) (c2 := lc) (GT.out.rdRow HS256.out) hrd5 HS256.out ht256
                      obtain ⟨bb, hbb⟩ : ∃ bb, bb = decide (rs = vs.getD T []) := ⟨_, rfl⟩
                      rw [← hbb] at hsa
                      have HSA := Aside0.mk hsa
                      have HBB := Aside0.mk hbb
                      clear hsa hrd5 ht256 hbb
                      go_wp2_with fail
                      refine HSA.out.mono ?_
                      rintro e Z6 ⟨rfl, hb6⟩
                      have J6 := Aside0.mk (GT.out.go hb6)
                      clear hb6 HSA hc5
                      go_wp2
                      go_roundw
                      case rel => exact ⟨T + 1, bb, by go_num, rfl, hTN, ⟨⟨fun h => by
                          rw [HBB.out] at h
                          exact ⟨T, by omega, of_decide_eq_true h⟩, fun ⟨j, hj, e⟩ => by
                          by_cases hjT : j = T
                          · rw [hjT] at e; rw [HBB.out]; exact decide_eq_true e
                          · exact absurd ⟨j, by omega, e⟩ hno.out⟩⟩, J6⟩
                      case measure => simp only [RowKit.intOf]; omega
                  · have q1 : decide ((T : Int) < (N : Int)) = false := decide_eq_false (by omega)
                    have hbt : b = true := HH.out.2 ⟨K0, by omega, HRS.out⟩
                    subst hbt
                    clear HH
                    have hpe := GT.out.swap.pending
                    rw [HOF.out.1] at hpe
                    obtain ⟨M, hM⟩ : ∃ M, M = dz.image.length := ⟨_, rfl⟩
                    have him := GT.out.swap.imageAt HTZ.out hM.symm
                    have HIM := Aside0.mk him
                    have HMM := Aside0.mk hM
                    clear him hM
                    replace hpe := Aside0.mk hpe
                    clear GT
                    go_wp2_with fail
                    refine hpe.out.mono ?_
                    rintro e Z3 ⟨rfl, rfl⟩
                    go_wp2_with fail
                    refine HIM.out.mono ?_
                    rintro e Z4 ⟨B4, k4, rfl, R4⟩
                    have hM2 : dz.sure.length = M := by rw [← HOF.out.2]; exact HMM.out.symm
                    have hsu := R4.swap.sureAt hM2
                    have HSU := Aside0.mk hsu
                    have HM2 := Aside0.mk hM2
                    clear hsu hM2 R4 HIM
                    go_wp2_with fail
                    refine HSU.out.mono ?_
                    rintro e Z5 ⟨B5, k5, rfl, R5⟩
                    have hsa := same_eq (c1 := k4) (c2 := k5) (R5.rot3.rdRow HMM.out.symm) (R5.rdRow HM2.out) HMM.out.symm HM2.out HOF.out.2
                    have HSA := Aside0.mk hsa
                    replace R5 := Aside0.mk R5
                    clear hsa HSU
                    go_wp2_with fail
                    refine HSA.out.mono ?_
                    rintro e Z6 ⟨rfl, hb6⟩
                    have HB := Aside0.mk (R5.out.go hb6).below
                    clear hb6 R5 HSA
                    go_wp2
                    go_ret
                    exact ⟨rfl, HB.out⟩
end Go.Proofs.Ytoojcgmdcbcenaa
