/- DiskLimit, walked. -/
import Derived.Test.YtoojcgmdcbcenaaL6a
namespace Go.Proofs.Ytoojcgmdcbcenaa
open Go.RowKit Go.Maps Go.Proofs.YtoojcgmdcbcenaaW.PrintWords
attribute [local go_sem ↓] Go.wp_at_zero Go.wp_at_succ
set_option linter.unusedVariables false
set_option linter.unusedSimpArgs false
set_option maxRecDepth 100000

set_option maxHeartbeats 1500000 in
theorem limit_calls (w : World) (sectors : Int) (A1 : Option Addr) (c1 : Nat) (acts : List S42) (nn at_ : Int) (hA : Kd.C k42 w A1 acts.length acts) (hle : acts.length ≤ c1) (hf : ∀ x ∈ acts, 0 ≤ x.f3 ∧ x.f3 ≤ 255) :
    Calls Try.prog 6 #[.int .i64 sectors, .slice A1 acts.length c1, .int .i64 nn, .int .i64 at_] w fun e w' => e = .returned (.bool true) ∧ Below w.heap.size w w' := by
  have hwk := works_calls w
  have ham := fun W => among_calls W sectors (m := 20) (by omega) (by omega)
  have hlt := among_lt sectors (m := 20) (by omega)
  obtain ⟨s, hs⟩ : ∃ s, s = among sectors 20 := ⟨_, rfl⟩
  rw [← hs] at ham hlt
  have hamN := fun W => among_calls W nn (m := 30) (by omega) (by omega)
  have hltN := among_lt nn (m := 30) (by omega)
  obtain ⟨N, hN⟩ : ∃ N, N = among nn 30 := ⟨_, rfl⟩
  rw [← hN] at hamN hltN
  obtain ⟨n, hn⟩ : ∃ n, n = s + 1 := ⟨_, rfl⟩
  have wn : (1 : Int) + (s : Int) = (n : Int) := by omega
  have ww : wrap64 (1 + (s : Int)) = (n : Int) := by unfold wrap64; omega
  have hposn : 0 < n := by omega
  have hama := fun W => among_calls W at_ (m := n) hposn (by omega)
  have hlta := among_lt at_ (m := n) hposn
  obtain ⟨a, ha⟩ : ∃ a, a = among at_ n := ⟨_, rfl⟩
  rw [← ha] at hama hlta
  have hnl : (newD n).vals.length = n := by simp [newD]
  obtain ⟨m, hm⟩ : ∃ m, m = acts.length := ⟨_, rfl⟩
  have hmax : acts.length ≤ 9223372036854775807 := hA.2.1
  rw [← hm] at hmax hle ⊢
  have HA := Aside0.mk hA
  have HF := Aside0.mk hf
  have HW := Aside0.mk hwk
  have HM := Aside0.mk hm
  have HNL := Aside0.mk hnl
  have h1n : 1 ≤ n := by omega
  have h2n : n ≤ 4096 := by omega
  have H0 := Aside0.mk (St.start w)
  clear hA hf hwk hs hn hm ha hnl hN
  go_enter Try.func6, Try.ntmps6
  go_wp2_with fail
  refine HW.out.mono ?_
  rintro e W1 ⟨rfl, hb1⟩
  replace H0 := Aside0.mk (H0.out.go hb1)
  clear hb1
  go_wp2_with fail
  refine (ham _).mono ?_
  rintro e W2 ⟨rfl, rfl⟩
  have hnew := H0.out.new h1n h2n
  go_wp2_with fail
  refine hnew.mono ?_
  rintro e W3 ⟨p, rfl, H1⟩
  have hcl := H1.clone
  clear hnew H1
  go_wp2_with fail
  refine (hamN _).mono ?_
  rintro e W4 ⟨rfl, rfl⟩
  go_wp2_with fail
  refine hcl.mono ?_
  rintro e W5 ⟨q, rfl, H2⟩
  have hli := (St.swap H2).limit (N : Int) (by omega)
  have HLI := Aside0.mk hli
  clear hcl H2 hli
  go_wp2_with fail
  refine HLI.out.mono ?_
  rintro e W6 ⟨rfl, H3⟩
  replace H3 := Aside0.mk H3
  clear HLI
  have HS0 := Aside0.mk (lim_start (n := n) (N := N) (acts.take 100))
  generalize (newD n).limit (N : Nat) = d0 at *
  by_cases hbig : 100 < m
  · have b1 : decide ((100 : Int) < (m : Int)) = true := decide_eq_true (by omega)
    have q1 : (100 : Int) ≤ (c1 : Int) := by omega
    obtain ⟨ad, hadA, _⟩ := HA.out.2.2 (by have := HM.out; omega)
    subst hadA
    have hNM : N < 100 := by omega
    go_wp2_with fail
    go_loopw [12] (fun i W => ∃ (k : Nat) (dk : Dsk), i = .int .i64 (k : Int) ∧ k ≤ 100 ∧ Aside0 (Lim n N (acts.take 100) k dk) ∧ Aside0 (St w W (rDisk p dk :: rDisk q (newD n) :: []))) (fun i _ => 100 - (RowKit.intOf i).toNat)
    case atStart => exact ⟨0, d0, rfl, Nat.zero_le _, HS0, H3⟩
    case round =>
      clear H3 HS0
      obtain ⟨k, dk, rfl, hk1, HL, HK⟩ := hrel
      by_cases hlt2 : k < 100
      · have t1 : decide ((k : Int) < (100 : Int)) = true := decide_eq_true (by omega)
        have t3 : (0 : Int) ≤ (k : Int) := by omega
        have t4 : (k : Int) < (100 : Int) := by omega
        have hk2 : k + 1 ≤ 100 := hlt2
        have hkl : k < acts.length := by have := HM.out; omega
        have hkt : k < (acts.take 100).length := by rw [List.length_take]; have := HM.out; omega
        have eg : (acts.take 100)[k] = acts[k] := List.getElem_take
        obtain ⟨hres0, hst⟩ := lim_step HL.out hposn hkt
        rw [eg] at hres0 hst
        have hx := HF.out acts[k] (List.getElem_mem hkl)
        obtain ⟨ad', A4, c4, e, a0, _⟩ := act_at HA.out hkl
        have e2 := e
        simp only [Option.some.injEq] at e2
        obtain rfl := e2
        have hS0 : ∀ W, Below w.heap.size w W → W.cell? (ad.add (k * 5)) = some (.int .i64 acts[k].f0) := fun W hW => pw_cell_below hW a0
        have hS : ∀ W, Below w.heap.size w W → W.cell? ⟨(ad.add (k * 5)).block, (ad.add (k * 5)).off + 1, none⟩ = some (.int .i64 acts[k].f1) ∧ W.cell? ⟨(ad.add (k * 5)).block, (ad.add (k * 5)).off + 3, none⟩ = some (.int .u8 acts[k].f3) := fun W hW => by
          obtain ⟨ad', _, _, e, b0, b1, _, b3, _⟩ := act_at HA.out hkl
          cases e
          exact ⟨pw_cell_below hW b1, pw_cell_below hW b3⟩
        generalize acts[k] = x at *
        have ham0 := fun W => among_calls W x.f0 (m := 4) (by omega) (by omega)
        have htk : dk.taken < maxTaken := by have := HL.out.taken; unfold maxTaken; omega
        have hsec := HK.out.drew.sectors
        rw [HL.out.len] at hsec
        replace a0 := hS0 _ HK.out.below
        obtain ⟨a1, a3⟩ := hS _ HK.out.below
        have HS := Aside0.mk hS
        have HST := Aside0.mk hst
        clear hkl hkt hS hst eg hS0 e
        by_cases hkN : k < N
        · have b5 : decide ((k : Int) < (N : Int)) = true := decide_eq_true (by omega)
          rw [if_pos hkN] at hres0
          by_cases h3 : among x.f0 4 = 3
          · have hsy := HK.out.sync htk
            rw [← opD_sync h3, hres0] at hsy
            have HSY := Aside0.mk hsy
            rw [h3] at ham0
            clear hsy hres0
            go_wp2_with fail
            refine (ham0 _).mono ?_
            rintro e w1 ⟨rfl, rfl⟩
            go_wp2_with fail
            refine HSY.out.mono ?_
            rintro e w2 ⟨rfl, H5⟩
            replace H5 := Aside0.mk H5
            go_wp2
            go_roundw
            case rel => exact ⟨k + 1, _, by go_num, hk2, HST, H5⟩
            case measure => simp only [RowKit.intOf]; omega
          · have ham1 := fun W => among_calls W x.f1 hposn (by omega)
            obtain ⟨qq, hq⟩ : ∃ qq, qq = among x.f0 4 := ⟨_, rfl⟩
            have hwc := write_chain HK.out.drew htk hx (among x.f1 n : Nat)
            have ho := opD_write (d := dk) h3
            rw [HL.out.len] at ho
            rw [← ho] at hwc
            rw [← hq] at ham0 h3
            have b3 : ((qq : Int) == 3) = false := by simpa using (by omega : (qq : Int) ≠ 3)
            obtain ⟨j, hj⟩ : ∃ j, j = among x.f1 n := ⟨_, rfl⟩
            rw [← hj] at ham1 hwc
            have HWC := Aside0.mk hwc
            have hres := Aside0.mk hres0
            have HB0 := HK
            clear hwc hres0 ho hq hj
            go_wp2_with fail
            refine (ham0 _).mono ?_
            rintro e w1 ⟨rfl, rfl⟩
            go_wp2_with fail
            go_region_held3 (fun W => W.cell? ⟨(ad.add (k * 5)).block, (ad.add (k * 5)).off + 1, none⟩ = some (.int .i64 x.f1) ∧ W.cell? ⟨(ad.add (k * 5)).block, (ad.add (k * 5)).off + 3, none⟩ = some (.int .u8 x.f3))
              ((first | exact HS.out _ HB0.out.drew.below | exact HS.out _ (HB0.out.drew.below.trans (hbl.out.mono HB0.out.drew.below.size)) | exact HS.out _ hfin.out.below))
              ((first
                | (go_at_call 19; refine hsec.mono ?_; rintro e w2 ⟨rfl, rfl⟩)
                | (go_at_call 11; refine (ham1 _).mono ?_; rintro e w2 ⟨rfl, rfl⟩)
                | (go_at_call 22; refine HWC.out.mono ?_; rintro e w2 ⟨g, cc, rfl, hbl, h21⟩; replace hbl := Aside0.mk hbl; replace h21 := Aside0.mk h21)
                | (go_at_call 21; refine h21.out.mono ?_; rintro e w3 ⟨r, rfl, hr, hfin⟩; replace hr := hr.trans hres.out; subst hr)))
            all_goals (
              go_wp2
              go_roundw
              case rel => exact ⟨k + 1, _, by go_num, hk2, HST, hfin⟩
              case measure => simp only [RowKit.intOf]; omega)
        · have b5 : decide ((k : Int) < (N : Int)) = false := decide_eq_false (by omega)
          rw [if_neg hkN] at hres0
          by_cases h3 : among x.f0 4 = 3
          · have hsy := HK.out.sync htk
            rw [← opD_sync h3, hres0] at hsy
            have HSY := Aside0.mk hsy
            rw [h3] at ham0
            clear hsy hres0
            go_wp2_with fail
            refine (ham0 _).mono ?_
            rintro e w1 ⟨rfl, rfl⟩
            go_wp2_with fail
            refine HSY.out.mono ?_
            rintro e w2 ⟨rfl, H5⟩
            replace H5 := Aside0.mk H5
            go_wp2
            go_roundw
            case rel => exact ⟨k + 1, _, by go_num, hk2, HST, H5⟩
            case measure => simp only [RowKit.intOf]; omega
          · have ham1 := fun W => among_calls W x.f1 hposn (by omega)
            obtain ⟨qq, hq⟩ : ∃ qq, qq = among x.f0 4 := ⟨_, rfl⟩
            have hwc := write_chain HK.out.drew htk hx (among x.f1 n : Nat)
            have ho := opD_write (d := dk) h3
            rw [HL.out.len] at ho
            rw [← ho] at hwc
            rw [← hq] at ham0 h3
            have b3 : ((qq : Int) == 3) = false := by simpa using (by omega : (qq : Int) ≠ 3)
            obtain ⟨j, hj⟩ : ∃ j, j = among x.f1 n := ⟨_, rfl⟩
            rw [← hj] at ham1 hwc
            have HWC := Aside0.mk hwc
            have hres := Aside0.mk hres0
            have HB0 := HK
            clear hwc hres0 ho hq hj
            go_wp2_with fail
            refine (ham0 _).mono ?_
            rintro e w1 ⟨rfl, rfl⟩
            go_wp2_with fail
            go_region_held3 (fun W => W.cell? ⟨(ad.add (k * 5)).block, (ad.add (k * 5)).off + 1, none⟩ = some (.int .i64 x.f1) ∧ W.cell? ⟨(ad.add (k * 5)).block, (ad.add (k * 5)).off + 3, none⟩ = some (.int .u8 x.f3))
              ((first | exact HS.out _ HB0.out.drew.below | exact HS.out _ (HB0.out.drew.below.trans (hbl.out.mono HB0.out.drew.below.size)) | exact HS.out _ hfin.out.below))
              ((first
                | (go_at_call 19; refine hsec.mono ?_; rintro e w2 ⟨rfl, rfl⟩)
                | (go_at_call 11; refine (ham1 _).mono ?_; rintro e w2 ⟨rfl, rfl⟩)
                | (go_at_call 22; refine HWC.out.mono ?_; rintro e w2 ⟨g, cc, rfl, hbl, h21⟩; replace hbl := Aside0.mk hbl; replace h21 := Aside0.mk h21)
                | (go_at_call 21; refine h21.out.mono ?_; rintro e w3 ⟨r, rfl, hr, hfin⟩; replace hr := hr.trans hres.out; subst hr)))
            all_goals (
              go_wp2
              go_roundw
              case rel => exact ⟨k + 1, _, by go_num, hk2, HST, hfin⟩
              case measure => simp only [RowKit.intOf]; omega)
      · have hkM : k = 100 := by omega
        have t1 : decide ((k : Int) < (100 : Int)) = false := decide_eq_false (by omega)
        have hoff : dk.off = true := by rw [HL.out.off]; exact decide_eq_true (by omega)
        have htk : dk.taken = N := by rw [HL.out.taken]; omega
        have hvals : dk.vals = (doD (newD n) (acts.take N)).vals := by
          rw [HL.out.vals, List.take_take]
          congr 3
          omega
        have hlen := HL.out.len
        have hl2 : (acts.take N).length = N := by rw [List.length_take]; have := HM.out; omega
        have hKc := kd_take HA.out N (by have := HM.out; omega)
        rw [hl2] at hKc
        have g1 : (0 : Int) ≤ ((N : Nat) : Int) := by omega
        have g2 : ((N : Nat) : Int) ≤ (c1 : Int) := by omega
        have gm : min (N : Int) (100 : Int) = ((N : Nat) : Int) := by omega
        have hrd : dk.read (a : Int) = ([], 10) := by
          unfold Dsk.read
          rw [if_neg (by omega), hoff]
          rfl
        have hdo := do_calls (c := c1) (l := acts.take N) (St.swap HK.out) (by rw [hl2]; exact hKc) (fun x hx => HF.out x (List.mem_of_mem_take hx)) (by show 0 + 200 ≤ maxTaken; unfold maxTaken; omega)
        rw [hl2, List.take_take, show min 200 N = N by omega] at hdo
        have HDO := Aside0.mk hdo
        have HKC := Aside0.mk hKc
        have HRD := Aside0.mk hrd
        have HVA := Aside0.mk hvals
        have HOF := Aside0.mk hoff
        have HTK := Aside0.mk htk
        have HLE := Aside0.mk hlen
        clear hdo hKc hrd hvals hoff htk hlen hl2 hkM
        go_wp2_with fail
        refine HDO.out.mono ?_
        rintro e V1 ⟨rfl, G1⟩
        have hdl : (doD (newD n) (acts.take N)).vals.length = n := by rw [doD_len]; simp [newD]
        have hdt : (doD (newD n) (acts.take N)).taken ≤ maxTaken := by
          have h1 := doD_taken (acts.take N) (newD n)
          have h2 : (newD n).taken = 0 := rfl
          rw [List.length_take] at h1
          unfold maxTaken
          omega
        obtain ⟨dc, hdc⟩ : ∃ dc, dc = doD (newD n) (acts.take N) := ⟨_, rfl⟩
        have hva := HVA.out
        rw [← hdc] at G1 hdl hdt hva
        have hil : dc.image.length = n * 256 := by rw [G1.diskOk.image_len, hdl]
        have hsl : dc.sure.length = n * 256 := by rw [G1.diskOk.sure_len, hdl]
        have eim : dk.image = dc.image := by simp only [Dsk.image, hva]
        have esu : dk.sure = dc.sure := by simp only [Dsk.sure, hva]
        have hsc := (St.swap G1).sectors
        rw [HLE.out] at hsc
        have hre := (St.swap G1).readAt (a : Int) HRD.out
        have HRE := Aside0.mk hre
        have EIM := Aside0.mk eim
        have ESU := Aside0.mk esu
        have HIL := Aside0.mk hil
        have HSL := Aside0.mk hsl
        have HDT := Aside0.mk hdt
        clear hdc hva hre eim esu hil hsl hdl hdt G1 HDO HK
        go_wp2_with fail
        refine hsc.mono ?_
        rintro e V2 ⟨rfl, rfl⟩
        go_wp2_with fail
        refine (hama _).mono ?_
        rintro e V3 ⟨rfl, rfl⟩
        go_wp2_with fail
        refine HRE.out.mono ?_
        rintro e V4 ⟨B1, k1, rfl, G2⟩
        have him := Aside0.mk ((St.rot3 G2).imageAt HDT.out HIL.out)
        clear G2 HRE hsc
        obtain ⟨NN, hNN⟩ : ∃ NN, NN = n * 256 := ⟨_, rfl⟩
        rw [← hNN] at him HIL HSL
        clear hNN
        have EDI : Aside0 (dk.image.length = NN) := ⟨EIM.out ▸ HIL.out⟩
        have EDS : Aside0 (dk.sure.length = NN) := ⟨ESU.out ▸ HSL.out⟩
        go_wp2_with fail
        refine him.out.mono ?_
        rintro e V5 ⟨B2, k2, rfl, G3⟩
        have him2 := Aside0.mk ((St.rot4 G3).imageAt (by have := HTK.out; unfold maxTaken; omega) EDI.out)
        clear G3 him
        go_wp2_with fail
        refine him2.out.mono ?_
        rintro e V6 ⟨B3, k3, rfl, G4⟩
        have hsa := Aside0.mk (same_eq (c1 := k2) (c2 := k3) ((St.rot3 G4).rdRow HIL.out) (G4.rdRow EDI.out) HIL.out EDI.out EIM.out.symm)
        replace G4 := Aside0.mk G4
        clear him2
        go_wp2_with fail
        refine hsa.out.mono ?_
        rintro e V7 ⟨rfl, hb7⟩
        have G5 := G4.out.go hb7
        have hsu := Aside0.mk ((St.rot4 G5).sureAt HSL.out)
        clear G4 hsa hb7 G5
        go_wp2_with fail
        refine hsu.out.mono ?_
        rintro e V8 ⟨B4, k4, rfl, G6⟩
        have hsu2 := Aside0.mk ((St.rot4 G6).sureAt EDS.out)
        clear G6 hsu
        go_wp2_with fail
        refine hsu2.out.mono ?_
        rintro e V9 ⟨B5, k5, rfl, G7⟩
        have hsa := Aside0.mk (same_eq (c1 := k4) (c2 := k5) ((St.rot3 G7).rdRow HSL.out) (G7.rdRow EDS.out) HSL.out EDS.out ESU.out.symm)
        replace G7 := Aside0.mk G7
        clear hsu2
        go_wp2_with fail
        refine hsa.out.mono ?_
        rintro e V10 ⟨rfl, hb10⟩
        have G8 := St.swap (G7.out.go hb10)
        have hop := G8.ops
        rw [HTK.out] at hop
        replace G8 := Aside0.mk G8
        clear hsa hb10 G7
        go_wp2_with fail
        refine hop.mono ?_
        rintro e V11 ⟨rfl, rfl⟩
        have hcr := Aside0.mk (St.crash (picks := []) (c := 0) (St.swap G8.out.emp) (fun {w T S} h => nil_rdI h) (by have := HTK.out; unfold maxTaken; omega))
        have hfr : Free (dk.crash []) := ⟨rfl, rfl⟩
        have hct := crash_taken dk []
        clear hop
        go_wp2_with fail
        refine hcr.out.mono ?_
        rintro e V12 ⟨rfl, G9⟩
        have hsy := G9.sync (by rw [hct]; have := HTK.out; unfold maxTaken; omega)
        rw [hfr.sync] at hsy
        have HSY := Aside0.mk hsy
        clear hsy G9 hcr hct
        go_wp2_with fail
        refine HSY.out.mono ?_
        rintro e V13 ⟨rfl, G10⟩
        have HB := Aside0.mk G10.below
        clear G10 HSY
        go_wp2
        go_ret
        exact ⟨rfl, HB.out⟩

  · have b1 : decide ((100 : Int) < (m : Int)) = false := decide_eq_false (by omega)
    go_wp2_with fail
    go_loopw [12] (fun i W => ∃ (k : Nat) (dk : Dsk), i = .int .i64 (k : Int) ∧ k ≤ m ∧ Aside0 (Lim n N (acts.take 100) k dk) ∧ Aside0 (St w W (rDisk p dk :: rDisk q (newD n) :: []))) (fun i _ => m - (RowKit.intOf i).toNat)
    case atStart => exact ⟨0, d0, rfl, Nat.zero_le _, HS0, H3⟩
    case round =>
      clear H3 HS0
      obtain ⟨k, dk, rfl, hk1, HL, HK⟩ := hrel
      by_cases hlt2 : k < m
      · have t1 : decide ((k : Int) < (m : Int)) = true := decide_eq_true (by omega)
        have t3 : (0 : Int) ≤ (k : Int) := by omega
        have t4 : (k : Int) < (m : Int) := by omega
        have hk2 : k + 1 ≤ m := hlt2
        have hkl : k < acts.length := by have := HM.out; omega
        have hkt : k < (acts.take 100).length := by rw [List.length_take]; have := HM.out; omega
        have eg : (acts.take 100)[k] = acts[k] := List.getElem_take
        obtain ⟨hres0, hst⟩ := lim_step HL.out hposn hkt
        rw [eg] at hres0 hst
        have hx := HF.out acts[k] (List.getElem_mem hkl)
        obtain ⟨ad, A4, c4, rfl, a0, _⟩ := act_at HA.out hkl
        have hS0 : ∀ W, Below w.heap.size w W → W.cell? (ad.add (k * 5)) = some (.int .i64 acts[k].f0) := fun W hW => pw_cell_below hW a0
        have hS : ∀ W, Below w.heap.size w W → W.cell? ⟨(ad.add (k * 5)).block, (ad.add (k * 5)).off + 1, none⟩ = some (.int .i64 acts[k].f1) ∧ W.cell? ⟨(ad.add (k * 5)).block, (ad.add (k * 5)).off + 3, none⟩ = some (.int .u8 acts[k].f3) := fun W hW => by
          obtain ⟨ad', _, _, e, b0, b1, _, b3, _⟩ := act_at HA.out hkl
          cases e
          exact ⟨pw_cell_below hW b1, pw_cell_below hW b3⟩
        generalize acts[k] = x at *
        have ham0 := fun W => among_calls W x.f0 (m := 4) (by omega) (by omega)
        have htk : dk.taken < maxTaken := by have := HL.out.taken; unfold maxTaken; omega
        have hsec := HK.out.drew.sectors
        rw [HL.out.len] at hsec
        replace a0 := hS0 _ HK.out.below
        obtain ⟨a1, a3⟩ := hS _ HK.out.below
        have HS := Aside0.mk hS
        have HST := Aside0.mk hst
        clear hkl hkt hS hst eg hS0
        by_cases hkN : k < N
        · have b5 : decide ((k : Int) < (N : Int)) = true := decide_eq_true (by omega)
          rw [if_pos hkN] at hres0
          by_cases h3 : among x.f0 4 = 3
          · have hsy := HK.out.sync htk
            rw [← opD_sync h3, hres0] at hsy
            have HSY := Aside0.mk hsy
            rw [h3] at ham0
            clear hsy hres0
            go_wp2_with fail
            refine (ham0 _).mono ?_
            rintro e w1 ⟨rfl, rfl⟩
            go_wp2_with fail
            refine HSY.out.mono ?_
            rintro e w2 ⟨rfl, H5⟩
            replace H5 := Aside0.mk H5
            go_wp2
            go_roundw
            case rel => exact ⟨k + 1, _, by go_num, hk2, HST, H5⟩
            case measure => simp only [RowKit.intOf]; omega
          · have ham1 := fun W => among_calls W x.f1 hposn (by omega)
            obtain ⟨qq, hq⟩ : ∃ qq, qq = among x.f0 4 := ⟨_, rfl⟩
            have hwc := write_chain HK.out.drew htk hx (among x.f1 n : Nat)
            have ho := opD_write (d := dk) h3
            rw [HL.out.len] at ho
            rw [← ho] at hwc
            rw [← hq] at ham0 h3
            have b3 : ((qq : Int) == 3) = false := by simpa using (by omega : (qq : Int) ≠ 3)
            obtain ⟨j, hj⟩ : ∃ j, j = among x.f1 n := ⟨_, rfl⟩
            rw [← hj] at ham1 hwc
            have HWC := Aside0.mk hwc
            have hres := Aside0.mk hres0
            have HB0 := HK
            clear hwc hres0 ho hq hj
            go_wp2_with fail
            refine (ham0 _).mono ?_
            rintro e w1 ⟨rfl, rfl⟩
            go_wp2_with fail
            go_region_held3 (fun W => W.cell? ⟨(ad.add (k * 5)).block, (ad.add (k * 5)).off + 1, none⟩ = some (.int .i64 x.f1) ∧ W.cell? ⟨(ad.add (k * 5)).block, (ad.add (k * 5)).off + 3, none⟩ = some (.int .u8 x.f3))
              ((first | exact HS.out _ HB0.out.drew.below | exact HS.out _ (HB0.out.drew.below.trans (hbl.out.mono HB0.out.drew.below.size)) | exact HS.out _ hfin.out.below))
              ((first
                | (go_at_call 19; refine hsec.mono ?_; rintro e w2 ⟨rfl, rfl⟩)
                | (go_at_call 11; refine (ham1 _).mono ?_; rintro e w2 ⟨rfl, rfl⟩)
                | (go_at_call 22; refine HWC.out.mono ?_; rintro e w2 ⟨g, cc, rfl, hbl, h21⟩; replace hbl := Aside0.mk hbl; replace h21 := Aside0.mk h21)
                | (go_at_call 21; refine h21.out.mono ?_; rintro e w3 ⟨r, rfl, hr, hfin⟩; replace hr := hr.trans hres.out; subst hr)))
            all_goals (
              go_wp2
              go_roundw
              case rel => exact ⟨k + 1, _, by go_num, hk2, HST, hfin⟩
              case measure => simp only [RowKit.intOf]; omega)
        · have b5 : decide ((k : Int) < (N : Int)) = false := decide_eq_false (by omega)
          rw [if_neg hkN] at hres0
          by_cases h3 : among x.f0 4 = 3
          · have hsy := HK.out.sync htk
            rw [← opD_sync h3, hres0] at hsy
            have HSY := Aside0.mk hsy
            rw [h3] at ham0
            clear hsy hres0
            go_wp2_with fail
            refine (ham0 _).mono ?_
            rintro e w1 ⟨rfl, rfl⟩
            go_wp2_with fail
            refine HSY.out.mono ?_
            rintro e w2 ⟨rfl, H5⟩
            replace H5 := Aside0.mk H5
            go_wp2
            go_roundw
            case rel => exact ⟨k + 1, _, by go_num, hk2, HST, H5⟩
            case measure => simp only [RowKit.intOf]; omega
          · have ham1 := fun W => among_calls W x.f1 hposn (by omega)
            obtain ⟨qq, hq⟩ : ∃ qq, qq = among x.f0 4 := ⟨_, rfl⟩
            have hwc := write_chain HK.out.drew htk hx (among x.f1 n : Nat)
            have ho := opD_write (d := dk) h3
            rw [HL.out.len] at ho
            rw [← ho] at hwc
            rw [← hq] at ham0 h3
            have b3 : ((qq : Int) == 3) = false := by simpa using (by omega : (qq : Int) ≠ 3)
            obtain ⟨j, hj⟩ : ∃ j, j = among x.f1 n := ⟨_, rfl⟩
            rw [← hj] at ham1 hwc
            have HWC := Aside0.mk hwc
            have hres := Aside0.mk hres0
            have HB0 := HK
            clear hwc hres0 ho hq hj
            go_wp2_with fail
            refine (ham0 _).mono ?_
            rintro e w1 ⟨rfl, rfl⟩
            go_wp2_with fail
            go_region_held3 (fun W => W.cell? ⟨(ad.add (k * 5)).block, (ad.add (k * 5)).off + 1, none⟩ = some (.int .i64 x.f1) ∧ W.cell? ⟨(ad.add (k * 5)).block, (ad.add (k * 5)).off + 3, none⟩ = some (.int .u8 x.f3))
              ((first | exact HS.out _ HB0.out.drew.below | exact HS.out _ (HB0.out.drew.below.trans (hbl.out.mono HB0.out.drew.below.size)) | exact HS.out _ hfin.out.below))
              ((first
                | (go_at_call 19; refine hsec.mono ?_; rintro e w2 ⟨rfl, rfl⟩)
                | (go_at_call 11; refine (ham1 _).mono ?_; rintro e w2 ⟨rfl, rfl⟩)
                | (go_at_call 22; refine HWC.out.mono ?_; rintro e w2 ⟨g, cc, rfl, hbl, h21⟩; replace hbl := Aside0.mk hbl; replace h21 := Aside0.mk h21)
                | (go_at_call 21; refine h21.out.mono ?_; rintro e w3 ⟨r, rfl, hr, hfin⟩; replace hr := hr.trans hres.out; subst hr)))
            all_goals (
              go_wp2
              go_roundw
              case rel => exact ⟨k + 1, _, by go_num, hk2, HST, hfin⟩
              case measure => simp only [RowKit.intOf]; omega)
      · have hkM : k = m := by omega
        have t1 : decide ((k : Int) < (m : Int)) = false := decide_eq_false (by omega)
        by_cases hNM : N < m
        · have b9 : decide ((N : Int) < (m : Int)) = true := decide_eq_true (by omega)
          have hoff : dk.off = true := by rw [HL.out.off]; exact decide_eq_true (by omega)
          have htk : dk.taken = N := by rw [HL.out.taken]; omega
          have hvals : dk.vals = (doD (newD n) (acts.take N)).vals := by
            rw [HL.out.vals, List.take_take]
            congr 3
            omega
          have hlen := HL.out.len
          have hl2 : (acts.take N).length = N := by rw [List.length_take]; have := HM.out; omega
          have hKc := kd_take HA.out N (by have := HM.out; omega)
          rw [hl2] at hKc
          have g1 : (0 : Int) ≤ ((N : Nat) : Int) := by omega
          have g2 : ((N : Nat) : Int) ≤ (c1 : Int) := by omega
          have gm : min (N : Int) (m : Int) = ((N : Nat) : Int) := by omega
          have hrd : dk.read (a : Int) = ([], 10) := by
            unfold Dsk.read
            rw [if_neg (by omega), hoff]
            rfl
          have hdo := do_calls (c := c1) (l := acts.take N) (St.swap HK.out) (by rw [hl2]; exact hKc) (fun x hx => HF.out x (List.mem_of_mem_take hx)) (by show 0 + 200 ≤ maxTaken; unfold maxTaken; omega)
          rw [hl2, List.take_take, show min 200 N = N by omega] at hdo
          have HDO := Aside0.mk hdo
          have HKC := Aside0.mk hKc
          have HRD := Aside0.mk hrd
          have HVA := Aside0.mk hvals
          have HOF := Aside0.mk hoff
          have HTK := Aside0.mk htk
          have HLE := Aside0.mk hlen
          clear hdo hKc hrd hvals hoff htk hlen hl2 hkM
          go_wp2_with fail
          refine HDO.out.mono ?_
          rintro e V1 ⟨rfl, G1⟩
          have hdl : (doD (newD n) (acts.take N)).vals.length = n := by rw [doD_len]; simp [newD]
          have hdt : (doD (newD n) (acts.take N)).taken ≤ maxTaken := by
            have h1 := doD_taken (acts.take N) (newD n)
            have h2 : (newD n).taken = 0 := rfl
            rw [List.length_take] at h1
            unfold maxTaken
            omega
          obtain ⟨dc, hdc⟩ : ∃ dc, dc = doD (newD n) (acts.take N) := ⟨_, rfl⟩
          have hva := HVA.out
          rw [← hdc] at G1 hdl hdt hva
          have hil : dc.image.length = n * 256 := by rw [G1.diskOk.image_len, hdl]
          have hsl : dc.sure.length = n * 256 := by rw [G1.diskOk.sure_len, hdl]
          have eim : dk.image = dc.image := by simp only [Dsk.image, hva]
          have esu : dk.sure = dc.sure := by simp only [Dsk.sure, hva]
          have hsc := (St.swap G1).sectors
          rw [HLE.out] at hsc
          have hre := (St.swap G1).readAt (a : Int) HRD.out
          have HRE := Aside0.mk hre
          have EIM := Aside0.mk eim
          have ESU := Aside0.mk esu
          have HIL := Aside0.mk hil
          have HSL := Aside0.mk hsl
          have HDT := Aside0.mk hdt
          clear hdc hva hre eim esu hil hsl hdl hdt G1 HDO HK
          go_wp2_with fail
          refine hsc.mono ?_
          rintro e V2 ⟨rfl, rfl⟩
          go_wp2_with fail
          refine (hama _).mono ?_
          rintro e V3 ⟨rfl, rfl⟩
          go_wp2_with fail
          refine HRE.out.mono ?_
          rintro e V4 ⟨B1, k1, rfl, G2⟩
          have him := Aside0.mk ((St.rot3 G2).imageAt HDT.out HIL.out)
          clear G2 HRE hsc
          obtain ⟨NN, hNN⟩ : ∃ NN, NN = n * 256 := ⟨_, rfl⟩
          rw [← hNN] at him HIL HSL
          clear hNN
          have EDI : Aside0 (dk.image.length = NN) := ⟨EIM.out ▸ HIL.out⟩
          have EDS : Aside0 (dk.sure.length = NN) := ⟨ESU.out ▸ HSL.out⟩
          go_wp2_with fail
          refine him.out.mono ?_
          rintro e V5 ⟨B2, k2, rfl, G3⟩
          have him2 := Aside0.mk ((St.rot4 G3).imageAt (by have := HTK.out; unfold maxTaken; omega) EDI.out)
          clear G3 him
          go_wp2_with fail
          refine him2.out.mono ?_
          rintro e V6 ⟨B3, k3, rfl, G4⟩
          have hsa := Aside0.mk (same_eq (c1 := k2) (c2 := k3) ((St.rot3 G4).rdRow HIL.out) (G4.rdRow EDI.out) HIL.out EDI.out EIM.out.symm)
          replace G4 := Aside0.mk G4
          clear him2
          go_wp2_with fail
          refine hsa.out.mono ?_
          rintro e V7 ⟨rfl, hb7⟩
          have G5 := G4.out.go hb7
          have hsu := Aside0.mk ((St.rot4 G5).sureAt HSL.out)
          clear G4 hsa hb7 G5
          go_wp2_with fail
          refine hsu.out.mono ?_
          rintro e V8 ⟨B4, k4, rfl, G6⟩
          have hsu2 := Aside0.mk ((St.rot4 G6).sureAt EDS.out)
          clear G6 hsu
          go_wp2_with fail
          refine hsu2.out.mono ?_
          rintro e V9 ⟨B5, k5, rfl, G7⟩
          have hsa := Aside0.mk (same_eq (c1 := k4) (c2 := k5) ((St.rot3 G7).rdRow HSL.out) (G7.rdRow EDS.out) HSL.out EDS.out ESU.out.symm)
          replace G7 := Aside0.mk G7
          clear hsu2
          go_wp2_with fail
          refine hsa.out.mono ?_
          rintro e V10 ⟨rfl, hb10⟩
          have G8 := St.swap (G7.out.go hb10)
          have hop := G8.ops
          rw [HTK.out] at hop
          replace G8 := Aside0.mk G8
          clear hsa hb10 G7
          go_wp2_with fail
          refine hop.mono ?_
          rintro e V11 ⟨rfl, rfl⟩
          have hcr := Aside0.mk (St.crash (picks := []) (c := 0) (St.swap G8.out.emp) (fun {w T S} h => nil_rdI h) (by have := HTK.out; unfold maxTaken; omega))
          have hfr : Free (dk.crash []) := ⟨rfl, rfl⟩
          have hct := crash_taken dk []
          clear hop
          go_wp2_with fail
          refine hcr.out.mono ?_
          rintro e V12 ⟨rfl, G9⟩
          have hsy := G9.sync (by rw [hct]; have := HTK.out; unfold maxTaken; omega)
          rw [hfr.sync] at hsy
          have HSY := Aside0.mk hsy
          clear hsy G9 hcr hct
          go_wp2_with fail
          refine HSY.out.mono ?_
          rintro e V13 ⟨rfl, G10⟩
          have HB := Aside0.mk G10.below
          clear G10 HSY
          go_wp2
          go_ret
          exact ⟨rfl, HB.out⟩
        · have b9 : decide ((N : Int) < (m : Int)) = false := decide_eq_false (by omega)
          have hoff : dk.off = false := by rw [HL.out.off]; exact decide_eq_false (by omega)
          have htk : dk.taken = m := by rw [HL.out.taken]; omega
          have hvals : dk.vals = (doD (newD n) (acts.take m)).vals := by
            rw [HL.out.vals, List.take_take]
            congr 3
            omega
          have hlen := HL.out.len
          have hl2 : (acts.take m).length = m := by rw [List.length_take]; have := HM.out; omega
          have hKc := kd_take HA.out m (by have := HM.out; omega)
          rw [hl2] at hKc
          have g1 : (0 : Int) ≤ ((m : Nat) : Int) := by omega
          have g2 : ((m : Nat) : Int) ≤ (c1 : Int) := by omega
          have gm : min (N : Int) (m : Int) = ((m : Nat) : Int) := by omega
          have hrd : dk.read (a : Int) = (lastOf (dk.vals.getD a []), 0) := by
            unfold Dsk.read
            rw [if_neg (by omega), hoff]
            rfl
          have hdo := do_calls (c := c1) (l := acts.take m) (St.swap HK.out) (by rw [hl2]; exact hKc) (fun x hx => HF.out x (List.mem_of_mem_take hx)) (by show 0 + 200 ≤ maxTaken; unfold maxTaken; omega)
          rw [hl2, List.take_take, show min 200 m = m by omega] at hdo
          have HDO := Aside0.mk hdo
          have HKC := Aside0.mk hKc
          have HRD := Aside0.mk hrd
          have HVA := Aside0.mk hvals
          have HOF := Aside0.mk hoff
          have HTK := Aside0.mk htk
          have HLE := Aside0.mk hlen
          clear hdo hKc hrd hvals hoff htk hlen hl2 hkM
          go_wp2_with fail
          refine HDO.out.mono ?_
          rintro e V1 ⟨rfl, G1⟩
          have hdl : (doD (newD n) (acts.take m)).vals.length = n := by rw [doD_len]; simp [newD]
          have hdt : (doD (newD n) (acts.take m)).taken ≤ maxTaken := by
            have h1 := doD_taken (acts.take m) (newD n)
            have h2 : (newD n).taken = 0 := rfl
            rw [List.length_take] at h1
            unfold maxTaken
            omega
          obtain ⟨dc, hdc⟩ : ∃ dc, dc = doD (newD n) (acts.take m) := ⟨_, rfl⟩
          have hva := HVA.out
          rw [← hdc] at G1 hdl hdt hva
          have hil : dc.image.length = n * 256 := by rw [G1.diskOk.image_len, hdl]
          have hsl : dc.sure.length = n * 256 := by rw [G1.diskOk.sure_len, hdl]
          have eim : dk.image = dc.image := by simp only [Dsk.image, hva]
          have esu : dk.sure = dc.sure := by simp only [Dsk.sure, hva]
          have hsc := (St.swap G1).sectors
          rw [HLE.out] at hsc
          have hre := (St.swap G1).readAt (a : Int) HRD.out
          have HRE := Aside0.mk hre
          have EIM := Aside0.mk eim
          have ESU := Aside0.mk esu
          have HIL := Aside0.mk hil
          have HSL := Aside0.mk hsl
          have HDT := Aside0.mk hdt
          clear hdc hva hre eim esu hil hsl hdl hdt G1 HDO HK
          go_wp2_with fail
          refine hsc.mono ?_
          rintro e V2 ⟨rfl, rfl⟩
          go_wp2_with fail
          refine (hama _).mono ?_
          rintro e V3 ⟨rfl, rfl⟩
          go_wp2_with fail
          refine HRE.out.mono ?_
          rintro e V4 ⟨B1, k1, rfl, G2⟩
          have him := Aside0.mk ((St.rot3 G2).imageAt HDT.out HIL.out)
          clear G2 HRE hsc
          obtain ⟨NN, hNN⟩ : ∃ NN, NN = n * 256 := ⟨_, rfl⟩
          rw [← hNN] at him HIL HSL
          clear hNN
          have EDI : Aside0 (dk.image.length = NN) := ⟨EIM.out ▸ HIL.out⟩
          have EDS : Aside0 (dk.sure.length = NN) := ⟨ESU.out ▸ HSL.out⟩
          go_wp2_with fail
          refine him.out.mono ?_
          rintro e V5 ⟨B2, k2, rfl, G3⟩
          have him2 := Aside0.mk ((St.rot4 G3).imageAt (by have := HTK.out; unfold maxTaken; omega) EDI.out)
          clear G3 him
          go_wp2_with fail
          refine him2.out.mono ?_
          rintro e V6 ⟨B3, k3, rfl, G4⟩
          have hsa := Aside0.mk (same_eq (c1 := k2) (c2 := k3) ((St.rot3 G4).rdRow HIL.out) (G4.rdRow EDI.out) HIL.out EDI.out EIM.out.symm)
          replace G4 := Aside0.mk G4
          clear him2
          go_wp2_with fail
          refine hsa.out.mono ?_
          rintro e V7 ⟨rfl, hb7⟩
          have G5 := G4.out.go hb7
          have hsu := Aside0.mk ((St.rot4 G5).sureAt HSL.out)
          clear G4 hsa hb7 G5
          go_wp2_with fail
          refine hsu.out.mono ?_
          rintro e V8 ⟨B4, k4, rfl, G6⟩
          have hsu2 := Aside0.mk ((St.rot4 G6).sureAt EDS.out)
          clear G6 hsu
          go_wp2_with fail
          refine hsu2.out.mono ?_
          rintro e V9 ⟨B5, k5, rfl, G7⟩
          have hsa := Aside0.mk (same_eq (c1 := k4) (c2 := k5) ((St.rot3 G7).rdRow HSL.out) (G7.rdRow EDS.out) HSL.out EDS.out ESU.out.symm)
          replace G7 := Aside0.mk G7
          clear hsu2
          go_wp2_with fail
          refine hsa.out.mono ?_
          rintro e V10 ⟨rfl, hb10⟩
          have G8 := St.swap (G7.out.go hb10)
          have hop := G8.ops
          rw [HTK.out] at hop
          replace G8 := Aside0.mk G8
          clear hsa hb10 G7
          go_wp2_with fail
          refine hop.mono ?_
          rintro e V11 ⟨rfl, rfl⟩
          have hcr := Aside0.mk (St.crash (picks := []) (c := 0) (St.swap G8.out.emp) (fun {w T S} h => nil_rdI h) (by have := HTK.out; unfold maxTaken; omega))
          have hfr : Free (dk.crash []) := ⟨rfl, rfl⟩
          have hct := crash_taken dk []
          clear hop
          go_wp2_with fail
          refine hcr.out.mono ?_
          rintro e V12 ⟨rfl, G9⟩
          have hsy := G9.sync (by rw [hct]; have := HTK.out; unfold maxTaken; omega)
          rw [hfr.sync] at hsy
          have HSY := Aside0.mk hsy
          clear hsy G9 hcr hct
          go_wp2_with fail
          refine HSY.out.mono ?_
          rintro e V13 ⟨rfl, G10⟩
          have HB := Aside0.mk G10.below
          clear G10 HSY
          go_wp2
          go_ret
          exact ⟨rfl, HB.out⟩

end Go.Proofs.Ytoojcgmdcbcenaa
