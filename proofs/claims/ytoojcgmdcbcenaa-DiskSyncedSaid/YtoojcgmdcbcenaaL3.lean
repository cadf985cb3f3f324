/- DiskSynced: what was synced is there behind any crash. -/
import Derived.Test.YtoojcgmdcbcenaaLw
namespace Go.Proofs.Ytoojcgmdcbcenaa
open Go.RowKit Go.Maps Go.Proofs.YtoojcgmdcbcenaaW.PrintWords
set_option linter.unusedVariables false
set_option linter.unusedSimpArgs false
set_option maxRecDepth 100000

set_option maxHeartbeats 400000 in
theorem synced_calls (w : World) (sectors : Int) (A1 : Option Addr) (c1 : Nat) (acts : List S42) (A2 : Option Addr) (c2 : Nat) (picks : List Int) (hA : Kd.C k42 w A1 acts.length acts) (hf : ∀ x ∈ acts, 0 ≤ x.f3 ∧ x.f3 ≤ 255) (hP : RdI w A2 picks) :
    Calls Try.prog 3 #[.int .i64 sectors, .slice A1 acts.length c1, .slice A2 picks.length c2] w fun e w' => e = .returned (.bool true) ∧ Below w.heap.size w w' := by
  have hwk := works_calls w
  have ham := fun W => among_calls W sectors (m := 20) (by omega) (by omega)
  have hlt := among_lt sectors (m := 20) (by omega)
  obtain ⟨s, hs⟩ : ∃ s, s = among sectors 20 := ⟨_, rfl⟩
  rw [← hs] at ham hlt
  obtain ⟨n, hn⟩ : ∃ n, n = s + 1 := ⟨_, rfl⟩
  have wn : (1 : Int) + (s : Int) = (n : Int) := by omega
  have ww : wrap64 (1 + (s : Int)) = (n : Int) := by unfold wrap64; omega
  obtain ⟨d1, hd1⟩ : ∃ d1, d1 = doD (newD n) (acts.take 200) := ⟨_, rfl⟩
  have hfree : Free d1 := by rw [hd1]; exact Free.doD _ (newD_free n)
  have htk : d1.taken ≤ 200 := by
    rw [hd1]
    have h1 := doD_taken (acts.take 200) (newD n)
    have h2 : (newD n).taken = 0 := rfl
    rw [List.length_take] at h1
    omega
  have hlen : d1.vals.length = n := by rw [hd1, doD_len]; simp [newD]
  obtain ⟨hs1, hs2, hs3, hs4⟩ := sync_facts hfree
  obtain ⟨hc1, hc2⟩ := hs4 picks
  have hst := sync_taken d1
  have hsl := sync_len d1
  have HA := Aside0.mk hA
  have HF := Aside0.mk hf
  have HP := Aside0.mk hP
  have HW := Aside0.mk hwk
  have HD := Aside0.mk hd1
  have h1n : 1 ≤ n := by omega
  have h2n : n ≤ 4096 := by omega
  have H0 := Aside0.mk (St.start w)
  clear hA hf hP hwk hd1 hs hn
  go_enter Try.func3, Try.ntmps3
  go_wp2_with fail
  refine HW.out.mono ?_
  rintro e W1 ⟨rfl, hb1⟩
  replace H0 := Aside0.mk (H0.out.go hb1)
  clear hb1
  go_wp2_with fail
  refine (ham _).mono ?_
  rintro e W2 ⟨rfl, rfl⟩
  have hnew := H0.out.new h1n h2n
  go_wp2_with fail
  refine hnew.mono ?_
  rintro e W3 ⟨p, rfl, H1⟩
  have hdo := do_calls (c := c1) H1 HA.out HF.out (by show 0 + 200 ≤ maxTaken; unfold maxTaken; omega)
  rw [← HD.out] at hdo
  replace H1 := Aside0.mk H1
  clear hnew
  go_wp2_with fail
  refine hdo.mono ?_
  rintro e W4 ⟨rfl, H2⟩
  have hil : d1.image.length = n * 256 := by rw [H2.diskOk.image_len, hlen]
  have him := H2.imageAt (by unfold maxTaken; omega) hil
  clear H2 hdo
  obtain ⟨N, hN⟩ : ∃ N, N = n * 256 := ⟨_, rfl⟩
  rw [← hN] at him hil
  clear hN
  go_wp2_with fail
  refine him.mono ?_
  rintro e W5 ⟨B1, k1, rfl, H3⟩
  have hsy := (St.swap H3).sync (by unfold maxTaken; omega)
  rw [hs1] at hsy
  clear H3 him
  go_wp2_with fail
  refine hsy.mono ?_
  rintro e W6 ⟨rfl, H4⟩
  generalize d1.sync.2 = d2 at *
  have e2 : d2.sure.length = N := by rw [hs2]; exact hil
  have hsu := H4.sureAt e2
  clear H4 hsy
  go_wp2_with fail
  refine hsu.mono ?_
  rintro e W7 ⟨B2, k2, rfl, H5⟩
  have hsa := same_eq (c1 := k2) (c2 := k1) (H5.rdRow e2) ((St.rot3 H5).rdRow hil) e2 hil hs2
  replace H5 := Aside0.mk H5
  clear hsu
  go_wp2_with fail
  refine hsa.mono ?_
  rintro e W8 ⟨rfl, hb8⟩
  have H6 := H5.out.go hb8
  have H7 := St.swap ((St.swap H6).oldK (k := .i64) HP.out)
  -- picks? 
  have hcr := St.crash (picks := picks) (c := c2) H7 (fun {w T S} h => h.1.1) (by unfold maxTaken; omega)
  clear H6 H7 hb8 hsa
  go_wp2_with fail
  refine hcr.mono ?_
  rintro e W9 ⟨rfl, H8⟩
  have hto := crash_taken d2 picks
  generalize d2.crash picks = d3 at *
  have e3 : d3.image.length = N := by rw [hc1]; exact hil
  have him2 := H8.imageAt (by unfold maxTaken; omega) e3
  clear H8 hcr
  go_wp2_with fail
  refine him2.mono ?_
  rintro e W10 ⟨B3, k3, rfl, H9⟩
  have hsa2 := same_eq (c1 := k3) (c2 := k1) (H9.rdRow e3) ((St.rot5 H9).rdRow hil) e3 hil hc1
  replace H9 := Aside0.mk H9
  clear him2
  go_wp2_with fail
  refine hsa2.mono ?_
  rintro e W11 ⟨rfl, hb11⟩
  have H10 := St.swap (H9.out.go hb11)
  have hpe := H10.pending
  rw [hc2] at hpe
  have HB := Aside0.mk H10.below
  clear hsa2 hb11 H10
  go_wp2_with fail
  refine hpe.mono ?_
  rintro e W12 ⟨rfl, rfl⟩
  go_wp2
  go_ret
  exact ⟨rfl, HB.out⟩
end Go.Proofs.Ytoojcgmdcbcenaa
