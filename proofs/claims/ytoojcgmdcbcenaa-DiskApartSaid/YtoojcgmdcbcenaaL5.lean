/- DiskApart: what happens to one sector changes nothing of another one. -/
import Derived.Test.YtoojcgmdcbcenaaLw
namespace Go.Proofs.Ytoojcgmdcbcenaa
open Go.RowKit Go.Maps Go.Proofs.YtoojcgmdcbcenaaW.PrintWords
attribute [local go_sem ↓] Go.wp_at_zero Go.wp_at_succ
set_option linter.unusedVariables false
set_option linter.unusedSimpArgs false
set_option maxRecDepth 100000

/-- One call of the law's loop. -/
def ap1 (a : Nat) (d : Dsk) (x : S42) : Dsk :=
  let d1 := if among x.f1 d.vals.length ≠ a then (d.write (among x.f1 d.vals.length : Nat) (fullS x.f3)).2 else d
  if among x.f0 4 = 3 then d1.sync.2 else d1
def apD (a : Nat) (d : Dsk) (l : List S42) : Dsk := l.foldl (ap1 a) d
theorem apD_snoc (a : Nat) (d : Dsk) (l : List S42) (x : S42) : apD a d (l ++ [x]) = ap1 a (apD a d l) x := by simp [apD, List.foldl_append]
/-- Sector a has one value since the last sync. -/
structure Still (a n t : Nat) (d : Dsk) : Prop where
  free : Free d
  len : d.vals.length = n
  at_ : d.vals.getD a [] = [fullS 7]
  taken : d.taken ≤ t
theorem getD_map_one (l : List (List Sec)) {a : Nat} (ha : a < l.length) : (l.map fun x => [lastOf x]).getD a [] = [lastOf (l.getD a [])] := by
  rw [List.getD_eq_getElem?_getD, List.getElem?_map, List.getD_eq_getElem?_getD, List.getElem?_eq_getElem ha]; rfl
theorem Still.sync {a n t : Nat} {d : Dsk} (h : Still a n t d) (ha : a < n) : Still a n (t + 1) d.sync.2 := by
  refine ⟨h.free.syncF, by rw [sync_len, h.len], ?_, by have := sync_taken d; have := h.taken; omega⟩
  rw [h.free.sync]
  show (d.vals.map fun l => [lastOf l]).getD a [] = _
  rw [getD_map_one _ (by rw [h.len]; exact ha), h.at_]
  rfl
theorem Still.write {a n t : Nat} {d : Dsk} (h : Still a n t d) {i : Nat} (hi : i < n) (hne : i ≠ a) (c : Int) : Still a n (t + 1) (d.write (i : Int) (fullS c)).2 := by
  refine ⟨h.free.writeF _ _, by rw [write_len, h.len], ?_, by have := write_taken d i (fullS c); have := h.taken; omega⟩
  rw [h.free.write (by rw [h.len]; exact hi) (fullS_len c)]
  show (d.vals.modify i (· ++ [fullS c])).getD a [] = _
  rw [getD_modify, if_neg (fun e => hne e.1), h.at_]
theorem crashed_get (picks : List Int) : ∀ (l : List (List Sec)) (j a : Nat), (l.getD a []).length < 2 → (Dsk.crashed picks j l).getD a [] = l.getD a []
  | [], _, _, _ => rfl
  | x :: r, j, 0, h => by
    unfold Dsk.crashed
    rw [if_pos (by simpa using h)]; rfl
  | x :: r, j, a + 1, h => by
    unfold Dsk.crashed
    split
    · rw [List.getD_cons_succ, List.getD_cons_succ]; exact crashed_get picks r j a (by simpa using h)
    · rw [List.getD_cons_succ, List.getD_cons_succ]; exact crashed_get picks r (j + 1) a (by simpa using h)
theorem Still.read {a n t : Nat} {d : Dsk} (h : Still a n t d) (ha : a < n) (picks : List Int) : d.read (a : Int) = (fullS 7, 0) ∧ (d.crash picks).read (a : Int) = (fullS 7, 0) := by
  have hl := h.len
  constructor
  · unfold Dsk.read
    rw [if_neg (by omega), h.free.1, if_neg (by decide), Int.toNat_natCast, h.at_]
    rfl
  · unfold Dsk.read
    have hl2 := crash_len d picks
    rw [if_neg (by omega)]
    have e : (d.crash picks).vals.getD a [] = [fullS 7] := by
      show (Dsk.crashed picks 0 d.vals).getD a [] = _
      rw [crashed_get picks d.vals 0 a (by rw [h.at_]; exact Nat.lt_succ_self 1), h.at_]
    rw [Int.toNat_natCast, e]
    rfl
theorem still_start {n a : Nat} (ha : a < n) : Still a n 2 ((newD n).write (a : Int) (fullS 7)).2.sync.2 := by
  have hf := (newD_free n).writeF (a : Int) (fullS 7)
  have hn : (newD n).vals.length = n := by simp [newD]
  refine ⟨hf.syncF, by rw [sync_len, write_len, hn], ?_, ?_⟩
  · rw [hf.sync]
    show (((newD n).write (a : Int) (fullS 7)).2.vals.map fun l => [lastOf l]).getD a [] = _
    rw [getD_map_one _ (by rw [write_len, hn]; exact ha), (newD_free n).write (by rw [hn]; exact ha) (fullS_len 7)]
    show [lastOf (((newD n).vals.modify a (· ++ [fullS 7])).getD a [])] = _
    rw [getD_modify, if_pos ⟨rfl, by rw [hn]; exact ha⟩]
    simp [lastOf]
  · have h1 := sync_taken ((newD n).write (a : Int) (fullS 7)).2
    have h2 := write_taken (newD n) (a : Int) (fullS 7)
    have h3 : (newD n).taken = 0 := rfl
    omega
set_option maxHeartbeats 1000000 in
theorem apart_calls (w : World) (sectors : Int) (A1 : Option Addr) (c1 : Nat) (acts : List S42) (at_ : Int) (A2 : Option Addr) (c2 : Nat) (picks : List Int) (hA : Kd.C k42 w A1 acts.length acts) (hf : ∀ x ∈ acts, 0 ≤ x.f3 ∧ x.f3 ≤ 255) (hP : RdI w A2 picks) :
    Calls Try.prog 5 #[.int .i64 sectors, .slice A1 acts.length c1, .int .i64 at_, .slice A2 picks.length c2] w fun e w' => e = .returned (.bool true) ∧ Below w.heap.size w w' := by
  have hwk := works_calls w
  have ham := fun W => among_calls W sectors (m := 20) (by omega) (by omega)
  have hlt := among_lt sectors (m := 20) (by omega)
  obtain ⟨s, hs⟩ : ∃ s, s = among sectors 20 := ⟨_, rfl⟩
  rw [← hs] at ham hlt
  obtain ⟨n, hn⟩ : ∃ n, n = s + 2 := ⟨_, rfl⟩
  have wn : (2 : Int) + (s : Int) = (n : Int) := by omega
  have ww : wrap64 (2 + (s : Int)) = (n : Int) := by unfold wrap64; omega
  have hposn : 0 < n := by omega
  have hama := fun W => among_calls W at_ (m := n) hposn (by omega)
  have hlta := among_lt at_ (m := n) hposn
  obtain ⟨a, ha⟩ : ∃ a, a = among at_ n := ⟨_, rfl⟩
  rw [← ha] at hama hlta
  have hnl : (newD n).vals.length = n := by simp [newD]
  obtain ⟨d1, hd1⟩ : ∃ d1, d1 = ((newD n).write (a : Int) (fullS 7)).2 := ⟨_, rfl⟩
  obtain ⟨d2, hd2⟩ : ∃ d2, d2 = d1.sync.2 := ⟨_, rfl⟩
  have hst : Still a n 2 d2 := by rw [hd2, hd1]; exact still_start hlta
  have ht1 : d1.taken ≤ 1 := by rw [hd1]; exact write_taken (newD n) a (fullS 7)
  obtain ⟨m, hm⟩ : ∃ m, m = acts.length := ⟨_, rfl⟩
  have hmax : acts.length ≤ 9223372036854775807 := hA.2.1
  rw [← hm] at hmax ⊢
  have HA := Aside0.mk hA
  have HF := Aside0.mk hf
  have HP := Aside0.mk hP
  have HW := Aside0.mk hwk
  have HM := Aside0.mk hm
  have HS := Aside0.mk hst
  have HD1 := Aside0.mk hd1
  have HD2 := Aside0.mk hd2
  have HNL := Aside0.mk hnl
  have h1n : 1 ≤ n := by omega
  have h2n : n ≤ 4096 := by omega
  have H0 := Aside0.mk (St.start w)
  clear hA hf hP hwk hd1 hd2 hs hn hm hst ha hnl
  go_enter Try.func5, Try.ntmps5
  go_wp2_with fail
  refine HW.out.mono ?_
  rintro e W1 ⟨rfl, hb1⟩
  replace H0 := Aside0.mk (H0.out.go hb1)
  clear hb1
  go_wp2_with fail
  refine (ham _).mono ?_
  rintro e W2 ⟨rfl, rfl⟩
  have hnew := H0.out.new h1n h2n
  go_wp2_with fail
  refine hnew.mono ?_
  rintro e W3 ⟨p, rfl, H1⟩
  have hsec := H1.sectors
  rw [HNL.out] at hsec
  have hwc := write_chain H1 (c := 7) (by show 0 < maxTaken; unfold maxTaken; omega) (by omega) (a : Int)
  rw [← HD1.out] at hwc
  have HWC := Aside0.mk hwc
  clear hnew H1 hwc
  go_wp2_with fail
  refine hsec.mono ?_
  rintro e W4 ⟨rfl, rfl⟩
  go_wp2_with fail
  refine (hama _).mono ?_
  rintro e W5 ⟨rfl, rfl⟩
  go_wp2_with fail
  refine HWC.out.mono ?_
  rintro e W6 ⟨g, cc, rfl, _, h21⟩
  go_wp2_with fail
  refine h21.mono ?_
  rintro e W7 ⟨r, rfl, _, H2⟩
  clear h21 HWC
  have hsy := H2.out.sync (by unfold maxTaken; omega)
  rw [← HD2.out] at hsy
  have HSY := Aside0.mk hsy
  clear hsy hsec
  go_wp2_with fail
  refine HSY.out.mono ?_
  rintro e W8 ⟨rfl, H3⟩
  replace H3 := Aside0.mk H3
  clear HSY H2
  go_wp2_with fail
  go_loopw [11] (fun i W => ∃ (k : Nat) (dk : Dsk), i = .int .i64 (k : Int) ∧ k ≤ m ∧ k ≤ 100 ∧ Aside0 (Still a n (2 + 2 * k) dk) ∧ Aside0 (St w W (rDisk p dk :: []))) (fun i _ => m - (RowKit.intOf i).toNat)
  case atStart => exact ⟨0, d2, rfl, Nat.zero_le _, Nat.zero_le _, HS, H3⟩
  case round =>
    clear H3 HS
    obtain ⟨k, dk, rfl, hk1, hk2, HS, HK⟩ := hrel
    by_cases hlt : k < m ∧ k < 100
    · obtain ⟨h1, h2⟩ := hlt
      have t1 : decide ((k : Int) < (m : Int)) = true := decide_eq_true (by omega)
      have t2 : decide ((k : Int) < 100) = true := decide_eq_true (by omega)
      have t3 : (0 : Int) ≤ (k : Int) := by omega
      have t4 : (k : Int) < (m : Int) := by omega
      have hkl : k < acts.length := by rw [← HM.out]; exact h1
      have hx := HF.out acts[k] (List.getElem_mem hkl)
      obtain ⟨ad, A4, c4, rfl, _⟩ := act_at HA.out hkl
      have hS : ∀ W, Below w.heap.size w W → W.cell? (ad.add (k * 5)) = some (.int .i64 acts[k].f0) ∧ W.cell? ⟨(ad.add (k * 5)).block, (ad.add (k * 5)).off + 1, none⟩ = some (.int .i64 acts[k].f1) ∧ W.cell? ⟨(ad.add (k * 5)).block, (ad.add (k * 5)).off + 3, none⟩ = some (.int .u8 acts[k].f3) := fun W hW => by
        obtain ⟨ad', _, _, e, b0, b1, _, b3, _⟩ := act_at HA.out hkl
        cases e
        exact ⟨pw_cell_below hW b0, pw_cell_below hW b1, pw_cell_below hW b3⟩
      generalize acts[k] = x at *
      have hds := HK.out.drew.sectors
      rw [HS.out.len] at hds
      have ham1 := fun W => among_calls W x.f1 hposn (by omega)
      have hltj := among_lt x.f1 (m := n) hposn
      obtain ⟨j, hj⟩ : ∃ j, j = among x.f1 n := ⟨_, rfl⟩
      rw [← hj] at ham1 hltj
      have ham0 := fun W => among_calls W x.f0 (m := 4) (by omega) (by omega)
      obtain ⟨q, hq⟩ : ∃ q, q = among x.f0 4 := ⟨_, rfl⟩
      rw [← hq] at ham0
      have htk := HS.out.taken
      obtain ⟨a0, a1, a3⟩ := hS _ HK.out.below
      have hS1 := hS _ HK.out.drew.below
      have HSA := Aside0.mk hS
      have HS1 := Aside0.mk hS1
      have HKD := Aside0.mk HK.out.drew
      clear hkl hS hS1 hj hq
      by_cases hja : j = a
      · have bj : ((j : Int) != (a : Int)) = false := by rw [hja]; simp
        have hStill : Still a n (2 + 2 * k + 1) dk := ⟨HS.out.free, HS.out.len, HS.out.at_, by omega⟩
        have HST := Aside0.mk hStill
        clear hStill
        obtain ⟨a0, a1, a3⟩ := HS1.out
        go_wp2_with fail
        go_region_held3 (fun W => W.cell? (ad.add (k * 5)) = some (.int .i64 x.f0) ∧ W.cell? ⟨(ad.add (k * 5)).block, (ad.add (k * 5)).off + 1, none⟩ = some (.int .i64 x.f1) ∧ W.cell? ⟨(ad.add (k * 5)).block, (ad.add (k * 5)).off + 3, none⟩ = some (.int .u8 x.f3))
          ((exact HS1.out))
          ((first
            | (go_at_call 19; refine hds.mono ?_; rintro e w2 ⟨rfl, rfl⟩)
            | (go_at_call 11; refine (ham1 _).mono ?_; rintro e w2 ⟨rfl, rfl⟩)))
        have HST2 := HST
        by_cases hq3 : q = 3
        · subst hq3
          have hsy := HKD.out.sync (by have := HST.out.taken; unfold maxTaken; omega)
          have hst3 := HST.out.sync hlta
          have HSY := Aside0.mk hsy
          clear hsy
          go_wp2_with fail
          refine (ham0 _).mono ?_
          rintro e w4 ⟨rfl, rfl⟩
          go_wp2_with fail
          refine HSY.out.mono ?_
          rintro e w5 ⟨rfl, H5⟩
          replace H5 := Aside0.mk H5
          replace hst3 := Aside0.mk hst3
          clear HSY
          go_wp2
          go_roundw
          case rel => exact ⟨k + 1, _, by go_num, h1, h2, ⟨by have := hst3.out; rwa [show 2 + 2 * (k + 1) = 2 + 2 * k + 1 + 1 by omega]⟩, H5⟩
          case measure => simp only [RowKit.intOf]; omega
        · have b3 : ((q : Int) == 3) = false := by simpa using (by omega : (q : Int) ≠ 3)
          have hst3 : Still a n (2 + 2 * (k + 1)) dk := ⟨HST.out.free, HST.out.len, HST.out.at_, by have := HST.out.taken; omega⟩
          replace hst3 := Aside0.mk hst3
          go_wp2_with fail
          refine (ham0 _).mono ?_
          rintro e w4 ⟨rfl, rfl⟩
          go_wp2
          go_roundw
          case rel => exact ⟨k + 1, _, by go_num, h1, h2, hst3, HKD⟩
          case measure => simp only [RowKit.intOf]; omega

      · have bj : ((j : Int) != (a : Int)) = true := by simp only [bne_iff_ne, ne_eq]; omega
        have hStill := HS.out.write hltj hja x.f3
        have hwc := write_chain HK.out.drew (by unfold maxTaken; omega) hx (j : Int)
        have HWC := Aside0.mk hwc
        have HST := Aside0.mk hStill
        clear hwc hStill
        obtain ⟨a0, a1, a3⟩ := HS1.out
        go_wp2_with fail
        go_region_held3 (fun W => W.cell? (ad.add (k * 5)) = some (.int .i64 x.f0) ∧ W.cell? ⟨(ad.add (k * 5)).block, (ad.add (k * 5)).off + 1, none⟩ = some (.int .i64 x.f1) ∧ W.cell? ⟨(ad.add (k * 5)).block, (ad.add (k * 5)).off + 3, none⟩ = some (.int .u8 x.f3))
          ((exact HS1.out))
          ((first
            | (go_at_call 19; refine hds.mono ?_; rintro e w2 ⟨rfl, rfl⟩)
            | (go_at_call 11; refine (ham1 _).mono ?_; rintro e w2 ⟨rfl, rfl⟩)))
        go_wp2_with fail
        refine HWC.out.mono ?_
        rintro e w2 ⟨g, cc, rfl, _, h21⟩
        replace h21 := Aside0.mk h21
        go_wp2_with fail
        refine h21.out.mono ?_
        rintro e w3 ⟨r, rfl, _, H4⟩
        obtain ⟨a0, a1, a3⟩ := HSA.out _ H4.out.below
        clear h21 HWC
        generalize (dk.write (j : Int) (fullS x.f3)).2 = d3 at *
        by_cases hq3 : q = 3
        · subst hq3
          have hsy := H4.out.sync (by have := HST.out.taken; unfold maxTaken; omega)
          have hst3 := HST.out.sync hlta
          have HSY := Aside0.mk hsy
          clear hsy
          go_wp2_with fail
          refine (ham0 _).mono ?_
          rintro e w4 ⟨rfl, rfl⟩
          go_wp2_with fail
          refine HSY.out.mono ?_
          rintro e w5 ⟨rfl, H5⟩
          replace H5 := Aside0.mk H5
          replace hst3 := Aside0.mk hst3
          clear HSY
          go_wp2
          go_roundw
          case rel => exact ⟨k + 1, _, by go_num, h1, h2, ⟨by have := hst3.out; rwa [show 2 + 2 * (k + 1) = 2 + 2 * k + 1 + 1 by omega]⟩, H5⟩
          case measure => simp only [RowKit.intOf]; omega
        · have b3 : ((q : Int) == 3) = false := by simpa using (by omega : (q : Int) ≠ 3)
          have hst3 : Still a n (2 + 2 * (k + 1)) d3 := ⟨HST.out.free, HST.out.len, HST.out.at_, by have := HST.out.taken; omega⟩
          replace hst3 := Aside0.mk hst3
          go_wp2_with fail
          refine (ham0 _).mono ?_
          rintro e w4 ⟨rfl, rfl⟩
          go_wp2
          go_roundw
          case rel => exact ⟨k + 1, _, by go_num, h1, h2, hst3, H4⟩
          case measure => simp only [RowKit.intOf]; omega

    · obtain ⟨hr1, hr2⟩ := HS.out.read hlta picks
      have htk := HS.out.taken
      have hrd := HK.out.readAt (a : Int) hr1
      have HRD := Aside0.mk hrd
      have HR2 := Aside0.mk hr2
      clear hrd hr1 hr2
      by_cases h1 : k < m
      · have t1 : decide ((k : Int) < (m : Int)) = true := decide_eq_true (by omega)
        have t2 : decide ((k : Int) < 100) = false := decide_eq_false (by omega)
        clear hlt
        go_wp2_with fail
        refine HRD.out.mono ?_
        rintro e V1 ⟨B1, k1, rfl, G1⟩
        have hcr := St.crash (picks := picks) (c := c2) (St.swap ((St.swap G1).oldK (k := .i64) HP.out)) (fun {w T S} h => h.1.1) (by unfold maxTaken; omega)
        have HCR := Aside0.mk hcr
        clear G1 hcr HRD
        go_wp2_with fail
        refine HCR.out.mono ?_
        rintro e V2 ⟨rfl, G2⟩
        have hrd2 := G2.readAt (a : Int) HR2.out
        have HRD2 := Aside0.mk hrd2
        clear G2 hrd2 HCR
        go_wp2_with fail
        refine HRD2.out.mono ?_
        rintro e V3 ⟨B2, k2, rfl, G3⟩
        have hfu := G3.full 7
        have HFU := Aside0.mk hfu
        clear G3 hfu HRD2
        go_wp2_with fail
        refine HFU.out.mono ?_
        rintro e V4 ⟨g3, cc3, rfl, G4⟩
        have hsa := same_eq (c1 := k1) (c2 := cc3) ((St.rot5 G4).rdRow rfl) (G4.rdRow (fullS_len _)) rfl (fullS_len _) rfl
        have HSA2 := Aside0.mk hsa
        replace G4 := Aside0.mk G4
        clear hsa HFU
        go_wp2_with fail
        refine HSA2.out.mono ?_
        rintro e V5 ⟨rfl, hb5⟩
        have G5 := G4.out.go hb5
        have hfu := G5.full 7
        have HFU := Aside0.mk hfu
        clear G5 hfu HSA2 hb5 G4
        go_wp2_with fail
        refine HFU.out.mono ?_
        rintro e V6 ⟨g4, cc4, rfl, G6⟩
        have hsa := same_eq (c1 := k2) (c2 := cc4) ((St.rot3 G6).rdRow rfl) (G6.rdRow (fullS_len _)) rfl (fullS_len _) rfl
        have HSA2 := Aside0.mk hsa
        replace G6 := Aside0.mk G6
        clear hsa HFU
        go_wp2_with fail
        refine HSA2.out.mono ?_
        rintro e V7 ⟨rfl, hb7⟩
        have HB := Aside0.mk (G6.out.go hb7).below
        clear hb7 HSA2 G6
        go_wp2
        go_ret
        exact ⟨rfl, HB.out⟩
      · have t1 : decide ((k : Int) < (m : Int)) = false := decide_eq_false (by omega)
        clear hlt
        go_wp2_with fail
        refine HRD.out.mono ?_
        rintro e V1 ⟨B1, k1, rfl, G1⟩
        have hcr := St.crash (picks := picks) (c := c2) (St.swap ((St.swap G1).oldK (k := .i64) HP.out)) (fun {w T S} h => h.1.1) (by unfold maxTaken; omega)
        have HCR := Aside0.mk hcr
        clear G1 hcr HRD
        go_wp2_with fail
        refine HCR.out.mono ?_
        rintro e V2 ⟨rfl, G2⟩
        have hrd2 := G2.readAt (a : Int) HR2.out
        have HRD2 := Aside0.mk hrd2
        clear G2 hrd2 HCR
        go_wp2_with fail
        refine HRD2.out.mono ?_
        rintro e V3 ⟨B2, k2, rfl, G3⟩
        have hfu := G3.full 7
        have HFU := Aside0.mk hfu
        clear G3 hfu HRD2
        go_wp2_with fail
        refine HFU.out.mono ?_
        rintro e V4 ⟨g3, cc3, rfl, G4⟩
        have hsa := same_eq (c1 := k1) (c2 := cc3) ((St.rot5 G4).rdRow rfl) (G4.rdRow (fullS_len _)) rfl (fullS_len _) rfl
        have HSA2 := Aside0.mk hsa
        replace G4 := Aside0.mk G4
        clear hsa HFU
        go_wp2_with fail
        refine HSA2.out.mono ?_
        rintro e V5 ⟨rfl, hb5⟩
        have G5 := G4.out.go hb5
        have hfu := G5.full 7
        have HFU := Aside0.mk hfu
        clear G5 hfu HSA2 hb5 G4
        go_wp2_with fail
        refine HFU.out.mono ?_
        rintro e V6 ⟨g4, cc4, rfl, G6⟩
        have hsa := same_eq (c1 := k2) (c2 := cc4) ((St.rot3 G6).rdRow rfl) (G6.rdRow (fullS_len _)) rfl (fullS_len _) rfl
        have HSA2 := Aside0.mk hsa
        replace G6 := Aside0.mk G6
        clear hsa HFU
        go_wp2_with fail
        refine HSA2.out.mono ?_
        rintro e V7 ⟨rfl, hb7⟩
        have HB := Aside0.mk (G6.out.go hb7).below
        clear hb7 HSA2 G6
        go_wp2
        go_ret
        exact ⟨rfl, HB.out⟩

end Go.Proofs.Ytoojcgmdcbcenaa
