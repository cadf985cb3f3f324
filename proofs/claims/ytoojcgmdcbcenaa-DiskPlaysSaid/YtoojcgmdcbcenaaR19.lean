/- DiskPlays, walked. -/
import Derived.Test.YtoojcgmdcbcenaaRC
import Derived.Deep.DeepCutAuto
import Derived.Deep.CutBlock
namespace Go.Proofs.Ytoojcgmdcbcenaa
open Go.RowKit Go.Maps Go.Proofs.YtoojcgmdcbcenaaW.PrintWords
attribute [local go_sem ↓] Go.wp_at_zero Go.wp_at_succ
set_option linter.unusedVariables false
set_option linter.unusedSimpArgs false
set_option maxRecDepth 100000

theorem newD_taken (n : Nat) : (newD n).taken = 0 := rfl
set_option maxHeartbeats 20000000 in
theorem plays_calls (w : World) (sectors : Int) (A1 : Option Addr) (c1 : Nat) (img : List Int) (A2 : Option Addr) (c2 : Nat) (acts : List S42) (hI : Rd w A1 img) (hIc : img.length ≤ c1) (hIb : ∀ x ∈ img, 0 ≤ x ∧ x ≤ 255) (hIl : img.length ≤ 140737488355328)
    (hA : Kd.C k42 w A2 acts.length acts) (hf : ∀ x ∈ acts, (0 ≤ x.f3 ∧ x.f3 ≤ 255) ∧ x.f2 ≤ 9223372036854775807 ∧ x.f4.length ≤ 17592186044416) :
    Calls Try.prog 8 #[.int .i64 sectors, .slice A1 img.length c1, .slice A2 acts.length c2] w fun e w' => e = .returned (.bool true) ∧ Below w.heap.size w w' := by
  have hwk := works_calls
  have hnew := (St.start w).newOr sectors
  obtain ⟨m, hm⟩ : ∃ m, m = acts.length := ⟨_, rfl⟩
  have hmax : acts.length ≤ 9223372036854775807 := hA.2.1
  rw [← hm] at hmax ⊢
  obtain ⟨n, hn⟩ : ∃ n, n = img.length := ⟨_, rfl⟩
  rw [← hn] at hIc hIl ⊢
  have HA := Aside0.mk hA
  have HF := Aside0.mk hf
  have HWK := Aside0.mk hwk
  have HM := Aside0.mk hm
  have HN := Aside0.mk hn
  have HI := Aside0.mk hI
  have HIB := Aside0.mk hIb
  have HNEW := Aside0.mk hnew
  clear hA hf hwk hm hn hI hIb hnew
  go_enter Try.func8, Try.ntmps8
  go_wp2_with fail
  refine HNEW.out.mono ?_
  rintro e W1 ⟨P1, e1, rfl, G1⟩
  have hrn : Calls Try.prog 26 #[.int .i64 sectors] W1 fun e w' => ∃ P er, e = .returned (.tuple #[.pointer P, .int .i64 er]) ∧ Aside0 (Pair w w' P1 e1 P er) := by
    rcases G1 with ⟨h1, rfl, rfl, H⟩ | ⟨h1, rfl, p, rfl, H⟩
    · refine (H.rNewOr sectors).mono ?_
      rintro e W2 ⟨P, er, rfl, G⟩
      exact ⟨P, er, rfl, ⟨Got.pair (newD_taken _) (.inl ⟨h1, rfl, rfl, _, G⟩)⟩⟩
    · refine (H.rNewOr sectors).mono ?_
      rintro e W2 ⟨P, er, rfl, G⟩
      exact ⟨P, er, rfl, ⟨Got.pair (newD_taken _) (.inr ⟨h1, rfl, p, rfl, _, G, id⟩)⟩⟩
  have HRN := Aside0.mk hrn
  clear hrn G1 HNEW
  go_wp2_with fail
  refine HRN.out.mono ?_
  rintro e W2 ⟨P2, e2, rfl, HP⟩
  clear HRN
  go_upto_if 34 with fail
  go_cut [7, 8, 9, 10] (fun v7 v8 v9 v10 W => ∃ P1 e1 P2 e2, v7 = .pointer P1 ∧ v8 = .int .i64 e1 ∧ v9 = .pointer P2 ∧ v10 = .int .i64 e2 ∧ Aside0 (Pair w W P1 e1 P2 e2))
  case first =>
    as_aux_lemma =>
      by_cases h0 : 0 < n
      · have b0 : decide ((0 : Int) < (n : Int)) = true := decide_eq_true (by omega)
        have b0n : decide (0 < n) = true := decide_eq_true h0
        have hB : Below w.heap.size w W2 := by
          rcases HP.out with ⟨_, _, _, _, h⟩ | ⟨_, _, p, q, d, _, _, _, h⟩
          · exact h
          · exact h.below
        have H0 : Aside0 (St w W2 []) := ⟨(St.start w).go hB⟩
        obtain ⟨ad, rfl, _⟩ : ∃ ad, A1 = some ad ∧ True := by
          obtain ⟨ad, e, _⟩ := HI.out.2.2 (by rw [← HN.out]; exact h0)
          exact ⟨ad, e, trivial⟩
        have hbc : Calls Try.prog 28 #[.slice (some ad) n c1] W2 fun e w' => ∃ A c, e = .returned (.slice A n c) ∧ Aside0 (St w w' (rRow 5 1 (.slice A n c) n (bytes img) :: [])) := by
          refine (bytes_calls (c := c1) (Rd.below HI.out hB) HN.out.symm (by rw [← HN.out]; exact hIl)).mono ?_
          rintro e w' ⟨v, rfl, ho, hb⟩
          obtain ⟨A, c, rfl⟩ := own_slice ho
          exact ⟨A, c, rfl, ⟨H0.out.gainRow hb ho⟩⟩
        have HBC := Aside0.mk hbc
        clear hbc hB HP
        go_wp2_with fail
        refine HBC.out.mono ?_
        rintro e W3 ⟨A, c, rfl, H3⟩
        have hlo := St.loadOr (c := c) (n := n) H3.out (fun {w T S} h => rRow_rd (v := .slice A n c) HN.out.symm h) HIB.out HN.out.symm
        have HLO := Aside0.mk hlo
        clear hlo HBC H0
        go_wp2_with fail
        refine HLO.out.mono ?_
        rintro e W4 ⟨P3, e3, rfl, G⟩
        have hrl : Calls Try.prog 29 #[.slice (some ad) n c1] W4 fun e w' => ∃ P er, e = .returned (.tuple #[.pointer P, .int .i64 er]) ∧ Aside0 (Pair w w' P3 e3 P er) := by
          have hR : ∀ {M : List Res}, St w W4 M → St w W4 (rRdK .u8 (some ad) img :: M) := fun h => h.oldK HI.out
          rcases G with ⟨h1, rfl, rfl, H⟩ | ⟨h1, rfl, p, rfl, H⟩
          · refine (St.rLoadOr (c := c1) (n := n) (hR H) (fun {w T S} h => h.1.1) HIB.out hIc HN.out.symm).mono ?_
            rintro e W5 ⟨P, er, rfl, G⟩
            exact ⟨P, er, rfl, ⟨Got.pair (d := loadD img) rfl (.inl ⟨h1, rfl, rfl, _, G⟩)⟩⟩
          · refine (St.rLoadOr (c := c1) (n := n) (hR H) (fun {w T S} h => h.1.1) HIB.out hIc HN.out.symm).mono ?_
            rintro e W5 ⟨P, er, rfl, G⟩
            exact ⟨P, er, rfl, ⟨Got.pair (d := loadD img) rfl (.inr ⟨h1, rfl, p, rfl, _, G, fun h => (St.rot3 h.swap.drop).drop⟩)⟩⟩
        have HRL := Aside0.mk hrl
        clear hrl G H3 HLO
        go_wp2_with fail
        refine HRL.out.mono ?_
        rintro e W5 ⟨P4, e4, rfl, HP⟩
        go_wp2
        go_meet
        exact ⟨P3, e3, P4, e4, rfl, rfl, rfl, rfl, HP⟩
      · have b0 : decide ((0 : Int) < (n : Int)) = false := decide_eq_false (by omega)
        have b0n : decide (0 < n) = false := decide_eq_false h0
        go_wp2
        go_meet
        exact ⟨P1, e1, P2, e2, rfl, rfl, rfl, rfl, HP⟩
  case rest =>
    clear HP
    obtain ⟨P1, e1, P2, e2, rfl, rfl, rfl, rfl, HP⟩ := hcut
    rcases HP.out with ⟨rfl, rfl, rfl, rfl, hB⟩ | ⟨rfl, rfl, p, q, d, rfl, rfl, ht, H⟩
    · have HB := Aside0.mk hB
      clear hB HP
      go_wp2
      go_ret
      exact ⟨rfl, HB.out⟩
    · have H0 : Aside0 (St w wc (rDisk p d :: rRef q d :: [])) := ⟨H⟩
      have HT : Aside0 (d.taken ≤ 0) := ⟨by omega⟩
      clear HP H ht
      go_wp2_with fail
      go_loopw [7, 11] (fun v7 i W => ∃ (k p : Nat) (dk : Dsk), v7 = .pointer (some ⟨p, 0, none⟩) ∧ i = .int .i64 (k : Int) ∧ k ≤ m ∧ k ≤ 200 ∧ Aside0 (dk.taken ≤ 3 * k) ∧ Aside0 (St w W (rDisk p dk :: rRef q dk :: []))) (fun _ i _ => m - (RowKit.intOf i).toNat)
      case atStart => exact ⟨0, p, d, rfl, rfl, Nat.zero_le _, Nat.zero_le _, HT, H0⟩
      case round =>
        clear H0 HT
        obtain ⟨k, p, dk, rfl, rfl, hk1, hk2, HT, HK⟩ := hrel
        by_cases hlt : k < m ∧ k < 200
        · obtain ⟨h1, h2⟩ := hlt
          have t1 : decide ((k : Int) < (m : Int)) = true := decide_eq_true (by omega)
          have t2 : decide ((k : Int) < 200) = true := decide_eq_true (by omega)
          have t3 : (0 : Int) ≤ (k : Int) := by omega
          have t4 : (k : Int) < (m : Int) := by omega
          have hkl : k < acts.length := by rw [← HM.out]; exact h1
          have hx := HF.out acts[k] (List.getElem_mem hkl)
          obtain ⟨ad, A4, c4, rfl, b0, b1, b2, b3, b4, hl4, hk4⟩ := act_at HA.out hkl
          generalize acts[k] = x at *
          have hbel := HK.out.below
          have a0 := pw_cell_below hbel b0
          have a1 := pw_cell_below hbel b1
          have a2 := pw_cell_below hbel b2
          have a3 := pw_cell_below hbel b3
          have a4 := pw_cell_below hbel b4
          have HK4 := Aside0.mk hk4
          have HX := Aside0.mk hx
          clear b0 b1 b2 b3 b4 hbel hk4 hx hkl
          go_upto_region 15 with fail
          have HB := HK.out.alloc (.cells #[.int .i64 x.f0, .int .i64 x.f1, .int .i64 x.f2, .int .u8 x.f3, .slice A4 x.f4.length c4] 42)
          clear a0 a1 a2 a3 a4
          generalize wr.alloc (.cells #[.int .i64 x.f0, .int .i64 x.f1, .int .i64 x.f2, .int .u8 x.f3, .slice A4 x.f4.length c4] 42) = W0 at *
          generalize wr.heap.size = g at *
          have hb := HB.blk
          have c0 : W0.cell? ⟨g, 0, none⟩ = some (.int .i64 x.f0) := cell_of_blk hb 0
          have ham := among_calls W0 x.f0 (m := 8) (by omega) (by omega)
          have hr8 := among_lt x.f0 (m := 8) (by omega)
          obtain ⟨r, hr⟩ : ∃ r, r = among x.f0 8 := ⟨_, rfl⟩
          rw [← hr] at ham hr8
          have HB := Aside0.mk HB
          have HAM := Aside0.mk ham
          clear hb hr HK ham
          go_upto_block 2 with fail
          refine HAM.out.mono ?_
          rintro e W1 ⟨rfl, rfl⟩
          clear HAM
          go_upto_block 2 with fail
          go_cut [7, 13] (fun v7 v13 W => ∃ (p : Nat) (dk' : Dsk), v7 = .pointer (some ⟨p, 0, none⟩) ∧ v13 = .bool true ∧ Aside0 (dk'.taken ≤ 3 * (k + 1)) ∧ Aside0 (St w W (rDisk p dk' :: rRef q dk' :: [])))
          case first =>
            have hrr : r = 0 ∨ r = 1 ∨ r = 2 ∨ r = 3 ∨ r = 4 ∨ r = 5 ∨ r = 6 ∨ r = 7 := by omega
            rcases hrr with rfl | rfl | rfl | rfl | rfl | rfl | rfl | rfl
            · as_aux_lemma =>
              have c3' : W1.cell? ⟨g, 3, none⟩ = some (.int .u8 x.f3) := cell_of_blk HB.out.blk 3
              have h0s := HB.out.full x.f3
              have H0S := Aside0.mk h0s
              clear h0s c0
              go_wp2_with fail
              refine H0S.out.mono ?_
              rintro e W3 ⟨g1, cc, rfl, J1⟩
              have c2' : W3.cell? ⟨g, 2, none⟩ = some (.int .i64 x.f2) := cell_of_blk J1.swap.blk 2
              have hcc : 256 ≤ cc := by
                have h := J1.row
                rw [← fullS_len x.f3] at h
                have := (own_rd h).2.1
                rw [fullS_len] at this
                exact this
              have J1 := Aside0.mk J1
              clear H0S c3'
              go_upto_if 84 with fail
              go_cut [14] (fun v14 W => ∃ o n cw : Nat, v14 = .slice (some ⟨g1, o, none⟩) n cw ∧ Aside0 (o + n = 256) ∧ Aside0 (W = W3))
              case first =>
                by_cases h77 : x.f2 = 77
                · have e77 : (x.f2 == 77) = true := by simp [h77]
                  have k1 : ¬ (cc = 1) := by omega
                  have k2 : (1 : Int) ≤ (cc : Int) := by omega
                  go_wp2
                  go_meet
                  exact ⟨1, 255, _, rfl, ⟨rfl⟩, ⟨rfl⟩⟩
                · have e77 : (x.f2 == 77) = false := by simp [h77]
                  go_wp2
                  go_meet
                  exact ⟨0, 256, _, rfl, ⟨rfl⟩, ⟨rfl⟩⟩
              case rest =>
                obtain ⟨o, n1, cw, rfl, hon, hW⟩ := hcut
                have hW := hW.out
                subst hW
                have hwch := J1.out.drew.wchain (n := n1) (o := o) (cw := cw) hon.out HX.out.1 (by have := HT.out; omega) x.f1
                have hSg : ∀ W : World, W.heap[g]? = some (.cells #[.int .i64 x.f0, .int .i64 x.f1, .int .i64 x.f2, .int .u8 x.f3, .slice A4 x.f4.length c4] 42) → W.cell? ⟨g, 1, none⟩ = some (.int .i64 x.f1) ∧ W.cell? ⟨g, 3, none⟩ = some (.int .u8 x.f3) := fun W h => ⟨cell_of_blk h 1, cell_of_blk h 3⟩
                have S0 := Aside0.mk (hSg _ J1.out.drew.swap.blk)
                have HSG := Aside0.mk hSg
                have HWC := Aside0.mk hwch
                have hn1 : n1 ≤ 256 := by have := hon.out; omega
                have q1 : (0 : Int) ≤ (n1 : Int) := by omega
                clear hSg hwch J1 c2'
                go_wp2_with fail
                go_region_held3 (fun W => W.cell? ⟨g, 1, none⟩ = some (.int .i64 x.f1) ∧ W.cell? ⟨g, 3, none⟩ = some (.int .u8 x.f3))
                  ((first | exact S0.out | exact s1.out | exact s2.out | exact s3.out))
                  ((first
                    | (go_at_call 21; refine HWC.out.mono ?_; rintro e w2 ⟨r, rfl, hb2, h22⟩; have s1 := Aside0.mk (HSG.out _ hb2); replace h22 := Aside0.mk h22; clear hb2)
                    | (go_at_call 22; refine h22.out.mono ?_; rintro e w3 ⟨g2, cc2, rfl, hcc2, hb3, h30⟩; have s2 := Aside0.mk (HSG.out _ hb3); replace h30 := Aside0.mk h30; have q2 : (n1 : Int) ≤ (cc2 : Int) := by omega)
                    | (go_at_call 30; refine (h30.out _).mono ?_; rintro e w4 ⟨rfl, hb4, hfin⟩; have s3 := Aside0.mk (HSG.out _ hb4); replace hfin := Aside0.mk hfin; clear hb4)))
                all_goals (
                  have hwt := write_taken dk x.f1 (List.replicate n1 x.f3)
                  generalize (dk.write x.f1 (List.replicate n1 x.f3)).2 = dn at *
                  have HT2 : Aside0 (dn.taken ≤ 3 * (k + 1)) := ⟨by have := HT.out; omega⟩
                  clear hwt S0 HSG HWC h22 h30 s1 s2 s3
                  go_wp2_with fail
                  go_loopw [15] (fun i W => ∃ (K : Nat) (xs : List Value), i = .int .i64 (K : Int) ∧ K ≤ n1 ∧ Aside0 (St w W (rRow 5 1 (.slice (some ⟨g1, 0, none⟩) 256 cc) 256 xs :: rDisk p dn :: rRef q dn :: []))) (fun i _ => n1 - (RowKit.intOf i).toNat)
                  case atStart => exact ⟨0, _, rfl, Nat.zero_le _, hfin⟩
                  case round =>
                    clear hfin
                    obtain ⟨K, xs, rfl, hK, JK⟩ := hrel
                    by_cases hKN : K < n1
                    · have v1 : decide ((K : Int) < (n1 : Int)) = true := decide_eq_true (by omega)
                      have v2 : (0 : Int) ≤ (K : Int) := by omega
                      have v3 : (K : Int) < (n1 : Int) := by omega
                      obtain ⟨gb, hgb, ⟨U, hU⟩, hfz, hw1⟩ := JK.out.poke (k := o + K) (by have := hon.out; omega)
                      cases hgb
                      have HF := Aside0.mk (hw1 (.int .u8 255))
                      clear hw1 JK
                      go_wp2
                      go_roundw
                      case rel => exact ⟨K + 1, _, by go_num, hKN, HF⟩
                      case measure => simp only [RowKit.intOf]; omega
                    · have hKe : K = n1 := by omega
                      subst hKe
                      have v1 : decide ((K : Int) < (K : Int)) = false := decide_eq_false (by omega)
                      have HF := Aside0.mk JK.out.drop
                      clear JK
                      go_wp2
                      go_meet
                      exact ⟨p, dn, rfl, rfl, HT2, HF⟩)
            · as_aux_lemma =>
              have c3' : W1.cell? ⟨g, 3, none⟩ = some (.int .u8 x.f3) := cell_of_blk HB.out.blk 3
              have h0s := HB.out.full x.f3
              have H0S := Aside0.mk h0s
              clear h0s c0
              go_wp2_with fail
              refine H0S.out.mono ?_
              rintro e W3 ⟨g1, cc, rfl, J1⟩
              have c2' : W3.cell? ⟨g, 2, none⟩ = some (.int .i64 x.f2) := cell_of_blk J1.swap.blk 2
              have hcc : 256 ≤ cc := by
                have h := J1.row
                rw [← fullS_len x.f3] at h
                have := (own_rd h).2.1
                rw [fullS_len] at this
                exact this
              have J1 := Aside0.mk J1
              clear H0S c3'
              go_upto_if 84 with fail
              go_cut [14] (fun v14 W => ∃ o n cw : Nat, v14 = .slice (some ⟨g1, o, none⟩) n cw ∧ Aside0 (o + n = 256) ∧ Aside0 (W = W3))
              case first =>
                by_cases h77 : x.f2 = 77
                · have e77 : (x.f2 == 77) = true := by simp [h77]
                  have k1 : ¬ (cc = 1) := by omega
                  have k2 : (1 : Int) ≤ (cc : Int) := by omega
                  go_wp2
                  go_meet
                  exact ⟨1, 255, _, rfl, ⟨rfl⟩, ⟨rfl⟩⟩
                · have e77 : (x.f2 == 77) = false := by simp [h77]
                  go_wp2
                  go_meet
                  exact ⟨0, 256, _, rfl, ⟨rfl⟩, ⟨rfl⟩⟩
              case rest =>
                obtain ⟨o, n1, cw, rfl, hon, hW⟩ := hcut
                have hW := hW.out
                subst hW
                have hwch := J1.out.drew.wchain (n := n1) (o := o) (cw := cw) hon.out HX.out.1 (by have := HT.out; omega) x.f1
                have hSg : ∀ W : World, W.heap[g]? = some (.cells #[.int .i64 x.f0, .int .i64 x.f1, .int .i64 x.f2, .int .u8 x.f3, .slice A4 x.f4.length c4] 42) → W.cell? ⟨g, 1, none⟩ = some (.int .i64 x.f1) ∧ W.cell? ⟨g, 3, none⟩ = some (.int .u8 x.f3) := fun W h => ⟨cell_of_blk h 1, cell_of_blk h 3⟩
                have S0 := Aside0.mk (hSg _ J1.out.drew.swap.blk)
                have HSG := Aside0.mk hSg
                have HWC := Aside0.mk hwch
                have hn1 : n1 ≤ 256 := by have := hon.out; omega
                have q1 : (0 : Int) ≤ (n1 : Int) := by omega
                clear hSg hwch J1 c2'
                go_wp2_with fail
                go_region_held3 (fun W => W.cell? ⟨g, 1, none⟩ = some (.int .i64 x.f1) ∧ W.cell? ⟨g, 3, none⟩ = some (.int .u8 x.f3))
                  ((first | exact S0.out | exact s1.out | exact s2.out | exact s3.out))
                  ((first
                    | (go_at_call 21; refine HWC.out.mono ?_; rintro e w2 ⟨r, rfl, hb2, h22⟩; have s1 := Aside0.mk (HSG.out _ hb2); replace h22 := Aside0.mk h22; clear hb2)
                    | (go_at_call 22; refine h22.out.mono ?_; rintro e w3 ⟨g2, cc2, rfl, hcc2, hb3, h30⟩; have s2 := Aside0.mk (HSG.out _ hb3); replace h30 := Aside0.mk h30; have q2 : (n1 : Int) ≤ (cc2 : Int) := by omega)
                    | (go_at_call 30; refine (h30.out _).mono ?_; rintro e w4 ⟨rfl, hb4, hfin⟩; have s3 := Aside0.mk (HSG.out _ hb4); replace hfin := Aside0.mk hfin; clear hb4)))
                all_goals (
                  have hwt := write_taken dk x.f1 (List.replicate n1 x.f3)
                  generalize (dk.write x.f1 (List.replicate n1 x.f3)).2 = dn at *
                  have HT2 : Aside0 (dn.taken ≤ 3 * (k + 1)) := ⟨by have := HT.out; omega⟩
                  clear hwt S0 HSG HWC h22 h30 s1 s2 s3
                  go_wp2_with fail
                  go_loopw [15] (fun i W => ∃ (K : Nat) (xs : List Value), i = .int .i64 (K : Int) ∧ K ≤ n1 ∧ Aside0 (St w W (rRow 5 1 (.slice (some ⟨g1, 0, none⟩) 256 cc) 256 xs :: rDisk p dn :: rRef q dn :: []))) (fun i _ => n1 - (RowKit.intOf i).toNat)
                  case atStart => exact ⟨0, _, rfl, Nat.zero_le _, hfin⟩
                  case round =>
                    clear hfin
                    obtain ⟨K, xs, rfl, hK, JK⟩ := hrel
                    by_cases hKN : K < n1
                    · have v1 : decide ((K : Int) < (n1 : Int)) = true := decide_eq_true (by omega)
                      have v2 : (0 : Int) ≤ (K : Int) := by omega
                      have v3 : (K : Int) < (n1 : Int) := by omega
                      obtain ⟨gb, hgb, ⟨U, hU⟩, hfz, hw1⟩ := JK.out.poke (k := o + K) (by have := hon.out; omega)
                      cases hgb
                      have HF := Aside0.mk (hw1 (.int .u8 255))
                      clear hw1 JK
                      go_wp2
                      go_roundw
                      case rel => exact ⟨K + 1, _, by go_num, hKN, HF⟩
                      case measure => simp only [RowKit.intOf]; omega
                    · have hKe : K = n1 := by omega
                      subst hKe
                      have v1 : decide ((K : Int) < (K : Int)) = false := decide_eq_false (by omega)
                      have HF := Aside0.mk JK.out.drop
                      clear JK
                      go_wp2
                      go_meet
                      exact ⟨p, dn, rfl, rfl, HT2, HF⟩)
            · as_aux_lemma =>
              have c3' : W1.cell? ⟨g, 3, none⟩ = some (.int .u8 x.f3) := cell_of_blk HB.out.blk 3
              have h0s := HB.out.full x.f3
              have H0S := Aside0.mk h0s
              clear h0s c0
              go_wp2_with fail
              refine H0S.out.mono ?_
              rintro e W3 ⟨g1, cc, rfl, J1⟩
              have c2' : W3.cell? ⟨g, 2, none⟩ = some (.int .i64 x.f2) := cell_of_blk J1.swap.blk 2
              have hcc : 256 ≤ cc := by
                have h := J1.row
                rw [← fullS_len x.f3] at h
                have := (own_rd h).2.1
                rw [fullS_len] at this
                exact this
              have J1 := Aside0.mk J1
              clear H0S c3'
              go_upto_if 84 with fail
              go_cut [14] (fun v14 W => ∃ o n cw : Nat, v14 = .slice (some ⟨g1, o, none⟩) n cw ∧ Aside0 (o + n = 256) ∧ Aside0 (W = W3))
              case first =>
                by_cases h77 : x.f2 = 77
                · have e77 : (x.f2 == 77) = true := by simp [h77]
                  have k1 : ¬ (cc = 1) := by omega
                  have k2 : (1 : Int) ≤ (cc : Int) := by omega
                  go_wp2
                  go_meet
                  exact ⟨1, 255, _, rfl, ⟨rfl⟩, ⟨rfl⟩⟩
                · have e77 : (x.f2 == 77) = false := by simp [h77]
                  go_wp2
                  go_meet
                  exact ⟨0, 256, _, rfl, ⟨rfl⟩, ⟨rfl⟩⟩
              case rest =>
                obtain ⟨o, n1, cw, rfl, hon, hW⟩ := hcut
                have hW := hW.out
                subst hW
                have hwch := J1.out.drew.wchain (n := n1) (o := o) (cw := cw) hon.out HX.out.1 (by have := HT.out; omega) x.f1
                have hSg : ∀ W : World, W.heap[g]? = some (.cells #[.int .i64 x.f0, .int .i64 x.f1, .int .i64 x.f2, .int .u8 x.f3, .slice A4 x.f4.length c4] 42) → W.cell? ⟨g, 1, none⟩ = some (.int .i64 x.f1) ∧ W.cell? ⟨g, 3, none⟩ = some (.int .u8 x.f3) := fun W h => ⟨cell_of_blk h 1, cell_of_blk h 3⟩
                have S0 := Aside0.mk (hSg _ J1.out.drew.swap.blk)
                have HSG := Aside0.mk hSg
                have HWC := Aside0.mk hwch
                have hn1 : n1 ≤ 256 := by have := hon.out; omega
                have q1 : (0 : Int) ≤ (n1 : Int) := by omega
                clear hSg hwch J1 c2'
                go_wp2_with fail
                go_region_held3 (fun W => W.cell? ⟨g, 1, none⟩ = some (.int .i64 x.f1) ∧ W.cell? ⟨g, 3, none⟩ = some (.int .u8 x.f3))
                  ((first | exact S0.out | exact s1.out | exact s2.out | exact s3.out))
                  ((first
                    | (go_at_call 21; refine HWC.out.mono ?_; rintro e w2 ⟨r, rfl, hb2, h22⟩; have s1 := Aside0.mk (HSG.out _ hb2); replace h22 := Aside0.mk h22; clear hb2)
                    | (go_at_call 22; refine h22.out.mono ?_; rintro e w3 ⟨g2, cc2, rfl, hcc2, hb3, h30⟩; have s2 := Aside0.mk (HSG.out _ hb3); replace h30 := Aside0.mk h30; have q2 : (n1 : Int) ≤ (cc2 : Int) := by omega)
                    | (go_at_call 30; refine (h30.out _).mono ?_; rintro e w4 ⟨rfl, hb4, hfin⟩; have s3 := Aside0.mk (HSG.out _ hb4); replace hfin := Aside0.mk hfin; clear hb4)))
                all_goals (
                  have hwt := write_taken dk x.f1 (List.replicate n1 x.f3)
                  generalize (dk.write x.f1 (List.replicate n1 x.f3)).2 = dn at *
                  have HT2 : Aside0 (dn.taken ≤ 3 * (k + 1)) := ⟨by have := HT.out; omega⟩
                  clear hwt S0 HSG HWC h22 h30 s1 s2 s3
                  go_wp2_with fail
                  go_loopw [15] (fun i W => ∃ (K : Nat) (xs : List Value), i = .int .i64 (K : Int) ∧ K ≤ n1 ∧ Aside0 (St w W (rRow 5 1 (.slice (some ⟨g1, 0, none⟩) 256 cc) 256 xs :: rDisk p dn :: rRef q dn :: []))) (fun i _ => n1 - (RowKit.intOf i).toNat)
                  case atStart => exact ⟨0, _, rfl, Nat.zero_le _, hfin⟩
                  case round =>
                    clear hfin
                    obtain ⟨K, xs, rfl, hK, JK⟩ := hrel
                    by_cases hKN : K < n1
                    · have v1 : decide ((K : Int) < (n1 : Int)) = true := decide_eq_true (by omega)
                      have v2 : (0 : Int) ≤ (K : Int) := by omega
                      have v3 : (K : Int) < (n1 : Int) := by omega
                      obtain ⟨gb, hgb, ⟨U, hU⟩, hfz, hw1⟩ := JK.out.poke (k := o + K) (by have := hon.out; omega)
                      cases hgb
                      have HF := Aside0.mk (hw1 (.int .u8 255))
                      clear hw1 JK
                      go_wp2
                      go_roundw
                      case rel => exact ⟨K + 1, _, by go_num, hKN, HF⟩
                      case measure => simp only [RowKit.intOf]; omega
                    · have hKe : K = n1 := by omega
                      subst hKe
                      have v1 : decide ((K : Int) < (K : Int)) = false := decide_eq_false (by omega)
                      have HF := Aside0.mk JK.out.drop
                      clear JK
                      go_wp2
                      go_meet
                      exact ⟨p, dn, rfl, rfl, HT2, HF⟩)
            · as_aux_lemma =>
              have h1s := HB.out.swap.sync (by have := HT.out; unfold maxTaken; omega)
              have H1S := Aside0.mk h1s
              clear h1s c0
              go_wp2_with fail
              refine H1S.out.mono ?_
              rintro e W3 ⟨rfl, J2⟩
              have h2s := (St.rot3 J2).rSync (by have := HT.out; unfold maxTaken; omega)
              have H2S := Aside0.mk h2s
              clear h2s J2 H1S
              go_wp2_with fail
              refine H2S.out.mono ?_
              rintro e W4 ⟨rfl, J3⟩
              have HF := Aside0.mk (St.rot3 J3).drop.swap
              have HT2 : Aside0 (dk.sync.2.taken ≤ 3 * (k + 1)) := ⟨by have := sync_taken dk; have := HT.out; omega⟩
              clear J3 H2S
              go_wp2
              go_meet
              exact ⟨p, _, rfl, rfl, HT2, HF⟩
            · as_aux_lemma =>
              have c1' : W1.cell? ⟨g, 1, none⟩ = some (.int .i64 x.f1) := cell_of_blk HB.out.blk 1
              obtain ⟨s, e0, hs⟩ : ∃ s e0, dk.read x.f1 = (s, e0) := ⟨_, _, rfl⟩
              have h0s := HB.out.swap.readAt x.f1 hs
              have H0S := Aside0.mk h0s
              have HRS := Aside0.mk hs
              clear h0s c0 hs
              go_wp2_with fail
              refine H0S.out.mono ?_
              rintro e W3 ⟨Ab, cb, rfl, J1⟩
              have c1'' : W3.cell? ⟨g, 1, none⟩ = some (.int .i64 x.f1) := cell_of_blk (St.rot3 J1).blk 1
              have h1s := (St.rot4 J1).rReadAt x.f1 HRS.out
              have H1S := Aside0.mk h1s
              clear h1s J1 H0S
              go_wp2_with fail
              refine H1S.out.mono ?_
              rintro e W4 ⟨Ac, cc, rfl, J2⟩
              -- row2, ref, row1, disk, blk
              have r2 := J2.rdRow rfl
              have r1 := (St.rot3 J2).rdRow rfl
              have h2s := same_eq (c1 := cb) (c2 := cc) r1 r2 rfl rfl rfl
              have J3 := Aside0.mk (St.rot5 (St.rot3 J2)).drop
              have H2S := Aside0.mk h2s
              clear h2s J2 H1S r1 r2
              have HSL : Aside0 (s.length ≤ 9223372036854775807) := ⟨(J3.out.rdRow rfl).2.1⟩
              obtain ⟨N, hN⟩ : ∃ N, N = s.length := ⟨_, rfl⟩
              rw [← hN] at HSL
              replace J3 : Aside0 (St w W4 (rRow 5 1 (.slice Ab N cb) N (bytes s) :: rRow 5 1 (.slice Ac N cc) N (bytes s) :: rRef q dk :: rDisk p dk :: [])) := ⟨by rw [hN]; exact J3.out⟩
              rw [← hN] at H2S ⊢
              have hsl := HSL.out
              clear hN
              go_wp2_with fail
              refine H2S.out.mono ?_
              rintro e W5 ⟨rfl, hb5⟩
              have J4 := Aside0.mk (J3.out.go hb5).swap.drop
              clear J3 H2S hb5
              go_wp2_with fail
              go_loopw [20] (fun i W => ∃ (K : Nat) (xs : List Value), i = .int .i64 (K : Int) ∧ K ≤ N ∧ Aside0 (St w W (rRow 5 1 (.slice Ab N cb) N xs :: rRef q dk :: rDisk p dk :: []))) (fun i _ => N - (RowKit.intOf i).toNat)
              case atStart => exact ⟨0, _, rfl, Nat.zero_le _, J4⟩
              case round =>
                clear J4
                obtain ⟨K, xs, rfl, hK, JK⟩ := hrel
                by_cases hKN : K < N
                · have v1 : decide ((K : Int) < (N : Int)) = true := decide_eq_true (by omega)
                  have v2 : (0 : Int) ≤ (K : Int) := by omega
                  have v3 : (K : Int) < (N : Int) := by omega
                  obtain ⟨gb, rfl, ⟨U, hU⟩, hfz, hfin⟩ := JK.out.poke hKN
                  have HF := Aside0.mk (hfin (.int .u8 254))
                  clear hfin JK
                  go_wp2
                  go_roundw
                  case rel => exact ⟨K + 1, _, by go_num, hKN, HF⟩
                  case measure => simp only [RowKit.intOf]; omega
                · have hKe : K = N := by omega
                  subst hKe
                  have v1 : decide ((K : Int) < (K : Int)) = false := decide_eq_false (by omega)
                  have HF := Aside0.mk JK.out.drop.swap
                  have HT2 : Aside0 (dk.taken ≤ 3 * (k + 1)) := ⟨by have := HT.out; omega⟩
                  clear JK
                  go_wp2
                  go_meet
                  exact ⟨p, dk, rfl, rfl, HT2, HF⟩
            · as_aux_lemma =>
              have c2 : W1.cell? ⟨g, 2, none⟩ = some (.int .i64 x.f2) := cell_of_blk HB.out.blk 2
              have h1s := HB.out.swap.limit x.f2 HX.out.2.1
              have H1S := Aside0.mk h1s
              clear h1s c0
              go_wp2_with fail
              refine H1S.out.mono ?_
              rintro e W3 ⟨rfl, J2⟩
              have c2' : W3.cell? ⟨g, 2, none⟩ = some (.int .i64 x.f2) := cell_of_blk J2.swap.blk 2
              have h2s := (St.rot3 J2).rLimit x.f2 HX.out.2.1
              have H2S := Aside0.mk h2s
              clear h2s J2 H1S
              go_wp2_with fail
              refine H2S.out.mono ?_
              rintro e W4 ⟨rfl, J3⟩
              have HF := Aside0.mk (St.rot3 J3).drop.swap
              have HT2 : Aside0 ((dk.limit x.f2).taken ≤ 3 * (k + 1)) := ⟨by show dk.taken ≤ _; have := HT.out; omega⟩
              clear J3 H2S
              go_wp2
              go_meet
              exact ⟨p, _, rfl, rfl, HT2, HF⟩
            · as_aux_lemma =>
              have d4 : W1.cell? ⟨g, 4, none⟩ = some (.slice A4 x.f4.length c4) := cell_of_blk HB.out.blk 4
              have hP : RdI W1 A4 x.f4 := Kd.C_below HK4.out HB.out.below
              have h0s := HB.out.intsAt (c := c4) hP HX.out.2.2
              have H0S := Aside0.mk h0s
              clear h0s c0 hP
              go_wp2_with fail
              refine H0S.out.mono ?_
              rintro e W3 ⟨A', c', rfl, J1⟩
              have h1s := St.crash (picks := x.f4) (c := c') (St.rot3 J1) (fun {w T S} h => row_rdI (A := A') (c := c') rfl h) (by have := HT.out; unfold maxTaken; omega)
              have H1S := Aside0.mk h1s
              clear h1s J1 H0S
              go_wp2_with fail
              refine H1S.out.mono ?_
              rintro e W4 ⟨rfl, J2⟩
              have d4' : W4.cell? ⟨g, 4, none⟩ = some (.slice A4 x.f4.length c4) := cell_of_blk (St.rot3 J2).blk 4
              have h2s := St.rCrash (picks := x.f4) (cp := c4) (((St.rot4 J2).oldK (k := .i64) HK4.out).swap) (fun {w T S} h => h.1.1) (by have := HT.out; unfold maxTaken; omega)
              have H2S := Aside0.mk h2s
              clear h2s J2 H1S
              go_wp2_with fail
              refine H2S.out.mono ?_
              rintro e W5 ⟨rfl, J3⟩
              have HF := Aside0.mk (St.rot4 (St.rot5 J3).drop).drop.swap.drop.swap
              have HT2 : Aside0 ((dk.crash x.f4).taken ≤ 3 * (k + 1)) := ⟨by show dk.taken ≤ _; have := HT.out; omega⟩
              clear J3 H2S
              go_wp2
              go_meet
              exact ⟨p, _, rfl, rfl, HT2, HF⟩
            · as_aux_lemma =>
              have h0s := HB.out.drop.clone
              have H0S := Aside0.mk h0s
              clear h0s c0
              go_wp2_with fail
              refine H0S.out.mono ?_
              rintro e W3 ⟨p2, rfl, J1⟩
              have h1s := J1.full 253
              have H1S := Aside0.mk h1s
              clear h1s J1 H0S
              go_wp2_with fail
              refine H1S.out.mono ?_
              rintro e W4 ⟨g1, cc1, rfl, J2⟩
              have h2s := (St.rot3 J2).writeRow (fullS_len 253) (fullS_mem (by omega)) (by have := HT.out; unfold maxTaken; omega) 0
              have H2S := Aside0.mk h2s
              clear h2s J2 H1S
              go_wp2_with fail
              refine H2S.out.mono ?_
              rintro e W5 ⟨rfl, J3⟩
              have hwt := write_taken dk 0 (fullS 253)
              have h3s := J3.sync (by have := HT.out; unfold maxTaken; omega)
              have H3S := Aside0.mk h3s
              clear h3s J3 H2S hwt
              go_wp2_with fail
              refine H3S.out.mono ?_
              rintro e W6 ⟨rfl, J4⟩
              have HF := Aside0.mk J4.drop
              have HT2 : Aside0 (dk.taken ≤ 3 * (k + 1)) := ⟨by have := HT.out; omega⟩
              clear J4 H3S
              go_wp2
              go_meet
              exact ⟨p2, dk, rfl, rfl, HT2, HF⟩
          case rest =>
            as_aux_lemma =>
              obtain ⟨p', dk', rfl, rfl, HT', HS'⟩ := hcut
              clear HB c0 HT
              have hS' := fun d os => HS'.out.go (below_regrown wc d os)
              have hp1 := fun d os => (hS' d os).pending
              have hp2 := fun d os => (hS' d os).swap.rPending
              have hp3 := fun d os => (hS' d os).ops
              have hp4 := fun d os => (hS' d os).sectors
              have R1 := Aside0.mk (fun d os => Calls.regrown_of ((hp1 d os).mono fun e w' ⟨h1, h2⟩ => ⟨h1, h2 ▸ Below.refl _ _⟩))
              have R2 := Aside0.mk (fun d os => Calls.regrown_of ((hp2 d os).mono fun e w' ⟨h1, h2⟩ => ⟨h1, h2 ▸ Below.refl _ _⟩))
              have R3 := Aside0.mk (fun d os => Calls.regrown_of ((hp3 d os).mono fun e w' ⟨h1, h2⟩ => ⟨h1, h2 ▸ Below.refl _ _⟩))
              have R4 := Aside0.mk (fun d os => Calls.regrown_of ((hp4 d os).mono fun e w' ⟨h1, h2⟩ => ⟨h1, h2 ▸ Below.refl _ _⟩))
              obtain ⟨u0, us0, HR⟩ := HS'.out.swap.ref
              have hR := HR.refIs
              obtain ⟨x0, _, _, x3, _⟩ := hR.cells
              obtain ⟨og, oc, hu⟩ := hR.form
              subst hu
              have X0 := Aside0.mk x0
              have X3 := Aside0.mk x3
              clear hS' hp1 hp2 hp3 hp4 HR hR x0 x3
              generalize dk'.pending = pe at *
              have k0 := cell_regrown X0.out
              have k3 := cell_regrown X3.out
              have r1 := R1.out
              have r2 := R2.out
              have r3 := R3.out
              have r4 := R4.out
              clear R1 R2 R3 R4 X0 X3
              go_wp2_with fail
              refine wp_region_quiet_below (by kernel_rfl) (by kernel_rfl) ?_
              repeat (
                with_reducible refine wpQuiet_step ?_
                intro KK hK
                go_simp
                first
                  | (with_reducible refine hK _ ?_; clear hK KK)
                  | (apply Exists.intro
                     refine ⟨fun _ => ?_, hK _ ?_⟩
                     (first | with_reducible exact r1 _ _ | with_reducible exact r2 _ _ | with_reducible exact r3 _ _ | with_reducible exact r4 _ _)
                     clear hK KK))
              refine wpQuiet_nil ?_
              intro _ hw'
              obtain ⟨⟨dq, osq⟩, hw''⟩ := hw'
              subst hw''
              have HS2 := Aside0.mk (HS'.out.go (below_regrown wc dq osq))
              clear k0 k3 r1 r2 r3 r4 HS'
              generalize Sort.grow (redrawn wc dq) osq = W at *
              go_wp2
              go_roundw
              case rel => exact ⟨k + 1, p', dk', rfl, by go_num, h1, h2, HT', HS2⟩
              case measure => simp only [RowKit.intOf]; omega
        · by_cases h1 : k < m
          · as_aux_lemma =>
            have h2 : ¬ k < 200 := fun h => hlt ⟨h1, h⟩
            have t1 : decide ((k : Int) < (m : Int)) = true := decide_eq_true (by omega)
            have t2 : decide ((k : Int) < 200) = false := decide_eq_false (by omega)
            have hen := HK.out.ends (by have := HT.out; unfold maxTaken; omega)
            have HEN := Aside0.mk hen
            clear hen HK HT
            go_wp2_with fail
            refine HEN.out.mono ?_
            rintro e W1 ⟨B1, d1, n1, rfl, h2⟩
            replace h2 := Aside0.mk h2
            clear HEN
            go_wp2_with fail
            refine h2.out.mono ?_
            rintro e W2 ⟨B2, d2, rfl, h3⟩
            replace h3 := Aside0.mk h3
            clear h2
            go_wp2_with fail
            refine h3.out.mono ?_
            rintro e W3 ⟨rfl, h4⟩
            replace h4 := Aside0.mk h4
            clear h3
            go_wp2_with fail
            refine h4.out.mono ?_
            rintro e W4 ⟨B3, d3, n3, rfl, h5⟩
            replace h5 := Aside0.mk h5
            clear h4
            go_wp2_with fail
            refine h5.out.mono ?_
            rintro e W5 ⟨B4, d4, rfl, h6⟩
            replace h6 := Aside0.mk h6
            clear h5
            go_wp2_with fail
            refine h6.out.mono ?_
            rintro e W6 ⟨rfl, h7⟩
            replace h7 := Aside0.mk h7
            clear h6
            go_wp2_with fail
            refine h7.out.mono ?_
            rintro e W7 ⟨rfl, hbel⟩
            have HBL := Aside0.mk hbel
            clear h7 hbel
            go_wp2
            go_ret
            exact ⟨rfl, HBL.out⟩
          · as_aux_lemma =>
            have t1 : decide ((k : Int) < (m : Int)) = false := decide_eq_false (by omega)
            have hen := HK.out.ends (by have := HT.out; unfold maxTaken; omega)
            have HEN := Aside0.mk hen
            clear hen HK HT
            go_wp2_with fail
            refine HEN.out.mono ?_
            rintro e W1 ⟨B1, d1, n1, rfl, h2⟩
            replace h2 := Aside0.mk h2
            clear HEN
            go_wp2_with fail
            refine h2.out.mono ?_
            rintro e W2 ⟨B2, d2, rfl, h3⟩
            replace h3 := Aside0.mk h3
            clear h2
            go_wp2_with fail
            refine h3.out.mono ?_
            rintro e W3 ⟨rfl, h4⟩
            replace h4 := Aside0.mk h4
            clear h3
            go_wp2_with fail
            refine h4.out.mono ?_
            rintro e W4 ⟨B3, d3, n3, rfl, h5⟩
            replace h5 := Aside0.mk h5
            clear h4
            go_wp2_with fail
            refine h5.out.mono ?_
            rintro e W5 ⟨B4, d4, rfl, h6⟩
            replace h6 := Aside0.mk h6
            clear h5
            go_wp2_with fail
            refine h6.out.mono ?_
            rintro e W6 ⟨rfl, h7⟩
            replace h7 := Aside0.mk h7
            clear h6
            go_wp2_with fail
            refine h7.out.mono ?_
            rintro e W7 ⟨rfl, hbel⟩
            have HBL := Aside0.mk hbel
            clear h7 hbel
            go_wp2
            go_ret
            exact ⟨rfl, HBL.out⟩
end Go.Proofs.Ytoojcgmdcbcenaa
