/- The reference's Crash. -/
import Derived.Test.YtoojcgmdcbcenaaRA
namespace Go.Proofs.Ytoojcgmdcbcenaa
open Go.RowKit Go.Maps Go.Proofs.YtoojcgmdcbcenaaW.PrintWords
attribute [local go_sem ↓] Go.wp_at_zero Go.wp_at_succ
set_option linter.unusedVariables false
set_option linter.unusedSimpArgs false
set_option maxRecDepth 100000

section
variable {w0 w : World} {q : Nat} {d : Dsk} {L : List Res}
theorem St.resB {A B : Res} {W : World} (H : St w0 W (A :: B :: L)) : ∃ T S, B.has W T S := by
  obtain ⟨T, S, h, _⟩ := H.drop.fst
  exact ⟨T, S, h⟩
set_option maxHeartbeats 2000000 in
theorem St.rCrash {B : Res} {A : Option Addr} {picks : List Int} {cp : Nat} (H : St w0 w (rRef q d :: B :: L)) (hB : ∀ {w : World} {T S : Foot}, B.has w T S → RdI w A picks) (ht : d.taken ≤ maxTaken) : Calls Try.prog 35 #[.pointer (some ⟨q, 0, none⟩), .slice A picks.length cp] w fun e w' => e = .returned (.tuple #[]) ∧ St w0 w' (rRef q (d.crash picks) :: B :: L) := by
  have hok := H.refOk
  obtain ⟨V, hV⟩ : ∃ V, V = d.vals.length := ⟨_, rfl⟩
  have hV2 := hok.n2
  rw [← hV] at hV2
  unfold maxTaken at ht
  have hmany : ∀ I, I < V → (d.vals.getD I []).length ≤ 1048576000000000000 := fun I hI => by
    have := hok.many _ (hok.get (i := I) (by omega)); omega
  have hRI : ∀ W X, St w0 W (X :: B :: L) → RdI W A picks := fun W X h => by
    obtain ⟨T, S, hb⟩ := h.resB
    exact hB hb
  have HMA := Aside0.mk hmany
  have HRI := Aside0.mk hRI
  have HV := Aside0.mk hV
  have HOK := Aside0.mk hok
  have H1 : Aside0 (St w0 w (rRef q { d with vals := crI picks d.vals 0 } :: B :: L)) := ⟨by rw [crI_zero]; exact H⟩
  obtain ⟨M, hM⟩ : ∃ M, M = picks.length := ⟨_, rfl⟩
  have HM := Aside0.mk hM
  rw [← hM]
  clear hok hV H hM hmany hRI ht
  go_enter Try.func35, Try.ntmps35
  go_wp2_with fail
  go_loopw [4, 5] (fun j i W => ∃ I : Nat, i = .int .i64 (I : Int) ∧ I ≤ V ∧ j = .int .i64 (rank d.vals I : Nat) ∧ Aside0 (St w0 W (rRef q { d with vals := crI picks d.vals I } :: B :: L))) (fun _ i _ => V - (RowKit.intOf i).toNat)
  case atStart => exact ⟨0, rfl, Nat.zero_le _, by simp [rank], H1⟩
  case round =>
    clear H1
    obtain ⟨I, rfl, hI, rfl, HI⟩ := hrel
    have hlV : (crI picks d.vals I).length = V := by rw [crI_len _ _ (by rw [← HV.out]; exact hI), HV.out]
    have hrl := rank_le d.vals I
    obtain ⟨j, hj⟩ : ∃ j, j = rank d.vals I := ⟨_, rfl⟩
    rw [← hj] at hrl ⊢
    have hj2 : j ≤ 4096 := by omega
    by_cases hIV : I < V
    · have u1 : decide ((I : Int) < (V : Int)) = true := decide_eq_true (by omega)
      have u2 : (0 : Int) ≤ (I : Int) := by omega
      have u3 : (I : Int) < (V : Int) := by omega
      have hIv : I < d.vals.length := by rw [← HV.out]; exact hIV
      have hp := HOK.out.pos hIv
      have hget := crI_get picks d.vals hIv
      have hmn := HMA.out I hIV
      have hrs := rank_succ d.vals hIv
      rw [← hj] at hrs
      by_cases hN2 : (d.vals.getD I []).length < 2
      · have hsh := crI_short picks d.vals hIv hN2
        rw [if_neg (by omega)] at hrs
        obtain ⟨u, us, HR⟩ := HI.out.ref
        have hR := HR.refIs
        have c0 := hR.cells.1
        obtain ⟨og, oc, hu⟩ := hR.form
        subst hu
        obtain ⟨g, c, hc, _, _⟩ := hR.at_ (i := I) (by show I < (crI picks d.vals I).length; omega)
        simp only [hget, hlV] at c0 hc
        obtain ⟨N, hN⟩ : ∃ N, N = (d.vals.getD I []).length := ⟨_, rfl⟩
        rw [← hN] at hc hN2
        have v1 : decide ((N : Int) < 2) = true := decide_eq_true (by omega)
        have HF := Aside0.mk (hsh ▸ HI.out)
        have HRS := Aside0.mk hrs
        clear HR hR hp hget hmn hrs hsh hN hj hlV
        go_wp2
        go_roundw
        case rel => exact ⟨I + 1, by go_num, hIV, by rw [HRS.out]; rfl, HF⟩
        case measure => simp only [RowKit.intOf]; omega
      · rw [if_pos (by omega)] at hrs
        obtain ⟨k, hk⟩ : ∃ k, k = Dsk.pick picks j (d.vals.getD I []).length := ⟨_, rfl⟩
        have hkN : k < (d.vals.getD I []).length := by rw [hk]; exact pick_lt _ _ _ hp
        have hlong := crI_long picks d.vals hIv hN2
        rw [← hj, ← hk] at hlong
        have hok2 := crI_ok HOK.out picks (I := I + 1) (by omega)
        by_cases hjM : j < M
        · have y1 : decide ((j : Int) < (M : Int)) = true := decide_eq_true (by omega)
          have y2 : (0 : Int) ≤ (j : Int) := by omega
          have y3 : (j : Int) < (M : Int) := by omega
          obtain ⟨ad, rfl, hcell⟩ := RdI.at_ (HRI.out _ _ HI.out) (j := j) (by rw [← HM.out]; exact hjM)
          have hone := HI.out.drew.rOne (i := I) (k := k) (by show I < (crI picks d.vals I).length; omega) (by show k < ((crI picks d.vals I).getD I []).length; rw [hget]; omega) (by show ({ d with vals := (crI picks d.vals I).set I [((crI picks d.vals I).getD I []).getD k []] } : Dsk).Ok; rw [hget, hlong]; exact hok2)
          simp only [hget, hlong, hlV] at hone
          obtain ⟨og, oc, g, c, b, c', hS1, _, hS2, hS3, hfin⟩ := hone
          obtain ⟨N, hN⟩ : ∃ N, N = (d.vals.getD I []).length := ⟨_, rfl⟩
          rw [← hN] at hS1 hS2 hkN hN2 hmn
          have q1 : (0 : Int) ≤ (k : Int) := by omega
          have q2 : (k : Int) < (N : Int) := by omega
          have v1 : decide ((N : Int) < 2) = false := decide_eq_false (by omega)
          have hw : wr.drew.alloc (.cells #[.slice (some ⟨b, 0, none⟩) 256 c'] 31) = (wr.alloc (.cells #[.slice (some ⟨b, 0, none⟩) 256 c'] 31)).drew := rfl
          have hz : wr.drew.heap.size = wr.heap.size := rfl
          rw [hw] at hS2
          rw [hw, hz] at hS3 hfin
          clear hw hz
          obtain ⟨a0, a1, a2, af⟩ := hS1
          replace a0 : wr.cell? ⟨q, 0, none⟩ = some (.slice (some ⟨og, 0, none⟩) V oc) := a0
          replace a1 : wr.cell? ⟨og, I, none⟩ = some (.slice (some ⟨g, 0, none⟩) N c) := a1
          have S1 : Aside0 (wr.drew.cell? ⟨q, 0, none⟩ = some (.slice (some ⟨og, 0, none⟩) V oc) ∧ wr.drew.cell? ⟨g, k, none⟩ = some (.slice (some ⟨b, 0, none⟩) 256 c')) := ⟨⟨a0, a2⟩⟩
          have hSx : ∀ (W : World) (U : Value), OneAt W q og V oc I U g k (.slice (some ⟨b, 0, none⟩) 256 c') → W.cell? ⟨q, 0, none⟩ = some (.slice (some ⟨og, 0, none⟩) V oc) ∧ W.cell? ⟨g, k, none⟩ = some (.slice (some ⟨b, 0, none⟩) 256 c') := fun W U h => ⟨h.1, h.2.2.1⟩
          have S2 := Aside0.mk (hSx _ _ hS2)
          obtain ⟨_, kS, _, kF⟩ := hS2
          have S3 := Aside0.mk (hSx _ _ hS3)
          clear hSx
          have HF := Aside0.mk hfin
          have HRS := Aside0.mk hrs
          obtain ⟨N', hN'⟩ : ∃ N', N = N' + 1 := ⟨N - 1, by omega⟩
          have e1 := pick_val picks (j := j) (m := N') (by rw [← HM.out]; exact hjM) (by omega)
          rw [show ((N' : Int) + 1) = (N : Int) by omega, ← hN', hN, ← hk, ← hN] at e1
          have e0 : IntKind.u64.wrap (N : Int) = (N : Int) := by rw [IntKind.wrap_u64]; omega
          have b0 : ((N : Int) == 0) = false := by simpa using (by omega : (N : Int) ≠ 0)
          generalize picks.getD j 0 = pj at *
          clear hp hget hmn hrs hlong hok2 hN hk hN' hj hlV hS3 hfin hIv
          go_wp2_with fail
          go_region_held3 (fun W => W.cell? ⟨q, 0, none⟩ = some (.slice (some ⟨og, 0, none⟩) V oc) ∧ W.cell? ⟨g, k, none⟩ = some (.slice (some ⟨b, 0, none⟩) 256 c'))
            ((first | exact S1.out | exact S2.out | exact S3.out)) (fail)
          all_goals (
            go_wp2
            go_roundw
            case rel => exact ⟨I + 1, by go_num, hIV, by rw [HRS.out]; go_num, HF⟩
            case measure => simp only [RowKit.intOf]; omega)
        · have y1 : decide ((j : Int) < (M : Int)) = false := decide_eq_false (by omega)
          have hk0 : k = 0 := by rw [hk, Dsk.pick, if_neg (by rw [← HM.out]; exact hjM)]
          have hone := HI.out.drew.rOne (i := I) (k := k) (by show I < (crI picks d.vals I).length; omega) (by show k < ((crI picks d.vals I).getD I []).length; rw [hget]; omega) (by show ({ d with vals := (crI picks d.vals I).set I [((crI picks d.vals I).getD I []).getD k []] } : Dsk).Ok; rw [hget, hlong]; exact hok2)
          simp only [hget, hlong, hlV] at hone
          obtain ⟨og, oc, g, c, b, c', hS1, _, hS2, hS3, hfin⟩ := hone
          obtain ⟨N, hN⟩ : ∃ N, N = (d.vals.getD I []).length := ⟨_, rfl⟩
          rw [← hN] at hS1 hS2 hkN hN2 hmn
          have q1 : (0 : Int) ≤ (k : Int) := by omega
          have q2 : (k : Int) < (N : Int) := by omega
          have v1 : decide ((N : Int) < 2) = false := decide_eq_false (by omega)
          have hw : wr.drew.alloc (.cells #[.slice (some ⟨b, 0, none⟩) 256 c'] 31) = (wr.alloc (.cells #[.slice (some ⟨b, 0, none⟩) 256 c'] 31)).drew := rfl
          have hz : wr.drew.heap.size = wr.heap.size := rfl
          rw [hw] at hS2
          rw [hw, hz] at hS3 hfin
          clear hw hz
          obtain ⟨a0, a1, a2, af⟩ := hS1
          replace a0 : wr.cell? ⟨q, 0, none⟩ = some (.slice (some ⟨og, 0, none⟩) V oc) := a0
          replace a1 : wr.cell? ⟨og, I, none⟩ = some (.slice (some ⟨g, 0, none⟩) N c) := a1
          have S1 : Aside0 (wr.drew.cell? ⟨q, 0, none⟩ = some (.slice (some ⟨og, 0, none⟩) V oc) ∧ wr.drew.cell? ⟨g, k, none⟩ = some (.slice (some ⟨b, 0, none⟩) 256 c')) := ⟨⟨a0, a2⟩⟩
          have hSx : ∀ (W : World) (U : Value), OneAt W q og V oc I U g k (.slice (some ⟨b, 0, none⟩) 256 c') → W.cell? ⟨q, 0, none⟩ = some (.slice (some ⟨og, 0, none⟩) V oc) ∧ W.cell? ⟨g, k, none⟩ = some (.slice (some ⟨b, 0, none⟩) 256 c') := fun W U h => ⟨h.1, h.2.2.1⟩
          have S2 := Aside0.mk (hSx _ _ hS2)
          obtain ⟨_, kS, _, kF⟩ := hS2
          have S3 := Aside0.mk (hSx _ _ hS3)
          clear hSx
          have HF := Aside0.mk hfin
          have HRS := Aside0.mk hrs
          clear hp hget hmn hrs hlong hok2 hN hk hj hlV hS3 hfin hIv
          subst hk0
          go_wp2_with fail
          go_region_held3 (fun W => W.cell? ⟨q, 0, none⟩ = some (.slice (some ⟨og, 0, none⟩) V oc) ∧ W.cell? ⟨g, 0, none⟩ = some (.slice (some ⟨b, 0, none⟩) 256 c'))
            ((first | exact S1.out | exact S2.out | exact S3.out)) (fail)
          all_goals (
            go_wp2
            go_roundw
            case rel => exact ⟨I + 1, by go_num, hIV, by rw [HRS.out]; go_num, HF⟩
            case measure => simp only [RowKit.intOf]; omega)
    · have hIe : I = V := by omega
      subst hIe
      have u1 : decide ((I : Int) < (I : Int)) = false := decide_eq_false (by omega)
      obtain ⟨u, us, HR⟩ := HI.out.ref
      have hR := HR.refIs
      obtain ⟨c0, c1, c2, c3, fz⟩ := hR.cells
      have f1 := fz 1
      have f2 := fz 2
      obtain ⟨og, oc, hu⟩ := hR.form
      subst hu
      have hcr : ({ d with vals := Dsk.crashed picks 0 d.vals, off := false, left := -1 } : Dsk).Ok := by
        have h := crI_ok HOK.out picks (I := d.vals.length) (Nat.le_refl _)
        rw [crI_end] at h
        exact ⟨h.n1, h.n2, h.ne, h.sec, by show (-1 : Int) ≤ -1; omega, by show (-1 : Int) ≤ 9223372036854775807; omega, h.many⟩
      have hve : crI picks d.vals I = Dsk.crashed picks 0 d.vals := by rw [HV.out, crI_end]
      have hb := hR.blk
      have HF : Aside0 (St w0 ((wr.setCell ⟨q, 2, none⟩ (.bool false)).setCell ⟨q, 1, none⟩ (.int .i64 (-1))) (rRef q (d.crash picks) :: B :: L)) := ⟨by
        refine HR.setR (d.crash picks) hve.symm hcr ?_ ((Moved.cell0 _ _ _ _).cell _ _)
        unfold rObj at hb
        rw [heap_setCell_self (heap_setCell_self hb _)]
        have hl : (d.crash picks).vals.length = d.vals.length := crash_len d picks
        unfold rObj
        rfl⟩
      simp only [hlV] at c0
      clear HR hR hb fz hcr hve hj hlV
      go_wp2
      go_end0
      exact ⟨rfl, HF.out⟩
end
end Go.Proofs.Ytoojcgmdcbcenaa
