/- VersionSorts: swapRangeCmpFunc. -/
import Derived.Test.YtbikimkmkchkhaaDoorMASo1
import Derived.Deep.DrawnRows
namespace Go.Proofs.YtbikimkmkchkhaaDoor
open Go.RowKit Go.Proofs.YtbikimkmkchkhaaDoorW.PrintWords
attribute [local go_sem ↓] Go.wp_at_zero Go.wp_at_succ
set_option linter.unusedVariables false
set_option linter.unusedSimpArgs false
set_option maxRecDepth 100000

section
variable {w0 w : World} {g c : Nat} {l : List VE} {L : List Res}
/-- The world behind an exchange. -/
def xw (W : World) (g i j : Nat) (u v : VE) : World := (((W.setCell ⟨g, i * 2, none⟩ v.p0).setCell ⟨g, i * 2 + 1, none⟩ v.t0).setCell ⟨g, j * 2, none⟩ u.p0).setCell ⟨g, j * 2 + 1, none⟩ u.t0
theorem St.xchg {W : World} {P Q R : List VE} {u v : VE} (H : St w0 W (rVs g c (P ++ u :: (Q ++ v :: R)) :: L)) : W.cell? ⟨g, P.length * 2, none⟩ = some u.p0 ∧ W.cell? ⟨g, P.length * 2 + 1, none⟩ = some u.t0 ∧ W.cell? ⟨g, (P.length + (1 + Q.length)) * 2, none⟩ = some v.p0 ∧ W.cell? ⟨g, (P.length + (1 + Q.length)) * 2 + 1, none⟩ = some v.t0 ∧
    St w0 (xw W g P.length (P.length + (1 + Q.length)) u v) (rVs g c (P ++ v :: (Q ++ u :: R)) :: L) := by
  have e1 : (P ++ u :: (Q ++ v :: R))[P.length]? = some u := by simp
  have e2 : (P ++ u :: (Q ++ v :: R))[P.length + (1 + Q.length)]? = some v := by
    rw [List.getElem?_append_right (by omega)]
    simp only [Nat.add_sub_cancel_left]
    rw [Nat.add_comm 1, List.getElem?_cons_succ, List.getElem?_append_right (by omega)]
    simp
  obtain ⟨h1, g1⟩ := List.getElem?_eq_some_iff.1 e1
  obtain ⟨h2, g2⟩ := List.getElem?_eq_some_iff.1 e2
  have a := H.vsAt h1
  have b := H.vsAt h2
  rw [g1] at a
  rw [g2] at b
  have H1 := H.vsSet h1 v
  have H2 := H1.vsSet (i := P.length + (1 + Q.length)) (by rw [List.length_set]; exact h2) u
  refine ⟨a.1, a.2, b.1, b.2, ?_⟩
  have e : ((P ++ u :: (Q ++ v :: R)).set P.length v).set (P.length + (1 + Q.length)) u = P ++ v :: (Q ++ u :: R) := by
    rw [List.set_append_right _ _ (by omega), Nat.sub_self, List.set_cons_zero, List.set_append_right _ _ (by omega), Nat.add_sub_cancel_left, Nat.add_comm 1, List.set_cons_succ, List.set_append_right _ _ (by omega), Nat.sub_self, List.set_cons_zero]
  rw [e] at H2
  exact H2
def swR (X U M V Y : List VE) (K : Nat) : List VE := X ++ V.take K ++ U.drop K ++ M ++ U.take K ++ V.drop K ++ Y
theorem swR_form (X U M V Y : List VE) {K : Nat} (hU : K < U.length) (hV : K < V.length) : swR X U M V Y K = (X ++ V.take K) ++ U[K] :: ((U.drop (K + 1) ++ M ++ U.take K) ++ V[K] :: (V.drop (K + 1) ++ Y)) := by
  unfold swR
  rw [List.drop_eq_getElem_cons hU, List.drop_eq_getElem_cons hV]
  simp only [List.append_assoc, List.cons_append]
theorem swR_next (X U M V Y : List VE) {K : Nat} (hU : K < U.length) (hV : K < V.length) : swR X U M V Y (K + 1) = (X ++ V.take K) ++ V[K] :: ((U.drop (K + 1) ++ M ++ U.take K) ++ U[K] :: (V.drop (K + 1) ++ Y)) := by
  unfold swR
  rw [List.take_succ_eq_append_getElem hU, List.take_succ_eq_append_getElem hV]
  simp only [List.append_assoc, List.cons_append, List.nil_append]
set_option maxHeartbeats 4000000 in
theorem St.swapRange {X U M V Y : List VE} {N : Nat} (H : St w0 w (rVs g c (X ++ U ++ M ++ V ++ Y) :: L)) (hUV : U.length = V.length) (hN : (X ++ U ++ M ++ V ++ Y).length = N) (hN2 : N ≤ 1048576) (a b n : Nat) (ha : a = X.length) (hb : b = X.length + U.length + M.length) (hn : n = U.length) (cmp : Value) :
    Calls Tryd.prog 102 #[.slice (some ⟨g, 0, none⟩) N c, .int .i64 (a : Nat), .int .i64 (b : Nat), .int .i64 (n : Nat), cmp] w fun e w' => e = .returned (.tuple #[]) ∧ St w0 w' (rVs g c (X ++ V ++ M ++ U ++ Y) :: L) := by
  have hl0 : X.length + U.length + M.length + V.length + Y.length = N := by simp at hN; omega
  have hK : ∀ K, K ≤ n → (swR X U M V Y K).length = N := fun K h => by simp [swR]; omega
  have H0 : Aside0 (St w0 w (rVs g c (swR X U M V Y 0) :: L)) := ⟨by simpa [swR] using H⟩
  have HK := Aside0.mk hK
  have hr : Aside0 (a = X.length ∧ b = X.length + U.length + M.length ∧ n = U.length ∧ U.length = V.length) := ⟨⟨ha, hb, hn, hUV⟩⟩
  have hbn : b + n ≤ N := by omega
  have han : a + n ≤ b := by omega
  clear H hN hl0 hK ha hb hn hUV
  go_enter Tryd.func102, Tryd.ntmps102
  go_wp2_with fail
  go_loopw [10] (fun i W => ∃ K : Nat, i = .int .i64 (K : Int) ∧ K ≤ n ∧ Aside0 (St w0 W (rVs g c (swR X U M V Y K) :: L))) (fun i _ => n - (RowKit.intOf i).toNat)
  case atStart => exact ⟨0, rfl, Nat.zero_le _, H0⟩
  case round =>
    clear H0
    obtain ⟨K, rfl, hKn, HI⟩ := hrel
    by_cases hlt : K < n
    · have u1 : decide ((K : Int) < (n : Int)) = true := decide_eq_true (by omega)
      obtain ⟨ea, eb, en, euv⟩ := hr.out
      have hU : K < U.length := by omega
      have hV : K < V.length := by omega
      have H1 := HI.out.drew
      rw [swR_form X U M V Y hU hV] at H1
      obtain ⟨k0, k1, k2, k3, hfin⟩ := H1.xchg
      rw [← swR_next X U M V Y hU hV] at hfin
      obtain ⟨i, hi⟩ : ∃ i : Nat, i = (X ++ V.take K).length := ⟨_, rfl⟩
      obtain ⟨j, hj⟩ : ∃ j : Nat, j = (X ++ V.take K).length + (1 + (U.drop (K + 1) ++ M ++ U.take K).length) := ⟨_, rfl⟩
      rw [← hj, ← hi] at hfin
      rw [← hj] at k2 k3
      rw [← hi] at k0 k1
      have hf := H1.vsFree (by rw [List.length_append, List.length_cons]; omega)
      have ei : i = a + K := by rw [hi, ea]; simp; omega
      have ej : j = b + K := by rw [hj, eb]; simp; omega
      have wi1 : IntKind.i64.wrap ((a : Int) + (K : Int)) = (i : Int) := by rw [IntWalk.i64_in _ (by omega)]; omega
      have wi2 : IntKind.i64.wrap ((b : Int) + (K : Int)) = (j : Int) := by rw [IntWalk.i64_in _ (by omega)]; omega
      have q1 : (0 : Int) ≤ (i : Int) := by omega
      have q2 : (i : Int) < (N : Int) := by omega
      have q3 : (0 : Int) ≤ (j : Int) := by omega
      have q4 : (j : Int) < (N : Int) := by omega
      have hij : ¬ i = j := by omega
      have hji : ¬ j = i := by omega
      generalize U[K] = u at *
      generalize V[K] = v at *
      obtain ⟨uA, uc, up, ut⟩ := u
      obtain ⟨vA, vc, vp, vt⟩ := v
      simp only [VE.p0, VE.t0, xw] at k0 k1 k2 k3 hfin
      have HF := Aside0.mk hfin
      have hfi : wr.frozen? ⟨g, i * 2, none⟩ = false := hf (i * 2)
      have hfi1 : wr.frozen? ⟨g, i * 2 + 1, none⟩ = false := hf (i * 2 + 1)
      have hfj : wr.frozen? ⟨g, j * 2, none⟩ = false := hf (j * 2)
      have hfj1 : wr.frozen? ⟨g, j * 2 + 1, none⟩ = false := hf (j * 2 + 1)
      replace k0 : wr.cell? ⟨g, i * 2, none⟩ = some (.slice uA up.length uc) := k0
      replace k1 : wr.cell? ⟨g, i * 2 + 1, none⟩ = some (.string ut) := k1
      replace k2 : wr.cell? ⟨g, j * 2, none⟩ = some (.slice vA vp.length vc) := k2
      replace k3 : wr.cell? ⟨g, j * 2 + 1, none⟩ = some (.string vt) := k3
      clear hfin H1 hi hj ei ej ea eb en euv hf
      go_wp2_with fail
      go_region_law (fail)
      all_goals (
        go_wp2
        go_roundw
        case rel => exact ⟨K + 1, by go_num, hlt, HF⟩
        case measure => simp only [RowKit.intOf]; omega)
    · have hKe : K = n := by omega
      subst hKe
      have u1 : decide ((K : Int) < (K : Int)) = false := decide_eq_false (by omega)
      have HF : Aside0 (St w0 wr (rVs g c (X ++ V ++ M ++ U ++ Y) :: L)) := ⟨by
        obtain ⟨ea, eb, en, euv⟩ := hr.out
        have h := HI.out
        unfold swR at h
        rw [List.take_of_length_le (by omega), List.take_of_length_le (by omega), List.drop_of_length_le (by omega), List.drop_of_length_le (by omega), List.append_nil, List.append_nil] at h
        exact h⟩
      clear HI hr
      go_wp2
      go_end0
      exact ⟨rfl, HF.out⟩
end
end Go.Proofs.YtbikimkmkchkhaaDoor
