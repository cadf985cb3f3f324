/- VersionSorts: rotateCmpFunc. -/
import Derived.Test.YtbikimkmkchkhaaDoorMASo2
namespace Go.Proofs.YtbikimkmkchkhaaDoor
open Go.RowKit Go.Proofs.YtbikimkmkchkhaaDoorW.PrintWords
attribute [local go_sem ↓] Go.wp_at_zero Go.wp_at_succ
set_option linter.unusedVariables false
set_option linter.unusedSimpArgs false
set_option maxRecDepth 100000

theorem wrap_in {n : Int} (h1 : -9223372036854775808 ≤ n) (h2 : n ≤ 9223372036854775807) : wrap64 n = n := by unfold wrap64; omega
theorem w_sub' {x y z : Nat} (h : y + z = x) : (x : Int) - (y : Int) = (z : Int) := by omega
theorem w_id {z : Nat} (hz : z ≤ 4611686018427387904) : wrap64 (z : Int) = (z : Int) := wrap_in (by omega) (by omega)
theorem w_sub {x y z : Nat} (h : y + z = x) (hx : x ≤ 4611686018427387904) : wrap64 ((x : Int) - (y : Int)) = (z : Int) := by rw [w_sub' h]; exact w_id (by omega)
theorem w_add' {x y z : Nat} (h : x + y = z) : (x : Int) + (y : Int) = (z : Int) := by omega
theorem w_add {x y z : Nat} (h : x + y = z) (hz : z ≤ 4611686018427387904) : wrap64 ((x : Int) + (y : Int)) = (z : Int) := by rw [w_add' h]; exact w_id hz
section
variable {w0 w : World} {g c : Nat} {l : List VE} {L : List Res}
/-- Two neighbouring parts change places. -/
def RotAt (T : List VE) (m i j : Nat) (l : List VE) : Prop := ∃ P U V S : List VE, l = P ++ U ++ V ++ S ∧ P.length + i = m ∧ U.length = i ∧ V.length = j ∧ T = P ++ V ++ U ++ S
theorem RotAt.one {T l : List VE} {m i j : Nat} (h : RotAt T m i j l) (hij : j < i) : ∃ P U1 V U2 S : List VE, l = P ++ U1 ++ U2 ++ V ++ S ∧ U1.length = V.length ∧ m - i = P.length ∧ m = P.length + U1.length + U2.length ∧ j = U1.length ∧ RotAt T m (i - j) j (P ++ V ++ U2 ++ U1 ++ S) := by
  obtain ⟨P, U, V, S, rfl, h1, h2, h3, h4⟩ := h
  refine ⟨P, U.take j, V, U.drop j, S, ?_, ?_, by omega, ?_, ?_, ?_⟩
  · rw [List.append_assoc P (U.take j), List.take_append_drop]
  · simp; omega
  · simp; omega
  · simp; omega
  · refine ⟨P ++ V, U.drop j, U.take j, S, rfl, by simp; omega, by simp; omega, by simp; omega, ?_⟩
    rw [h4, List.append_assoc (P ++ V) (U.take j), List.take_append_drop]
theorem RotAt.two {T l : List VE} {m i j : Nat} (h : RotAt T m i j l) (hij : i < j) : ∃ P U V1 V2 S : List VE, l = P ++ U ++ V1 ++ V2 ++ S ∧ U.length = V2.length ∧ m - i = P.length ∧ m + j - i = P.length + U.length + V1.length ∧ i = U.length ∧ RotAt T m i (j - i) (P ++ V2 ++ V1 ++ U ++ S) := by
  obtain ⟨P, U, V, S, rfl, h1, h2, h3, h4⟩ := h
  refine ⟨P, U, V.take (j - i), V.drop (j - i), S, ?_, ?_, by omega, ?_, h2.symm, ?_⟩
  · rw [List.append_assoc (P ++ U) (V.take (j - i)), List.take_append_drop]
  · simp; omega
  · simp; omega
  · refine ⟨P, V.drop (j - i), V.take (j - i), U ++ S, by simp only [List.append_assoc], by omega, by simp; omega, by simp; omega, ?_⟩
    rw [h4]
    conv => lhs; rw [← List.take_append_drop (j - i) V]
    simp only [List.append_assoc]
theorem RotAt.end_ {T l : List VE} {m i : Nat} (h : RotAt T m i i l) : ∃ P U V S : List VE, l = P ++ U ++ [] ++ V ++ S ∧ U.length = V.length ∧ m - i = P.length ∧ m = P.length + U.length + ([] : List VE).length ∧ i = U.length ∧ T = P ++ V ++ [] ++ U ++ S := by
  obtain ⟨P, U, V, S, rfl, h1, h2, h3, h4⟩ := h
  exact ⟨P, U, V, S, by simp, by omega, by omega, by simp; omega, by omega, by simp [h4]⟩
theorem RotAt.len {T l : List VE} {m i j : Nat} (h : RotAt T m i j l) : l.length = T.length ∧ m + j ≤ T.length ∧ i ≤ m := by
  obtain ⟨P, U, V, S, rfl, h1, h2, h3, h4⟩ := h
  subst h4
  simp
  omega
set_option maxHeartbeats 600000 in
theorem St.rotate {X U V Y : List VE} {N : Nat} (H : St w0 w (rVs g c (X ++ U ++ V ++ Y) :: L)) (hN : (X ++ U ++ V ++ Y).length = N) (hN2 : N ≤ 1048576) (a m b : Nat) (ha : a = X.length) (hm : m = X.length + U.length) (hb : b = X.length + U.length + V.length) (hU : 0 < U.length) (hV : 0 < V.length) (cmp : Value) :
    Calls Tryd.prog 88 #[.slice (some ⟨g, 0, none⟩) N c, .int .i64 (a : Nat), .int .i64 (m : Nat), .int .i64 (b : Nat), cmp] w fun e w' => e = .returned (.tuple #[]) ∧ St w0 w' (rVs g c (X ++ V ++ U ++ Y) :: L) := by
  have hR : RotAt (X ++ V ++ U ++ Y) m (m - a) (b - m) (X ++ U ++ V ++ Y) := ⟨X, U, V, Y, rfl, by omega, by omega, by omega, rfl⟩
  have hTN : (X ++ V ++ U ++ Y).length = N := by simp at hN ⊢; omega
  generalize X ++ V ++ U ++ Y = T at *
  have hamb : a < m ∧ m < b ∧ b ≤ N := by simp at hN; omega
  generalize X ++ U ++ V ++ Y = l0 at *
  obtain ⟨i0, hi0⟩ : ∃ i0 : Nat, i0 = m - a := ⟨_, rfl⟩
  obtain ⟨j0, hj0⟩ : ∃ j0 : Nat, j0 = b - m := ⟨_, rfl⟩
  rw [← hi0, ← hj0] at hR
  have hi1 : 0 < i0 := by omega
  have hj1 : 0 < j0 := by omega
  have H0 := Aside0.mk H
  have HR := Aside0.mk hR
  have HT := Aside0.mk hTN
  have hmN : m ≤ N := by omega
  have e1 : a + i0 = m := by omega
  have e2 : m + j0 = b := by omega
  have hmB : m ≤ 4611686018427387904 := by omega
  have hbB : b ≤ 4611686018427387904 := by omega
  clear H hR hN ha hm hb hU hV hTN hamb hi0 hj0
  go_enter Tryd.func88, Tryd.ntmps88
  go_wp2_with fail
  go_loopw [10, 11] (fun vi vj W => ∃ (i j : Nat) (l : List VE), vi = .int .i64 (i : Int) ∧ vj = .int .i64 (j : Int) ∧ 0 < i ∧ 0 < j ∧ Aside0 (RotAt T m i j l) ∧ Aside0 (St w0 W (rVs g c l :: L))) (fun vi vj _ => (RowKit.intOf vi).toNat + (RowKit.intOf vj).toNat)
  case atStart => exact ⟨i0, j0, l0, by first | rfl | (congr 1; omega), by first | rfl | (congr 1; omega), hi1, hj1, HR, H0⟩
  case round =>
    clear H0 HR e1 e2
    obtain ⟨i, j, l, rfl, rfl, hi, hj, HR, HI⟩ := hrel
    have hlen := HR.out.len
    rw [HT.out] at hlen
    obtain ⟨hl1, hl2, hl3⟩ := hlen
    have HL := Aside0.mk hl1
    clear hl1 hmB hbB
    by_cases hlt : j < i
    · have b1 : ((i : Int) != (j : Int)) = true := by simp; omega
      have b2 : decide ((j : Int) < (i : Int)) = true := decide_eq_true (by omega)
      obtain ⟨P, U1, V', U2, S, hlf, h1, h2, h3, h4, h5⟩ := HR.out.one hlt
      have H1 := HI.out
      rw [hlf] at H1
      have hc := H1.swapRange (N := N) h1 (by rw [← hlf]; exact HL.out) hN2 (m - i) m j h2 h3 h4 cmp
      obtain ⟨mi, hmi⟩ : ∃ mi, mi = m - i := ⟨_, rfl⟩
      obtain ⟨ij, hij⟩ : ∃ ij, ij = i - j := ⟨_, rfl⟩
      rw [← hmi] at hc
      rw [← hij] at h5
      have e1 : i + mi = m := by omega
      have e2 : j + ij = i := by omega
      have B1 : m ≤ 4611686018427387904 := by omega
      have B2 : i ≤ 4611686018427387904 := by omega
      have hij0 : 0 < ij := by omega
      have HC := Aside0.mk hc
      have H5 := Aside0.mk h5
      clear hc H1 h1 h2 h3 h4 h5 hlf HI HR hmi hij hl2 hl3 hmN hN2
      have w1 := w_sub e1 B1
      clear e1 B1
      go_wp2_with fail
      refine HC.out.mono ?_
      rintro e W2 ⟨rfl, H2⟩
      have H2 := Aside0.mk H2
      clear HC w1
      go_wp2
      go_roundw
      case rel => exact ⟨ij, j, _, by congr 1; omega, rfl, hij0, hj, H5, H2⟩
      case measure => simp only [RowKit.intOf]; omega
    · by_cases hlt2 : i < j
      · have b1 : ((i : Int) != (j : Int)) = true := by simp; omega
        have b2 : decide ((j : Int) < (i : Int)) = false := decide_eq_false (by omega)
        obtain ⟨P, U1, V1, V2, S, hlf, h1, h2, h3, h4, h5⟩ := HR.out.two hlt2
        have H1 := HI.out
        rw [hlf] at H1
        have hc := H1.swapRange (N := N) h1 (by rw [← hlf]; exact HL.out) hN2 (m - i) (m + j - i) i h2 h3 h4 cmp
        obtain ⟨mi, hmi⟩ : ∃ mi, mi = m - i := ⟨_, rfl⟩
        obtain ⟨mj, hmj⟩ : ∃ mj, mj = m + j := ⟨_, rfl⟩
        obtain ⟨mji, hmji⟩ : ∃ mji, mji = m + j - i := ⟨_, rfl⟩
        obtain ⟨ji, hji⟩ : ∃ ji, ji = j - i := ⟨_, rfl⟩
        rw [← hmi, ← hmji] at hc
        rw [← hji] at h5
        have e1 : i + mi = m := by omega
        have e2 : m + j = mj := by omega
        have e3 : i + mji = mj := by omega
        have e4 : i + ji = j := by omega
        have B1 : m ≤ 4611686018427387904 := by omega
        have B2 : mj ≤ 4611686018427387904 := by omega
        have B6 : j ≤ 4611686018427387904 := by omega
        have HC := Aside0.mk hc
        have H5 := Aside0.mk h5
        have hji0 : 0 < ji := by omega
        clear hc H1 h1 h2 h3 h4 h5 hlf HI HR hmi hmj hmji hji hl2 hl3 hmN hN2
        have w1 := w_sub e1 B1
        have w2 := w_add e2 B2
        have w3 := w_sub e3 B2
        clear e1 e2 e3 B1 B2
        go_wp2_with fail
        refine HC.out.mono ?_
        rintro e W2 ⟨rfl, H2⟩
        have H2 := Aside0.mk H2
        clear HC w1 w2 w3
        go_wp2
        go_roundw
        case rel => exact ⟨i, ji, _, rfl, by congr 1; omega, hi, hji0, H5, H2⟩
        case measure => simp only [RowKit.intOf]; omega
      · have hije : i = j := by omega
        subst hije
        have b1 : ((i : Int) != (i : Int)) = false := by simp
        obtain ⟨P, U1, V1, S, hlf, h1, h2, h3, h4, h5⟩ := HR.out.end_
        have H1 := HI.out
        rw [hlf] at H1
        have hc := H1.swapRange (N := N) h1 (by rw [← hlf]; exact HL.out) hN2 (m - i) m i h2 h3 h4 cmp
        rw [← h5] at hc
        obtain ⟨mi, hmi⟩ : ∃ mi, mi = m - i := ⟨_, rfl⟩
        rw [← hmi] at hc
        have e1 : i + mi = m := by omega
        have B1 : m ≤ 4611686018427387904 := by omega
        have HC := Aside0.mk hc
        clear hc H1 h1 h2 h3 h4 h5 hlf HI HR hmi hl2 hl3 hmN hN2
        have w1 := w_sub e1 B1
        clear e1 B1
        go_wp2_with fail
        refine HC.out.mono ?_
        rintro e W2 ⟨rfl, H2⟩
        have H2 := Aside0.mk H2
        clear HC w1
        go_wp2
        go_end0
        exact ⟨rfl, H2.out⟩
end
end Go.Proofs.YtbikimkmkchkhaaDoor
