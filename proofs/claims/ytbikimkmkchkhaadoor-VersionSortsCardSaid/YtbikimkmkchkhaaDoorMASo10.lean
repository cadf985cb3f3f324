/- VersionSorts: symMergeCmpFunc for all runs; blocks. -/
import Derived.Test.YtbikimkmkchkhaaDoorMASo9
namespace Go.Proofs.YtbikimkmkchkhaaDoor
open Go.RowKit Go.Proofs.YtbikimkmkchkhaaDoorW.PrintWords
set_option linter.unusedVariables false
set_option linter.unusedSimpArgs false

theorem merge_all (w0 : World) (g c : Nat) (L : List Res) : ∀ n, MergeSaid w0 g c L n
  | 0 => fun w X U V Y N a m b hn H hN hN2 hok hU hV htag hu hv ha hm hb => by omega
  | n + 1 => fun w X U V Y N a m b hn H hN hN2 hok hU hV htag hu hv ha hm hb => by
    by_cases h1 : U.length = 1
    · obtain ⟨u, rfl⟩ := List.length_eq_one_iff.1 h1
      have := St.symA (X := X) (V := V) (Y := Y) (u := u) (N := N) (by simpa using H) (by simpa using hN) hN2 (hok u (by simp)) (fun t ht => hok t (by simp [ht])) hV (fun v hv => htag u (by simp) v hv) a m b ha (by simpa using hm) hb
      exact this
    · by_cases h2 : V.length = 1
      · obtain ⟨v, rfl⟩ := List.length_eq_one_iff.1 h2
        exact St.symB (X := X) (U := U) (Y := Y) (v := v) (N := N) (by simpa using H) (by simpa using hN) hN2 (hok v (by simp)) (fun t ht => hok t (by simp [ht])) hU (fun u hu => htag u hu v (by simp)) (by omega) a m b ha hm (by simpa using hb)
      · exact merge_step (merge_all w0 g c L n) hn H hN hN2 hok hU hV htag (by omega) (by omega) ha hm hb
/-- Blocks of bs, each sorted; the last one may be short. -/
inductive Good (bs : Nat) : List TE → List TE → Prop
  | last (B W : List TE) : B.Perm W → Srt B → W.length ≤ bs → Good bs B W
  | cons (B W R T : List TE) : B.Perm W → Srt B → W.length = bs → Good bs R T → Good bs (B ++ R) (W ++ T)
/-- Blocks of bs, each whole and sorted. -/
inductive Full (bs : Nat) : List TE → List TE → Prop
  | nil : Full bs [] []
  | snoc (D T B W : List TE) : Full bs D T → B.Perm W → Srt B → W.length = bs → Full bs (D ++ B) (T ++ W)
theorem Good.perm {bs : Nat} {R T : List TE} (h : Good bs R T) : R.Perm T := by
  induction h with
  | last B W p _ _ => exact p
  | cons B W R T p _ _ _ ih => exact p.append ih
theorem Full.perm {bs : Nat} {R T : List TE} (h : Full bs R T) : R.Perm T := by
  induction h with
  | nil => exact List.Perm.refl _
  | snoc D T B W _ p _ _ ih => exact ih.append p
theorem Full.app {bs : Nat} {D T1 : List TE} (h : Full bs D T1) : ∀ {R T2 : List TE}, Good bs R T2 → Good bs (D ++ R) (T1 ++ T2) := by
  induction h with
  | nil => exact fun h => h
  | snoc D T B W _ p s l ih =>
    intro R T2 h
    rw [List.append_assoc, List.append_assoc]
    exact ih (Good.cons B W R T2 p s l h)
theorem Good.split {bs : Nat} {R T : List TE} (h : Good bs R T) (hl : bs ≤ R.length) : ∃ B R' W T', R = B ++ R' ∧ T = W ++ T' ∧ B.Perm W ∧ Srt B ∧ W.length = bs ∧ Good bs R' T' := by
  cases h with
  | last _ _ p s l =>
    have := p.length_eq
    exact ⟨R, [], T, [], by simp, by simp, p, s, by omega, Good.last [] [] (List.Perm.refl _) List.Pairwise.nil (by simp)⟩
  | cons B W R T p s l h => exact ⟨B, R, W, T, rfl, rfl, p, s, l, h⟩
theorem Good.one {bs : Nat} {R T : List TE} (h : Good bs R T) (hl : R.length ≤ bs) : R.Perm T ∧ Srt R := by
  cases h with
  | last _ _ p s l => exact ⟨p, s⟩
  | cons B W R T p s l h =>
    have h1 := p.length_eq
    have h2 : R = [] := List.eq_nil_of_length_eq_zero (by simp at hl; omega)
    have h3 := h.perm
    rw [h2] at h3
    have h4 := List.nil_perm.1 h3
    rw [h2, h4, List.append_nil, List.append_nil]
    exact ⟨p, s⟩
end Go.Proofs.YtbikimkmkchkhaaDoor
