/- The law DirsStay, in plain Lean. -/
import Derived.Test.YtcklpecjcebekaaPure1
import Derived.Test.YtcklpecjcebekaaPure2
import Derived.Test.YtcklpecjcebekaaPAllx23
namespace Go.Proofs.Ytcklpecjcebekaa.PAll
open Go.RowKit Go.Lib Go.Proofs.YtcklpecjcebekaaW.PrintWords Go.Proofs.Ytcklpecjcebekaa Go.Proofs.Ytcklpecjcebekaa.Sp

theorem none_named {p : S37 → Bool} {l : List S37} (h : idxL p l < 0) : ∀ x ∈ l, p x = false := by
  unfold idxL at h
  cases h' : l.findIdx? p with
  | some i => rw [h'] at h; simp at h; omega
  | none => exact List.findIdx?_eq_none_iff.1 h'
theorem less_nil {s : ByteArray} (h : isName s.data.toList = true) : Op.bytesLess [] s.toList = true := by
  rw [toList_data]
  cases h' : s.data.toList with
  | nil => rw [h'] at h; revert h; decide
  | cons c r => rfl
theorem works_ev : Ev sutlerlaw07_works.f true := Ev.of (g := sutlerlaw07_works.f) sutlerlaw07_works.mono (k := 10) works_ten

theorem stay_j0 (l : List S37) (s : ByteArray) (hl : rightL l = true) (k : Nat) : sutlerlaw07_DirsStay.j0 (k + 1) l s = some true := by
  simp only [sutlerlaw07_DirsStay.j0]
  have hl2 := hl
  simp only [rightL, Bool.and_eq_true, decide_eq_true_eq] at hl2
  unfold dirs_Remove.f
  by_cases h1 : isName s.data.toList = false
  · rw [if_pos h1]; simp
  · rw [if_neg h1]
    dsimp only
    by_cases h2 : idxL (fun x => x.f0.toList == s.toList) l < 0
    · rw [if_pos h2]; simp
    · rw [if_neg h2, if_neg (by omega)]
      obtain ⟨i1, i2⟩ := idx_lt h2
      obtain ⟨j, hj⟩ : ∃ j, j = (idxL (fun x => x.f0.toList == s.toList) l).toNat := ⟨_, rfl⟩
      rw [← hj] at i1 ⊢
      have hr : rightL (l.take j ++ l.drop (j + 1)) = true := by
        simp only [rightL, Bool.and_eq_true, decide_eq_true_eq]
        exact ⟨cut_right j hl2.1, by simp; omega⟩
      have hlen : (l.take j ++ l.drop (j + 1)).length = l.length - 1 := by simp; omega
      simp only [Option.bind_some, if_true, dirs_Print.f, hr]
      rw [if_pos]
      rw [hlen]; unfold wrap64; omega
theorem stay_f (l : List S37) (s : ByteArray) (n : Int) : Ev (fun k => sutlerlaw07_DirsStay.f k l s n) true := by
  obtain ⟨K, hK⟩ := works_ev
  refine ⟨K + 1, fun k hk => ?_⟩
  obtain ⟨m, rfl⟩ : ∃ m, k = m + 1 := ⟨k - 1, by omega⟩
  have hw : sutlerlaw07_works.f (m + 1) = some true := hK (m + 1) (by omega)
  clear hK hk
  simp only [sutlerlaw07_DirsStay.f, hw, Option.bind_some, if_true]
  unfold dirs_Print.f
  cases hl : rightL l with
  | false => simp
  | true =>
    have hl2 := hl
    simp only [rightL, Bool.and_eq_true, decide_eq_true_eq] at hl2
    simp only [if_true, Option.bind_some]
    have hj : sutlerlaw07_DirsStay.j0 (m + 1) l s = some true := stay_j0 l s hl m
    generalize sutlerlaw07_DirsStay.j0 (m + 1) l s = J at hj ⊢
    subst hj
    unfold dirs_Add.f
    by_cases c1 : isName s.data.toList = false
    · rw [if_pos c1]; simp only [Option.bind_some]; rw [if_neg (by decide)]
    rw [if_neg c1]
    by_cases c2 : ¬ (0 ≤ n ∧ n ≤ 65535)
    · rw [if_pos c2]; simp only [Option.bind_some]; rw [if_neg (by decide)]
    rw [if_neg c2]
    by_cases c3 : ¬ idxL (fun x => x.f0.toList == s.toList) l < 0
    · rw [if_pos c3]; simp only [Option.bind_some]; rw [if_neg (by decide)]
    rw [if_neg c3]
    by_cases c4 : 256 ≤ l.length
    · rw [if_pos c4]; simp only [Option.bind_some]; rw [if_neg (by decide)]
    rw [if_neg c4]
    have c1' : isName s.data.toList = true := by simpa using c1
    have hr : rightL (l.take (slot l s) ++ ⟨s, n⟩ :: l.drop (slot l s)) = true := by
      have hlen := ins_length l s n
      simp only [rightL, Bool.and_eq_true, decide_eq_true_eq]
      refine ⟨ins_right hl2.1 (less_nil c1') c1' (by simp [okInode]; omega) (fun x hx => ?_), ?_⟩
      · have := none_named (Decidable.not_not.1 c3) x hx
        simpa using this
      · show (ins l s n).length ≤ 256
        omega
    have hlen : (l.take (slot l s) ++ ⟨s, n⟩ :: l.drop (slot l s)).length = l.length + 1 := ins_length l s n
    have hc : ((l.take (slot l s) ++ ⟨s, n⟩ :: l.drop (slot l s)).length : Int) = wrap64 ((l.length : Int) + 1) := by
      rw [hlen]; unfold wrap64; omega
    simp only [Option.bind_some, if_true, hr, hc]
#print axioms stay_f
end Go.Proofs.Ytcklpecjcebekaa.PAll
