/- The law HeadWithin in plain Lean, and its call. -/
import Derived.Test.YteblbggmchcijaaDoorMA17
import Derived.Test.YteblbggmchcijaaDoorMAPAllx69
import Derived.Test.YteblbggmchcijaaDoorMAOpens
namespace Go.Proofs.YteblbggmchcijaaDoor.PAll
open Go.RowKit Go.Lib Go.Proofs.YteblbggmchcijaaDoor Go.Proofs.YteblbggmchcijaaDoorW.PrintWords Go.Proofs.YteblbggmchcijaaDoorW.PrintLast Go.Proofs.YteblbggmchcijaaDoorW.PrintMore
set_option linter.unusedVariables false
set_option linter.unusedSimpArgs false

theorem within_pure (l : List Int) (hb : AreBytes l) : sutlerlaw13_HeadWithin.f l = some true := by
  simp only [sutlerlaw13_HeadWithin.f, sutlerlaw13_works.f, Option.bind_some, if_true, head_Parse.at l hb]
  unfold parseP
  by_cases h1 : ¬ l.length = 512 ∨ ¬ (strOfNums (fldL l 9)).toList = ustar.toList
  · rw [if_pos h1]; decide +kernel
  rw [if_neg h1]
  have hl : l.length = 512 := Classical.byContradiction fun h => h1 (Or.inl h)
  by_cases h2 : ¬ (octP (fldL l 1)).2 = 0 ∨ ¬ (octP (fldL l 4)).2 = 0 ∨ ¬ (octP (fldL l 6)).2 = 0
  · rw [if_pos h2]; decide +kernel
  rw [if_neg h2]
  by_cases h3 : ¬ (octP (fldL l 6)).1 = sumTo l 512 ∨ 262144 < (octP (fldL l 4)).1 ∨ (textL (fldL l 0)).toList = []
  · rw [if_pos h3]; decide +kernel
  rw [if_neg h3]
  have l0 := fldL_length hl 0 (by omega)
  have l8 := fldL_length hl 8 (by omega)
  have l10 := fldL_length hl 10 (by omega)
  have z0 := textL_size (fldL l 0)
  have z8 := textL_size (fldL l 8)
  have z10 := textL_size (fldL l 10)
  have f0 : fldSz 0 = 100 := rfl
  have f8 : fldSz 8 = 100 := rfl
  have f10 : fldSz 10 = 155 := rfl
  have h0 : ¬ (textL (fldL l 0)).toList = [] := fun h => h3 (Or.inr (Or.inr h))
  have h4 : ¬ 262144 < (octP (fldL l 4)).1 := fun h => h3 (Or.inr (Or.inl h))
  have r4 := octP_range (fldL l 4)
  have r1 := octP_range (fldL l 1)
  have hs0 : ¬ (slash (textL (fldL l 10)) (textL (fldL l 0))).toList = [] := by
    unfold slash
    split
    · exact h0
    · intro h
      have := congrArg List.length h
      rw [show ∀ b : ByteArray, b.toList.length = b.size from fun b => by rw [ByteArray.toList_eq]; exact Array.length_toList] at this
      rw [ByteArray.size_append, ByteArray.size_append] at this
      have e : (⟨#[47]⟩ : ByteArray).size = 1 := rfl
      simp only [List.length_nil] at this
      omega
  have hsz : (slash (textL (fldL l 10)) (textL (fldL l 0))).size ≤ 256 := by
    unfold slash
    split
    · omega
    · rw [ByteArray.size_append, ByteArray.size_append]
      have e : (⟨#[47]⟩ : ByteArray).size = 1 := rfl
      omega
  have hm : 0 ≤ bits .and .i64 (octP (fldL l 1)).1 4095 ∧ bits .and .i64 (octP (fldL l 1)).1 4095 ≤ 4095 := by
    rw [and4095 _ r1.1 r1.2, Int.tmod_eq_emod_of_nonneg r1.1]
    omega
  have hk : kindOf (rd l 156) ≠ 0 := by unfold kindOf; split <;> omega
  simp only []
  rw [if_pos trivial, if_neg hs0, if_pos (by omega), if_pos (by omega), if_pos hm.1, if_pos hm.2, if_pos r4.1, if_pos (by omega)]
  simp [hk]
theorem within_walk (A : Option Addr) (c : Nat) (l : List Int) (W : World) (hC : Kd.C (Kd.int .u8) W A l.length l) (hle : l.length ≤ c) (hG : l.length * 1 ≤ reachBytes ∧ ∀ y ∈ l, (Lit.int .u8 y).wf = true) (hF : Fields W) :
    Calls Tryd.prog 8 #[.slice A l.length c] W fun e w' => e = .returned (.bool true) ∧ Below W.heap.size W w' :=
  sutlerlaw13_HeadWithin.calls A c l true W hC hle (within_pure l (are_bytes hG.2)) hF
end Go.Proofs.YteblbggmchcijaaDoor.PAll
