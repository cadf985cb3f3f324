/- Texts of this claim, one behind the other: StrOrd. -/
import Derived.Laws.Strings
import Derived.Sort.Walk0
section
/- The order of strings, as the print spells it. -/
namespace Go.Proofs.YtbikimkmkchkhaaGreatDoor
open Go

theorem less_iff (a b : List UInt8) : Op.bytesLess a b = decide (a < b) := bytesLess_eq a b
theorem leq_swap (a b : List UInt8) : (Op.bytesLess a b || a == b) = !Op.bytesLess b a := by
  rw [less_iff, less_iff]
  by_cases h : b < a
  · have h1 : ¬ a < b := List.lt_asymm h
    have h2 : ¬ a = b := by rintro rfl; exact List.lt_irrefl _ h
    simp [h, h1, h2]
  · have h1 : a ≤ b := List.not_lt.1 h
    rcases List.le_iff_lt_or_eq.1 h1 with h2 | h2
    · simp [h, h2]
    · subst h2; simp [h]
theorem str_leq (t : TypeId) (a b : ByteArray) : binOp .leq t (.string a) (.string b) = pure (.bool !(Op.bytesLess b.toList a.toList)) := by rw [← leq_swap]; simp [binOp, Op.stringOp]
theorem str_gtr (t : TypeId) (a b : ByteArray) : binOp .gtr t (.string a) (.string b) = pure (.bool (Op.bytesLess b.toList a.toList)) := by rw [← Bool.not_not (Op.bytesLess b.toList a.toList), ← leq_swap]; simp [binOp, Op.stringOp]
theorem str_geq (t : TypeId) (a b : ByteArray) : binOp .geq t (.string a) (.string b) = pure (.bool !(Op.bytesLess a.toList b.toList)) := by simp [binOp, Op.stringOp]
end Go.Proofs.YtbikimkmkchkhaaGreatDoor
end
