/- dirs.Check: a contract by hand, in the print's form. -/
import Derived.RangeFuncNested
import Derived.RangeFuncBound
import Derived.RangeFuncCalls
import Derived.RangeFuncLeaves
import Derived.RangeFuncBox
import Derived.Shelf.Abstract
import Derived.Shelf.RegionOpen
import Derived.WalkKit
import Derived.OwnWalkIn
import Derived.TacticsInMore
import Derived.LoopNIn
import Derived.LoopIn
import Derived.Maps.AppendAt
import Derived.Outline
import Derived.Deep.QuietTactic
import Derived.BigQuiet
import Derived.WalkSpells
import Derived.Deep.DeepFit
import Derived.Lib.Hide
import Derived.Lib.IndexBytes
import Derived.Test.YtcklpecjcebekaaShelf
import Derived.Test.YtcklpecjcebekaaSpec
import Derived.Test.YtcklpecjcebekaaPAllx0
namespace Go.Proofs.Ytcklpecjcebekaa.PAll
open Go.RowKit Go.Shelf Go.Lib Go.Proofs.Ytcklpecjcebekaa.Sp
attribute [local go_sem] Oper.semAt_some

/-- The closure in 'Check'. -/
theorem odd_gives (W : World) (r : Nat) : FnGives Try.prog 38 #[] #[encR r] (.bool (odd r)) W := by
  unfold FnGives
  by_cases h1 : (r : Int) < 33
  · have e : odd r = true := by simp [odd]; omega
    have e' := Lib.hid e; clear e
    rw [e'.out]
    have b1 : decide ((r : Int) < 33) = true := decide_eq_true h1
    go_enter Try.func38, Try.ntmps38
    go_wp2
    go_ret
    exact ⟨rfl, 0, rfl⟩
  · by_cases h2 : (126 : Int) < (r : Int)
    · have e : odd r = true := by simp [odd]; omega
      have e' := Lib.hid e; clear e
      rw [e'.out]
      have b1 : decide ((r : Int) < 33) = false := decide_eq_false h1
      have b2 : decide ((126 : Int) < (r : Int)) = true := decide_eq_true h2
      go_enter Try.func38, Try.ntmps38
      go_wp2
      go_ret
      exact ⟨rfl, 0, rfl⟩
    · have e : odd r = ((r : Int) == 47) := by
        have a1 : ¬ r < 33 := by omega
        have a2 : ¬ 126 < r := by omega
        simp [odd, a1, a2]; rw [Bool.eq_iff_iff]; simp; omega
      have e' := Lib.hid e; clear e
      rw [e'.out]
      have b1 : decide ((r : Int) < 33) = false := decide_eq_false h1
      have b2 : decide ((126 : Int) < (r : Int)) = false := decide_eq_false h2
      go_enter Try.func38, Try.ntmps38
      go_wp2
      go_ret
      exact ⟨rfl, 0, rfl⟩

def dirs_Check.f (a0 : ByteArray) : Option Int := some (if isName a0.data.toList then 0 else 71)
/-- dirs.Check. -/
theorem dirs_Check.calls (a0 : ByteArray) (r : Int) (w : World) (h : dirs_Check.f a0 = some r) :
    Calls Try.prog 23 #[.string a0] w fun e w' => e = .returned (.int .i64 r) ∧ Below w.heap.size w w' := by
  have hC := fun W => Try.strings_ContainsFunc 38 #[] (enters_of Try.func38 (by kernel_rfl) rfl) odd a0 W (fun W' r _ => odd_gives W' r)
  have HB := Lib.hid h; clear h
  go_enter Try.func23, Try.ntmps23
  go_wp2_with (go_at_call 39; refine (hC _).mono ?_; rintro e w' ⟨rfl, hb⟩)
  all_goals go_ret
  all_goals have hsz := Lib.size_eq a0
  all_goals refine ⟨?_, by first | assumption | exact Below.refl _ _⟩
  all_goals have HB := HB.out
  all_goals simp only [dirs_Check.f, Option.some.injEq] at HB
  all_goals rw [← HB]
  all_goals clear HB hC
  all_goals simp only [contains_odd, ← toList_data] at *
  all_goals first | (have h32 : a0.toList.length ≤ 32 := by omega) | (have h33 : ¬ a0.toList.length ≤ 32 := by omega) | skip
  all_goals simp [isName, *]
  · rename_i h
    have hc := contains_odd a0
    rw [← toList_data] at hc
    have h0 : 0 ≤ idxFunc odd true a0 := by
      rcases h with (((h | h) | h) | h) | h
      · simp_all
      · omega
      · simp_all
      · simp_all
      · exact h
    rw [decide_eq_true h0] at hc
    simpa using hc.symm
  · rename_i h
    have hc := contains_odd a0
    rw [← toList_data, decide_eq_false (by omega)] at hc
    simpa using hc.symm
end Go.Proofs.Ytcklpecjcebekaa.PAll
