/- Crash and Image at a disk that no call made. -/
import Derived.Test.YtoojcgmdcbcenaaC
import Derived.Laws.IdiomRangeMap
import Derived.Deep.LoopGhost
namespace Go.Proofs.Ytoojcgmdcbcenaa
open Go.RowKit Go.Proofs.YtoojcgmdcbcenaaW.PrintWords
set_option linter.unusedVariables false
set_option linter.unusedSimpArgs false
set_option maxRecDepth 100000

theorem crash_none {w : World} {P : Option Addr} (h : ∀ o, IsNo P (w.alloc o)) (A : Option Addr) (n c : Nat) : Calls Try.prog 17 #[.pointer P, .slice A n c] w fun e w' => e = .returned (.int .i64 1) ∧ Below w.heap.size w w' := by
  have hB := fun o => (Below.refl w.heap.size w).alloc (Nat.le_refl _) o
  go_enter Try.func17, Try.ntmps17
  go_wp2_with fail
  refine (h _).mono ?_
  rintro e w1 ⟨rfl, rfl⟩
  go_wp2
  go_ret
  exact ⟨rfl, hB _⟩
theorem image_none {w : World} {P : Option Addr} (h : IsNo P w) : Calls Try.prog 13 #[.pointer P] w fun e w' => e = .returned (.slice none 0 0) ∧ Below w.heap.size w w' := by
  have h1 := sure_none h
  have h2 := written_none h
  have hr := run_range_nilMap (P := Try.prog) w 51 3 3 Try.underlying51
  have hn := fun ty => run_next_nilMap (P := Try.prog) w ty 0 0 #[]
  have hB := (Below.refl w.heap.size w).alloc (Nat.le_refl _) (.mapIter none 0 #[] 0)
  go_enter Try.func13, Try.ntmps13
  go_wp2_with fail
  refine h1.mono ?_
  rintro e w1 ⟨rfl, rfl⟩
  go_wp2_with fail
  refine h2.mono ?_
  rintro e w2 ⟨rfl, rfl⟩
  go_wp2
  go_loopg [] 0 (fun g1 wr => wr = w2.alloc (.mapIter none 0 #[] 0))
  case atStart => rfl
  case round =>
    go_wp2
    go_ret
    exact ⟨rfl, hB⟩
end Go.Proofs.Ytoojcgmdcbcenaa
