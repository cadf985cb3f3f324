/- Texts of this claim, one behind the other: D. -/
import Derived.Test.YtfhdiddlloiglaaDoorMA8
import Derived.Laws.IdiomRangeMap
import Derived.Deep.LoopGhost
section
/- Crash and Image at a disk that no call made. -/
namespace Go.Proofs.YtfhdiddlloiglaaDoor
open Go.RowKit Go.Proofs.YtfhdiddlloiglaaDoorW.PrintWords
set_option linter.unusedVariables false
set_option linter.unusedSimpArgs false
set_option maxRecDepth 100000

theorem crash_none {w : World} {P : Option Addr} (h : ∀ o, IsNo P (w.alloc o)) (A : Option Addr) (n c : Nat) : Calls Tryd.prog 21 #[.pointer P, .slice A n c] w fun e w' => e = .returned (.int .i64 1) ∧ Below w.heap.size w w' := by
  have hB := fun o => (Below.refl w.heap.size w).alloc (Nat.le_refl _) o
  go_enter Tryd.func21, Tryd.ntmps21
  go_wp2_with fail
  refine (h _).mono ?_
  rintro e w1 ⟨rfl, rfl⟩
  go_wp2
  go_ret
  exact ⟨rfl, hB _⟩
theorem image_none {w : World} {P : Option Addr} (h : IsNo P w) : Calls Tryd.prog 24 #[.pointer P] w fun e w' => e = .returned (.slice none 0 0) ∧ Below w.heap.size w w' := by
  have h1 := sure_none h
  have h2 := written_none h
  have hr := run_range_nilMap (P := Tryd.prog) w 81 3 3 Tryd.underlying81
  have hn := fun ty => run_next_nilMap (P := Tryd.prog) w ty 0 0 #[]
  have hB := (Below.refl w.heap.size w).alloc (Nat.le_refl _) (.mapIter none 0 #[] 0)
  go_enter Tryd.func24, Tryd.ntmps24
  go_wp2_with fail
  refine h1.mono ?_
  rintro e w1 ⟨rfl, rfl⟩
  go_wp2_with fail
  refine h2.mono ?_
  rintro e w2 ⟨rfl, rfl⟩
  go_wp2
  go_loopg [] 0 (fun g1 wr => wr = w2.alloc (.mapIter none 0 #[] 0))
  case atStart => rfl
  case round =>
    go_wp2
    go_ret
    exact ⟨rfl, hB⟩
end Go.Proofs.YtfhdiddlloiglaaDoor
end
