/- Texts of this claim, one behind the other: C. -/
import Derived.Test.YtfhdiddlloiglaaDoorMA4
import Derived.Below
section
/- The methods at a disk that no call made. -/
namespace Go.Proofs.YtfhdiddlloiglaaDoor
open Go.RowKit Go.Proofs.YtfhdiddlloiglaaDoorW.PrintWords
set_option linter.unusedVariables false
set_option linter.unusedSimpArgs false
set_option maxRecDepth 100000

abbrev IsNo (P : Option Addr) (w : World) : Prop := Calls Tryd.prog 47 #[.pointer P] w fun e w' => e = .returned (.bool false) ∧ w' = w
theorem look_none {w : World} {P : Option Addr} (h : IsNo P w) (at_ : Int) : Calls Tryd.prog 44 #[.pointer P, .int .i64 at_] w fun e w' => e = .returned (.int .i64 1) ∧ w' = w := by
  go_enter Tryd.func44, Tryd.ntmps44
  go_wp2_with fail
  refine h.mono ?_
  rintro e w1 ⟨rfl, rfl⟩
  go_wp2
  go_ret
  exact ⟨rfl, rfl⟩
theorem read_none {w : World} {P : Option Addr} (h : IsNo P w) (at_ : Int) : Calls Tryd.prog 19 #[.pointer P, .int .i64 at_] w fun e w' => e = .returned (.tuple #[.slice none 0 0, .int .i64 1]) ∧ w' = w := by
  have hl := look_none h at_
  go_enter Tryd.func19, Tryd.ntmps19
  go_wp2_with fail
  refine hl.mono ?_
  rintro e w1 ⟨rfl, rfl⟩
  go_wp2
  go_ret2
  exact ⟨rfl, rfl⟩
theorem write_none {w : World} {P : Option Addr} (h : IsNo P w) (at_ : Int) (A : Option Addr) (n c : Nat) : Calls Tryd.prog 41 #[.pointer P, .int .i64 at_, .slice A n c] w fun e w' => e = .returned (.int .i64 1) ∧ w' = w := by
  have hl := look_none h at_
  go_enter Tryd.func41, Tryd.ntmps41
  go_wp2_with fail
  refine hl.mono ?_
  rintro e w1 ⟨rfl, rfl⟩
  go_wp2
  go_ret
  exact ⟨rfl, rfl⟩
theorem sync_none {w : World} {P : Option Addr} (h : IsNo P w) : Calls Tryd.prog 42 #[.pointer P] w fun e w' => e = .returned (.int .i64 1) ∧ w' = w := by
  go_enter Tryd.func42, Tryd.ntmps42
  go_wp2_with fail
  refine h.mono ?_
  rintro e w1 ⟨rfl, rfl⟩
  go_wp2
  go_ret
  exact ⟨rfl, rfl⟩
theorem limit_none {w : World} {P : Option Addr} (h : IsNo P w) (n : Int) : Calls Tryd.prog 20 #[.pointer P, .int .i64 n] w fun e w' => e = .returned (.tuple #[]) ∧ w' = w := by
  go_enter Tryd.func20, Tryd.ntmps20
  go_wp2_with fail
  refine h.mono ?_
  rintro e w1 ⟨rfl, rfl⟩
  go_wp2
  go_end0
  exact ⟨rfl, rfl⟩
theorem pending_none {w : World} {P : Option Addr} (h : IsNo P w) : Calls Tryd.prog 25 #[.pointer P] w fun e w' => e = .returned (.int .i64 0) ∧ w' = w := by
  go_enter Tryd.func25, Tryd.ntmps25
  go_wp2_with fail
  refine h.mono ?_
  rintro e w1 ⟨rfl, rfl⟩
  go_wp2
  go_ret
  exact ⟨rfl, rfl⟩
theorem sure_none {w : World} {P : Option Addr} (h : IsNo P w) : Calls Tryd.prog 50 #[.pointer P] w fun e w' => e = .returned (.slice none 0 0) ∧ w' = w := by
  go_enter Tryd.func50, Tryd.ntmps50
  go_wp2_with fail
  refine h.mono ?_
  rintro e w1 ⟨rfl, rfl⟩
  go_wp2
  go_ret
  exact ⟨rfl, rfl⟩
theorem written_none {w : World} {P : Option Addr} (h : IsNo P w) : Calls Tryd.prog 51 #[.pointer P] w fun e w' => e = .returned (.map none) ∧ w' = w := by
  go_enter Tryd.func51, Tryd.ntmps51
  go_wp2_with fail
  refine h.mono ?_
  rintro e w1 ⟨rfl, rfl⟩
  go_wp2
  go_ret
  exact ⟨rfl, rfl⟩
end Go.Proofs.YtfhdiddlloiglaaDoor
end
