/- The methods at a disk that no call made. -/
import Derived.Test.YtoojcgmdcbcenaaB
import Derived.Below
namespace Go.Proofs.Ytoojcgmdcbcenaa
open Go.RowKit Go.Proofs.YtoojcgmdcbcenaaW.PrintWords
set_option linter.unusedVariables false
set_option linter.unusedSimpArgs false
set_option maxRecDepth 100000

abbrev IsNo (P : Option Addr) (w : World) : Prop := Calls Try.prog 41 #[.pointer P] w fun e w' => e = .returned (.bool false) ∧ w' = w
theorem look_none {w : World} {P : Option Addr} (h : IsNo P w) (at_ : Int) : Calls Try.prog 47 #[.pointer P, .int .i64 at_] w fun e w' => e = .returned (.int .i64 1) ∧ w' = w := by
  go_enter Try.func47, Try.ntmps47
  go_wp2_with fail
  refine h.mono ?_
  rintro e w1 ⟨rfl, rfl⟩
  go_wp2
  go_ret
  exact ⟨rfl, rfl⟩
theorem read_none {w : World} {P : Option Addr} (h : IsNo P w) (at_ : Int) : Calls Try.prog 20 #[.pointer P, .int .i64 at_] w fun e w' => e = .returned (.tuple #[.slice none 0 0, .int .i64 1]) ∧ w' = w := by
  have hl := look_none h at_
  go_enter Try.func20, Try.ntmps20
  go_wp2_with fail
  refine hl.mono ?_
  rintro e w1 ⟨rfl, rfl⟩
  go_wp2
  go_ret2
  exact ⟨rfl, rfl⟩
theorem write_none {w : World} {P : Option Addr} (h : IsNo P w) (at_ : Int) (A : Option Addr) (n c : Nat) : Calls Try.prog 21 #[.pointer P, .int .i64 at_, .slice A n c] w fun e w' => e = .returned (.int .i64 1) ∧ w' = w := by
  have hl := look_none h at_
  go_enter Try.func21, Try.ntmps21
  go_wp2_with fail
  refine hl.mono ?_
  rintro e w1 ⟨rfl, rfl⟩
  go_wp2
  go_ret
  exact ⟨rfl, rfl⟩
theorem sync_none {w : World} {P : Option Addr} (h : IsNo P w) : Calls Try.prog 14 #[.pointer P] w fun e w' => e = .returned (.int .i64 1) ∧ w' = w := by
  go_enter Try.func14, Try.ntmps14
  go_wp2_with fail
  refine h.mono ?_
  rintro e w1 ⟨rfl, rfl⟩
  go_wp2
  go_ret
  exact ⟨rfl, rfl⟩
theorem limit_none {w : World} {P : Option Addr} (h : IsNo P w) (n : Int) : Calls Try.prog 24 #[.pointer P, .int .i64 n] w fun e w' => e = .returned (.tuple #[]) ∧ w' = w := by
  go_enter Try.func24, Try.ntmps24
  go_wp2_with fail
  refine h.mono ?_
  rintro e w1 ⟨rfl, rfl⟩
  go_wp2
  go_end0
  exact ⟨rfl, rfl⟩
theorem pending_none {w : World} {P : Option Addr} (h : IsNo P w) : Calls Try.prog 18 #[.pointer P] w fun e w' => e = .returned (.int .i64 0) ∧ w' = w := by
  go_enter Try.func18, Try.ntmps18
  go_wp2_with fail
  refine h.mono ?_
  rintro e w1 ⟨rfl, rfl⟩
  go_wp2
  go_ret
  exact ⟨rfl, rfl⟩
theorem sure_none {w : World} {P : Option Addr} (h : IsNo P w) : Calls Try.prog 16 #[.pointer P] w fun e w' => e = .returned (.slice none 0 0) ∧ w' = w := by
  go_enter Try.func16, Try.ntmps16
  go_wp2_with fail
  refine h.mono ?_
  rintro e w1 ⟨rfl, rfl⟩
  go_wp2
  go_ret
  exact ⟨rfl, rfl⟩
theorem written_none {w : World} {P : Option Addr} (h : IsNo P w) : Calls Try.prog 39 #[.pointer P] w fun e w' => e = .returned (.map none) ∧ w' = w := by
  go_enter Try.func39, Try.ntmps39
  go_wp2_with fail
  refine h.mono ?_
  rintro e w1 ⟨rfl, rfl⟩
  go_wp2
  go_ret
  exact ⟨rfl, rfl⟩
theorem clone_none {w : World} {P : Option Addr} (h : IsNo P w) : Calls Try.prog 23 #[.pointer P] w fun e w' => e = .returned (.pointer none) ∧ w' = w := by
  go_enter Try.func23, Try.ntmps23
  go_wp2_with fail
  refine h.mono ?_
  rintro e w1 ⟨rfl, rfl⟩
  go_wp2
  go_ret
  exact ⟨rfl, rfl⟩
end Go.Proofs.Ytoojcgmdcbcenaa
