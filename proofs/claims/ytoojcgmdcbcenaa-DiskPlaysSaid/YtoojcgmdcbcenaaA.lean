/- The disk's small methods. -/
import Derived.Test.YtoojcgmdcbcenaaProg
import Derived.WalkKit
import Derived.WalkSpells
import Derived.KernelRfl
import Derived.RowKit
namespace Go.Proofs.Ytoojcgmdcbcenaa
open Go.RowKit
set_option linter.unusedVariables false
set_option linter.unusedSimpArgs false
set_option maxRecDepth 100000

theorem neqNil (w : World) (a : Option Addr) (n c n' c' : Nat) : (binOp .neq 31 (.slice a n c) (.slice none n' c')).run Try.prog w = .ok (.bool (!a.isNone)) w := run_neq_slice_nil_any w _ _ a n c n' c' Try.underlying31
/-- A disk's struct in block p. -/
structure At (w : World) (p : Nat) (A : Option Addr) (n c : Nat) (mf mm : Option Nat) (left : Int) (off : Bool) (taken : Int) : Prop where
  c0 : w.cell? ⟨p, 0, none⟩ = some (.slice A n c)
  c1 : w.cell? ⟨p, 1, none⟩ = some (.map mf)
  c2 : w.cell? ⟨p, 2, none⟩ = some (.map mm)
  c3 : w.cell? ⟨p, 3, none⟩ = some (.int .i64 left)
  c4 : w.cell? ⟨p, 4, none⟩ = some (.bool off)
  c5 : w.cell? ⟨p, 5, none⟩ = some (.int .i64 taken)
theorem is_calls {w : World} {p : Nat} {a : Option Addr} {n c : Nat} {mf mm : Option Nat} {left : Int} {off : Bool} {taken : Int} (h : At w p a n c mf mm left off taken) :
    Calls Try.prog 41 #[.pointer (some ⟨p, 0, none⟩)] w fun e w' => e = .returned (.bool a.isSome) ∧ w' = w := by
  obtain ⟨c0, c1, c2, c3, c4, c5⟩ := h
  have qT := neqNil
  go_enter Try.func41, Try.ntmps41
  go_wp2
  go_ret
  exact ⟨rfl, rfl⟩
theorem is_nil (w : World) : Calls Try.prog 41 #[.pointer none] w fun e w' => e = .returned (.bool false) ∧ w' = w := by
  go_enter Try.func41, Try.ntmps41
  go_wp2
  go_ret
  exact ⟨rfl, rfl⟩
theorem sectors_calls {w : World} {p : Nat} {a : Addr} {n c : Nat} {mf mm : Option Nat} {left : Int} {off : Bool} {taken : Int} (h : At w p (some a) n c mf mm left off taken) (hn : n ≤ 1048576) :
    Calls Try.prog 19 #[.pointer (some ⟨p, 0, none⟩)] w fun e w' => e = .returned (.int .i64 ((n / 256 : Nat) : Int)) ∧ w' = w := by
  have hi := is_calls h
  obtain ⟨c0, c1, c2, c3, c4, c5⟩ := h
  go_enter Try.func19, Try.ntmps19
  go_wp2_with fail
  refine hi.mono ?_
  rintro e w1 ⟨rfl, rfl⟩
  go_wp2
  go_ret
  exact ⟨by have e : wrap64 ((n : Int) / 256) = ((n / 256 : Nat) : Int) := by unfold wrap64; omega
            go_num, rfl⟩
theorem sectors_none {w : World} {P : Option Addr} (h : Calls Try.prog 41 #[.pointer P] w fun e w' => e = .returned (.bool false) ∧ w' = w) :
    Calls Try.prog 19 #[.pointer P] w fun e w' => e = .returned (.int .i64 0) ∧ w' = w := by
  go_enter Try.func19, Try.ntmps19
  go_wp2_with fail
  refine h.mono ?_
  rintro e w1 ⟨rfl, rfl⟩
  go_wp2
  go_ret
  exact ⟨rfl, rfl⟩
theorem ops_calls {w : World} {p : Nat} {a : Addr} {n c : Nat} {mf mm : Option Nat} {left : Int} {off : Bool} {taken : Int} (h : At w p (some a) n c mf mm left off taken) :
    Calls Try.prog 25 #[.pointer (some ⟨p, 0, none⟩)] w fun e w' => e = .returned (.int .i64 taken) ∧ w' = w := by
  have hi := is_calls h
  obtain ⟨c0, c1, c2, c3, c4, c5⟩ := h
  go_enter Try.func25, Try.ntmps25
  go_wp2_with fail
  refine hi.mono ?_
  rintro e w1 ⟨rfl, rfl⟩
  go_wp2
  go_ret
  exact ⟨rfl, rfl⟩
theorem ops_none {w : World} {P : Option Addr} (h : Calls Try.prog 41 #[.pointer P] w fun e w' => e = .returned (.bool false) ∧ w' = w) :
    Calls Try.prog 25 #[.pointer P] w fun e w' => e = .returned (.int .i64 0) ∧ w' = w := by
  go_enter Try.func25, Try.ntmps25
  go_wp2_with fail
  refine h.mono ?_
  rintro e w1 ⟨rfl, rfl⟩
  go_wp2
  go_ret
  exact ⟨rfl, rfl⟩
end Go.Proofs.Ytoojcgmdcbcenaa
