/- Texts of this claim, one behind the other: A, B. -/
import Derived.Test.YtfhdiddlloiglaaDoorProg
import Derived.WalkKit
import Derived.WalkSpells
import Derived.KernelRfl
import Derived.RowKit
import Derived.Test.YtfhdiddlloiglaaDoorWKept
section
/- The disk's small methods. -/
namespace Go.Proofs.YtfhdiddlloiglaaDoor
open Go.RowKit
set_option linter.unusedVariables false
set_option linter.unusedSimpArgs false
set_option maxRecDepth 100000

theorem neqNil (w : World) (a : Option Addr) (n c n' c' : Nat) : (binOp .neq 44 (.slice a n c) (.slice none n' c')).run Tryd.prog w = .ok (.bool (!a.isNone)) w := run_neq_slice_nil_any w _ _ a n c n' c' Tryd.underlying44
/-- A disk's struct in block p. -/
structure At (w : World) (p : Nat) (A : Option Addr) (n c : Nat) (mf mm : Option Nat) (left : Int) (off : Bool) (taken : Int) : Prop where
  c0 : w.cell? ⟨p, 0, none⟩ = some (.slice A n c)
  c1 : w.cell? ⟨p, 1, none⟩ = some (.map mf)
  c2 : w.cell? ⟨p, 2, none⟩ = some (.map mm)
  c3 : w.cell? ⟨p, 3, none⟩ = some (.int .i64 left)
  c4 : w.cell? ⟨p, 4, none⟩ = some (.bool off)
  c5 : w.cell? ⟨p, 5, none⟩ = some (.int .i64 taken)
theorem is_calls {w : World} {p : Nat} {a : Option Addr} {n c : Nat} {mf mm : Option Nat} {left : Int} {off : Bool} {taken : Int} (h : At w p a n c mf mm left off taken) :
    Calls Tryd.prog 47 #[.pointer (some ⟨p, 0, none⟩)] w fun e w' => e = .returned (.bool a.isSome) ∧ w' = w := by
  obtain ⟨c0, c1, c2, c3, c4, c5⟩ := h
  have qT := neqNil
  go_enter Tryd.func47, Tryd.ntmps47
  go_wp2
  go_ret
  exact ⟨rfl, rfl⟩
theorem is_nil (w : World) : Calls Tryd.prog 47 #[.pointer none] w fun e w' => e = .returned (.bool false) ∧ w' = w := by
  go_enter Tryd.func47, Tryd.ntmps47
  go_wp2
  go_ret
  exact ⟨rfl, rfl⟩
theorem sectors_calls {w : World} {p : Nat} {a : Addr} {n c : Nat} {mf mm : Option Nat} {left : Int} {off : Bool} {taken : Int} (h : At w p (some a) n c mf mm left off taken) (hn : n ≤ 1048576) :
    Calls Tryd.prog 31 #[.pointer (some ⟨p, 0, none⟩)] w fun e w' => e = .returned (.int .i64 ((n / 256 : Nat) : Int)) ∧ w' = w := by
  have hi := is_calls h
  obtain ⟨c0, c1, c2, c3, c4, c5⟩ := h
  go_enter Tryd.func31, Tryd.ntmps31
  go_wp2_with fail
  refine hi.mono ?_
  rintro e w1 ⟨rfl, rfl⟩
  go_wp2
  go_ret
  exact ⟨by have e : wrap64 ((n : Int) / 256) = ((n / 256 : Nat) : Int) := by unfold wrap64; omega
            go_num, rfl⟩
theorem sectors_none {w : World} {P : Option Addr} (h : Calls Tryd.prog 47 #[.pointer P] w fun e w' => e = .returned (.bool false) ∧ w' = w) :
    Calls Tryd.prog 31 #[.pointer P] w fun e w' => e = .returned (.int .i64 0) ∧ w' = w := by
  go_enter Tryd.func31, Tryd.ntmps31
  go_wp2_with fail
  refine h.mono ?_
  rintro e w1 ⟨rfl, rfl⟩
  go_wp2
  go_ret
  exact ⟨rfl, rfl⟩
theorem ops_calls {w : World} {p : Nat} {a : Addr} {n c : Nat} {mf mm : Option Nat} {left : Int} {off : Bool} {taken : Int} (h : At w p (some a) n c mf mm left off taken) :
    Calls Tryd.prog 23 #[.pointer (some ⟨p, 0, none⟩)] w fun e w' => e = .returned (.int .i64 taken) ∧ w' = w := by
  have hi := is_calls h
  obtain ⟨c0, c1, c2, c3, c4, c5⟩ := h
  go_enter Tryd.func23, Tryd.ntmps23
  go_wp2_with fail
  refine hi.mono ?_
  rintro e w1 ⟨rfl, rfl⟩
  go_wp2
  go_ret
  exact ⟨rfl, rfl⟩
theorem ops_none {w : World} {P : Option Addr} (h : Calls Tryd.prog 47 #[.pointer P] w fun e w' => e = .returned (.bool false) ∧ w' = w) :
    Calls Tryd.prog 23 #[.pointer P] w fun e w' => e = .returned (.int .i64 0) ∧ w' = w := by
  go_enter Tryd.func23, Tryd.ntmps23
  go_wp2_with fail
  refine h.mono ?_
  rintro e w1 ⟨rfl, rfl⟩
  go_wp2
  go_ret
  exact ⟨rfl, rfl⟩
end Go.Proofs.YtfhdiddlloiglaaDoor
end
section
/- The disk's take and Limit. -/
namespace Go.Proofs.YtfhdiddlloiglaaDoor
open Go.RowKit Go.Proofs.YtfhdiddlloiglaaDoorW.PrintWords
set_option linter.unusedVariables false
set_option linter.unusedSimpArgs false
set_option maxRecDepth 100000

theorem kept_set {w W : World} {S : Nat → Prop} (h : Kept w W S) {a : Addr} (hs : S a.block) (v : Value) : Kept w (W.setCell a v) S := by
  refine ⟨by simpa using h.1, fun i hi hn => ?_⟩
  rw [← h.2 i hi hn]
  exact Below.heap_setCell W a v i (fun e => hn (e ▸ hs))
structure AtF (w : World) (p : Nat) (A : Option Addr) (n c : Nat) (mf mm : Option Nat) (left : Int) (off : Bool) (taken : Int) : Prop extends At w p A n c mf mm left off taken where
  fz : ∀ k, w.frozen? ⟨p, k, none⟩ = false
theorem take_off {w : World} {p : Nat} {A : Option Addr} {n c : Nat} {mf mm : Option Nat} {left : Int} {off : Bool} {taken : Int} (h : AtF w p A n c mf mm left off taken) (ho : off = true ∨ left = 0) :
    Calls Tryd.prog 62 #[.pointer (some ⟨p, 0, none⟩)] w fun e w' => e = .returned (.bool false) ∧ w' = w.setCell ⟨p, 4, none⟩ (.bool true) := by
  obtain ⟨⟨c0, c1, c2, c3, c4, c5⟩, fz⟩ := h
  have f4 := fz 4
  cases off with
  | true =>
    go_enter Tryd.func62, Tryd.ntmps62
    go_wp2
    go_ret
    exact ⟨rfl, rfl⟩
  | false =>
    obtain rfl : left = 0 := by simpa using ho
    go_enter Tryd.func62, Tryd.ntmps62
    go_wp2
    go_ret
    exact ⟨rfl, rfl⟩
theorem take_lim {w : World} {p : Nat} {A : Option Addr} {n c : Nat} {mf mm : Option Nat} {left : Int} {taken : Int} (h : AtF w p A n c mf mm left false taken) (ho : 0 < left) (hb : left ≤ 9223372036854775807) (ht : 0 ≤ taken) (ht2 : taken < 9223372036854775807) :
    Calls Tryd.prog 62 #[.pointer (some ⟨p, 0, none⟩)] w fun e w' => e = .returned (.bool true) ∧ w' = (w.setCell ⟨p, 3, none⟩ (.int .i64 (left - 1))).setCell ⟨p, 5, none⟩ (.int .i64 (taken + 1)) := by
  obtain ⟨⟨c0, c1, c2, c3, c4, c5⟩, fz⟩ := h
  have f3 := fz 3
  have f5 := fz 5
  have b0 : (left == 0) = false := by simpa using (by omega : left ≠ 0)
  go_enter Tryd.func62, Tryd.ntmps62
  go_wp2
  go_ret
  exact ⟨rfl, rfl⟩
theorem take_free {w : World} {p : Nat} {A : Option Addr} {n c : Nat} {mf mm : Option Nat} {taken : Int} (h : AtF w p A n c mf mm (-1) false taken) (ht : 0 ≤ taken) (ht2 : taken < 9223372036854775807) :
    Calls Tryd.prog 62 #[.pointer (some ⟨p, 0, none⟩)] w fun e w' => e = .returned (.bool true) ∧ w' = (w.setCell ⟨p, 3, none⟩ (.int .i64 (-1))).setCell ⟨p, 5, none⟩ (.int .i64 (taken + 1)) := by
  obtain ⟨⟨c0, c1, c2, c3, c4, c5⟩, fz⟩ := h
  have f3 := fz 3
  have f5 := fz 5
  go_enter Tryd.func62, Tryd.ntmps62
  go_wp2
  go_ret
  exact ⟨rfl, rfl⟩
end Go.Proofs.YtfhdiddlloiglaaDoor
end
