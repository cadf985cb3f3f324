/- The disk's take and Limit. -/
import Derived.Test.YtoojcgmdcbcenaaA
import Derived.Test.YtoojcgmdcbcenaaWKept
namespace Go.Proofs.Ytoojcgmdcbcenaa
open Go.RowKit Go.Proofs.YtoojcgmdcbcenaaW.PrintWords
set_option linter.unusedVariables false
set_option linter.unusedSimpArgs false
set_option maxRecDepth 100000

theorem kept_set {w W : World} {S : Nat → Prop} (h : Kept w W S) {a : Addr} (hs : S a.block) (v : Value) : Kept w (W.setCell a v) S := by
  refine ⟨by simpa using h.1, fun i hi hn => ?_⟩
  rw [← h.2 i hi hn]
  exact Below.heap_setCell W a v i (fun e => hn (e ▸ hs))
structure AtF (w : World) (p : Nat) (A : Option Addr) (n c : Nat) (mf mm : Option Nat) (left : Int) (off : Bool) (taken : Int) : Prop extends At w p A n c mf mm left off taken where
  fz : ∀ k, w.frozen? ⟨p, k, none⟩ = false
theorem take_off {w : World} {p : Nat} {A : Option Addr} {n c : Nat} {mf mm : Option Nat} {left : Int} {off : Bool} {taken : Int} (h : AtF w p A n c mf mm left off taken) (ho : off = true ∨ left = 0) :
    Calls Try.prog 42 #[.pointer (some ⟨p, 0, none⟩)] w fun e w' => e = .returned (.bool false) ∧ w' = w.setCell ⟨p, 4, none⟩ (.bool true) := by
  obtain ⟨⟨c0, c1, c2, c3, c4, c5⟩, fz⟩ := h
  have f4 := fz 4
  cases off with
  | true =>
    go_enter Try.func42, Try.ntmps42
    go_wp2
    go_ret
    exact ⟨rfl, rfl⟩
  | false =>
    obtain rfl : left = 0 := by simpa using ho
    go_enter Try.func42, Try.ntmps42
    go_wp2
    go_ret
    exact ⟨rfl, rfl⟩
theorem take_lim {w : World} {p : Nat} {A : Option Addr} {n c : Nat} {mf mm : Option Nat} {left : Int} {taken : Int} (h : AtF w p A n c mf mm left false taken) (ho : 0 < left) (hb : left ≤ 9223372036854775807) (ht : 0 ≤ taken) (ht2 : taken < 9223372036854775807) :
    Calls Try.prog 42 #[.pointer (some ⟨p, 0, none⟩)] w fun e w' => e = .returned (.bool true) ∧ w' = (w.setCell ⟨p, 3, none⟩ (.int .i64 (left - 1))).setCell ⟨p, 5, none⟩ (.int .i64 (taken + 1)) := by
  obtain ⟨⟨c0, c1, c2, c3, c4, c5⟩, fz⟩ := h
  have f3 := fz 3
  have f5 := fz 5
  have b0 : (left == 0) = false := by simpa using (by omega : left ≠ 0)
  go_enter Try.func42, Try.ntmps42
  go_wp2
  go_ret
  exact ⟨rfl, rfl⟩
theorem take_free {w : World} {p : Nat} {A : Option Addr} {n c : Nat} {mf mm : Option Nat} {taken : Int} (h : AtF w p A n c mf mm (-1) false taken) (ht : 0 ≤ taken) (ht2 : taken < 9223372036854775807) :
    Calls Try.prog 42 #[.pointer (some ⟨p, 0, none⟩)] w fun e w' => e = .returned (.bool true) ∧ w' = (w.setCell ⟨p, 3, none⟩ (.int .i64 (-1))).setCell ⟨p, 5, none⟩ (.int .i64 (taken + 1)) := by
  obtain ⟨⟨c0, c1, c2, c3, c4, c5⟩, fz⟩ := h
  have f3 := fz 3
  have f5 := fz 5
  go_enter Try.func42, Try.ntmps42
  go_wp2
  go_ret
  exact ⟨rfl, rfl⟩
end Go.Proofs.Ytoojcgmdcbcenaa
