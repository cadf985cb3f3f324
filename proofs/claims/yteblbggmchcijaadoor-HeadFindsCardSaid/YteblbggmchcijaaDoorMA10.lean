/- Texts of this claim, one behind the other: H. -/
import Derived.Test.YteblbggmchcijaaDoorMA3
import Derived.Test.YteblbggmchcijaaDoorMA1
section
/- head.Sum, head.Empty, in the print's form. -/
namespace Go.Proofs.YteblbggmchcijaaDoor.PAll
open Go.RowKit Go.Lib Go.Proofs.YteblbggmchcijaaDoor Go.Proofs.YteblbggmchcijaaDoorW.PrintWords Go.Proofs.YteblbggmchcijaaDoorW.PrintLast Go.Proofs.YteblbggmchcijaaDoorW.PrintMore
set_option linter.unusedVariables false

def byteB (l : List Int) : Bool := l.all fun b => decide (0 ≤ b) && decide (b ≤ 255)
theorem byteB_iff {l : List Int} : byteB l = true ↔ AreBytes l := by
  unfold byteB AreBytes
  simp only [List.all_eq_true, Bool.and_eq_true, decide_eq_true_eq]
def head_Sum.f (l0 : List Int) : Option Int := if decide (l0.length ≤ 140737488355328) && byteB l0 then some (sumTo l0 l0.length) else none
theorem head_Sum.calls (A0 : Option Addr) (c0 : Nat) (l0 : List Int) (r : Int) (w : World) (hr0 : Kd.C (Kd.int .u8) w A0 l0.length l0) (hc0 : l0.length ≤ c0) (h : head_Sum.f l0 = some r) (hLD : Fields w) :
    Calls Tryd.prog 12 #[.slice A0 l0.length c0] w fun e w' => e = .returned (.int .i64 r) ∧ Below w.heap.size w w' := by
  unfold head_Sum.f at h
  split at h
  · rename_i hc
    simp only [Bool.and_eq_true, decide_eq_true_eq] at hc
    obtain rfl := Option.some.inj h
    exact sum_calls A0 c0 l0 w hLD hr0 hc0 hc.1 (byteB_iff.1 hc.2)
  · cases h
def head_Empty.f (l0 : List Int) : Option Bool := some (emptyL l0)
theorem head_Empty.calls (A0 : Option Addr) (c0 : Nat) (l0 : List Int) (r : Bool) (w : World) (hr0 : Kd.C (Kd.int .u8) w A0 l0.length l0) (hc0 : l0.length ≤ c0) (h : head_Empty.f l0 = some r) :
    Calls Tryd.prog 14 #[.slice A0 l0.length c0] w fun e w' => e = .returned (.bool r) ∧ Below w.heap.size w w' := by
  obtain rfl := Option.some.inj h
  exact (empty_calls A0 c0 l0 w hr0).mono fun e w' ⟨h1, h2⟩ => ⟨h1, by rw [h2]; exact Below.refl _ _⟩
end Go.Proofs.YteblbggmchcijaaDoor.PAll
end
