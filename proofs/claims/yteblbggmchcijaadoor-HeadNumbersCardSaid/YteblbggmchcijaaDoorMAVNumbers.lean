/- The law HeadNumbers in plain Lean, and its call. -/
import Derived.Test.YteblbggmchcijaaDoorMA17
import Derived.Test.YteblbggmchcijaaDoorMAPAllx59
import Derived.Test.YteblbggmchcijaaDoorMAOpens
namespace Go.Proofs.YteblbggmchcijaaDoor.PAll
open Go.RowKit Go.Lib Go.Proofs.YteblbggmchcijaaDoor Go.Proofs.YteblbggmchcijaaDoorW.PrintWords Go.Proofs.YteblbggmchcijaaDoorW.PrintLast Go.Proofs.YteblbggmchcijaaDoorW.PrintMore
set_option linter.unusedVariables false
set_option linter.unusedSimpArgs false

theorem numbers_pure (l : List Int) (hl : l.length ≤ 140737488355328) (hb : AreBytes l) : ∃ k, sutlerlaw13_HeadNumbers.f k l = some true := by
  refine Ev.rounds (g := fun k => sutlerlaw13_HeadNumbers.f k l) ?_
  simp only [sutlerlaw13_HeadNumbers.f, head_Octal.at l hl hb, Option.bind_some]
  refine Ev.bind (octal_ref l hl) ?_
  exact Ev.pos rfl (Ev.pos rfl (Ev.val _))
theorem numbers_walk (A : Option Addr) (c : Nat) (l : List Int) (W : World) (hC : Kd.C (Kd.int .u8) W A l.length l) (hle : l.length ≤ c) (hG : l.length * 1 ≤ reachBytes ∧ ∀ y ∈ l, (Lit.int .u8 y).wf = true) (hF : Fields W) (hcap : c ≤ 9223372036854775807) :
    Calls Tryd.prog 4 #[.slice A l.length c] W fun e w' => e = .returned (.bool true) ∧ Below W.heap.size W w' := by
  obtain ⟨k, hk⟩ := numbers_pure l (by have := reach_le hG.1; omega) (are_bytes hG.2)
  exact sutlerlaw13_HeadNumbers.calls k A c l true W hC hle hk hF hcap
end Go.Proofs.YteblbggmchcijaaDoor.PAll
