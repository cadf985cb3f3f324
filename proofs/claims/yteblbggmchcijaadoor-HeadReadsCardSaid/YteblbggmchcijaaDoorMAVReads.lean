/- The law HeadReads in plain Lean, and its call. -/
import Derived.Test.YteblbggmchcijaaDoorMA17
import Derived.Test.YteblbggmchcijaaDoorMAPAllx58
import Derived.Test.YteblbggmchcijaaDoorMAOpens
namespace Go.Proofs.YteblbggmchcijaaDoor.PAll
open Go.RowKit Go.Lib Go.Proofs.YteblbggmchcijaaDoor Go.Proofs.YteblbggmchcijaaDoorW.PrintWords Go.Proofs.YteblbggmchcijaaDoorW.PrintLast Go.Proofs.YteblbggmchcijaaDoorW.PrintMore
set_option linter.unusedVariables false
set_option linter.unusedSimpArgs false

theorem reads_pure (l : List Int) (hl0 : l.length ≤ 140737488351232) (hb : AreBytes l) : ∃ k, sutlerlaw13_HeadReads.f k l = some true := by
  have hl : l.length ≤ 140737488355328 := by omega
  refine Ev.rounds (g := fun k => sutlerlaw13_HeadReads.f k l) ?_
  have e : sutlerbase_Bytes.f l = some l := by
    unfold sutlerbase_Bytes.f
    simp only [Option.bind_some]
    rw [if_pos (by simp; omega)]; rfl
  simp only [sutlerlaw13_HeadReads.f, e, Option.bind_some, head_Parse.at l hb, head_Sum.at l hl hb, head_Empty.f]
  refine Ev.bind (parse_ref l hb) ?_
  refine Ev.pos (by simp) ?_
  refine Ev.pos rfl ?_
  refine Ev.bind (sum_ref l hl hb) ?_
  refine Ev.pos rfl ?_
  refine Ev.bind (empty_ref l hl) ?_
  refine Ev.pos (by simp) ?_
  refine Ev.bind (same_ref l hl) ?_
  exact Ev.pos rfl (Ev.val _)
theorem reads_walk (A : Option Addr) (c : Nat) (l : List Int) (W : World) (hC : Kd.C (Kd.int .u8) W A l.length l) (hle : l.length ≤ c) (hG : l.length * 1 ≤ reachBytes ∧ ∀ y ∈ l, (Lit.int .u8 y).wf = true) (hF : Fields W) :
    Calls Tryd.prog 3 #[.slice A l.length c] W fun e w' => e = .returned (.bool true) ∧ Below W.heap.size W w' := by
  obtain ⟨k, hk⟩ := reads_pure l (reach_le hG.1) (are_bytes hG.2)
  exact sutlerlaw13_HeadReads.calls k A c l true W hC hle hk hF
end Go.Proofs.YteblbggmchcijaaDoor.PAll
