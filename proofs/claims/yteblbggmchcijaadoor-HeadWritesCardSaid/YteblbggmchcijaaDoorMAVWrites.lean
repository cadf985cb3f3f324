/- The law HeadWrites in plain Lean, and its call. -/
import Derived.Test.YteblbggmchcijaaDoorMA17
import Derived.Test.YteblbggmchcijaaDoorMAPAllx65
import Derived.Test.YteblbggmchcijaaDoorMAOpens
namespace Go.Proofs.YteblbggmchcijaaDoor.PAll
open Go.RowKit Go.Lib Go.Proofs.YteblbggmchcijaaDoor Go.Proofs.YteblbggmchcijaaDoorW.PrintWords Go.Proofs.YteblbggmchcijaaDoorW.PrintLast Go.Proofs.YteblbggmchcijaaDoorW.PrintMore
set_option linter.unusedVariables false
set_option linter.unusedSimpArgs false

theorem writes_pure (a0 a1 : ByteArray) (m s k : Int) (h0 : a0.size ≤ 140737488355328) (h1 : a1.size ≤ 140737488355328) (hk0 : 0 ≤ k) (hk : k ≤ 255) : ∃ n, sutlerlaw13_HeadWrites.f n a0 a1 m s k = some true := by
  refine Ev.rounds (g := fun n => sutlerlaw13_HeadWrites.f n a0 a1 m s k) ?_
  simp only [sutlerlaw13_HeadWrites.f, head_Print.at a0 a1 m s k h0 h1 hk0 hk, Option.bind_some]
  refine Ev.bind (print_ref a0 a1 m s k h0 h1 hk0 hk) ?_
  refine Ev.bind (same_ref _ ?_) ?_
  · by_cases hb : badHead a0 a1 m s k = true
    · rw [if_pos hb]; simp
    · rw [if_neg hb]
      have hb' := hb
      unfold badHead at hb'
      simp only [Bool.or_eq_true, decide_eq_true_eq, Bool.not_eq_true', not_or] at hb'
      obtain ⟨⟨⟨⟨⟨⟨⟨g1, g2⟩, g3⟩, g4⟩, g5⟩, g6⟩, g7⟩, g8⟩ := hb'
      obtain ⟨z1, z2, z3⟩ := parted_sizes a0 (by simpa using g1)
      show (headB _ _ _ _ _ _).length ≤ _
      rw [headB_len _ _ _ _ _ _ z1 z2 (by omega)]
      omega
  · exact Ev.pos rfl (Ev.pos rfl (Ev.val _))
theorem writes_walk (x : ByteArray × ByteArray × Int × Int × Int) (W : World) (hG : HG x) (hF : Fields W) :
    Calls Tryd.prog 5 #[.agg #[.string x.1, .string x.2.1, .int .i64 x.2.2.1, .int .i64 x.2.2.2.1, .int .u8 x.2.2.2.2]] W fun e w' => e = .returned (.bool true) ∧ Below W.heap.size W w' := by
  obtain ⟨g0, g1, _, _, g4⟩ := hG
  have b := wf_byte g4
  unfold reachBytes at g0 g1
  obtain ⟨k, hk⟩ := writes_pure x.1 x.2.1 x.2.2.1 x.2.2.2.1 x.2.2.2.2 (by omega) (by omega) b.1 b.2
  exact sutlerlaw13_HeadWrites.calls k _ _ _ _ _ true W hk hF
end Go.Proofs.YteblbggmchcijaaDoor.PAll
