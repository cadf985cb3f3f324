/- The law HeadBack in plain Lean, and its call. -/
import Derived.Test.YteblbggmchcijaaDoorMA17
import Derived.Test.YteblbggmchcijaaDoorMAPAllx66
import Derived.Test.YteblbggmchcijaaDoorMAOpens
namespace Go.Proofs.YteblbggmchcijaaDoor.PAll
open Go.RowKit Go.Lib Go.Proofs.YteblbggmchcijaaDoor Go.Proofs.YteblbggmchcijaaDoorW.PrintWords Go.Proofs.YteblbggmchcijaaDoorW.PrintLast Go.Proofs.YteblbggmchcijaaDoorW.PrintMore
set_option linter.unusedVariables false
set_option linter.unusedSimpArgs false

theorem back_pure (a0 a1 : ByteArray) (m s k : Int) (h0 : a0.size ≤ 140737488355328) (h1 : a1.size ≤ 140737488355328) (hk0 : 0 ≤ k) (hk : k ≤ 255) : sutlerlaw13_HeadBack.f a0 a1 m s k = some true := by
  simp only [sutlerlaw13_HeadBack.f, sutlerlaw13_works.f, Option.bind_some, if_true, head_Print.at a0 a1 m s k h0 h1 hk0 hk]
  by_cases hbad : badHead a0 a1 m s k = true
  · rw [if_pos hbad]; simp
  · rw [if_neg hbad]
    have g := good_of hbad
    simp only []
    rw [if_pos trivial]
    show ((head_Parse.f (hb a0 a1 m s k)).bind _) = _
    rw [head_Parse.at _ (hb_bytes a0 a1 m s k), parse_print g hk0 hk]
    simp only [Option.bind_some, head_Empty.f]
    rw [if_pos trivial, if_pos (by simp)]
    show some (!emptyL (hb a0 a1 m s k)) = some true
    rw [hb_notEmpty g]; rfl

theorem back_walk (x : ByteArray × ByteArray × Int × Int × Int) (W : World) (hG : HG x) (hF : Fields W) :
    Calls Tryd.prog 6 #[.agg #[.string x.1, .string x.2.1, .int .i64 x.2.2.1, .int .i64 x.2.2.2.1, .int .u8 x.2.2.2.2]] W fun e w' => e = .returned (.bool true) ∧ Below W.heap.size W w' := by
  obtain ⟨g0, g1, _, _, g4⟩ := hG
  have b := wf_byte g4
  unfold reachBytes at g0 g1
  exact sutlerlaw13_HeadBack.calls _ _ _ _ _ true W (back_pure x.1 x.2.1 x.2.2.1 x.2.2.2.1 x.2.2.2.2 (by omega) (by omega) b.1 b.2) hF
end Go.Proofs.YteblbggmchcijaaDoor.PAll
