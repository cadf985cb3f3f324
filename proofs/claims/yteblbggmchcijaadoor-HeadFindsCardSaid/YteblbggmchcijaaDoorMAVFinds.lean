/- The law HeadFinds in plain Lean, and its call. -/
import Derived.Test.YteblbggmchcijaaDoorMA17
import Derived.Test.YteblbggmchcijaaDoorMAPAllx68
import Derived.Test.YteblbggmchcijaaDoorMAOpens
namespace Go.Proofs.YteblbggmchcijaaDoor.PAll
open Go.RowKit Go.Lib Go.Proofs.YteblbggmchcijaaDoor Go.Proofs.YteblbggmchcijaaDoorW.PrintWords Go.Proofs.YteblbggmchcijaaDoorW.PrintLast Go.Proofs.YteblbggmchcijaaDoorW.PrintMore
set_option linter.unusedVariables false
set_option linter.unusedSimpArgs false

theorem finds_pure (a0 a1 : ByteArray) (m s k a x : Int) (h0 : a0.size ≤ 140737488355328) (h1 : a1.size ≤ 140737488355328) (hk0 : 0 ≤ k) (hk : k ≤ 255) (hx0 : 0 ≤ x) (hx : x ≤ 255) : sutlerlaw13_HeadFinds.f a0 a1 m s k a x = some true := by
  have hA : ∃ t : Nat, t < 512 ∧ sutlerbase_Among.f a 512 = some (t : Int) := by
    unfold sutlerbase_Among.f
    have e : IntKind.u64.wrap 512 = 512 := by decide
    rw [e, if_neg (by decide)]
    have hw : 0 ≤ IntKind.u64.wrap a := by
      simp [IntKind.wrap, IntKind.bits, IntKind.signed]; omega
    rw [Int.tmod_eq_emod_of_nonneg hw]
    refine ⟨(IntKind.u64.wrap a % 512).toNat, by omega, ?_⟩
    congr 1
    generalize IntKind.u64.wrap a = z at *
    unfold wrap64; omega
  obtain ⟨t, ht, hA⟩ := hA
  simp only [sutlerlaw13_HeadFinds.f, sutlerlaw13_works.f, Option.bind_some, if_true, head_Print.at a0 a1 m s k h0 h1 hk0 hk, hA]
  by_cases hbad : badHead a0 a1 m s k = true
  · rw [if_pos hbad]; rw [if_neg (by decide)]
  rw [if_neg hbad]
  have g := good_of hbad
  have hlen := hb_len g
  simp only [show headB (parted a0).pre (parted a0).nam a1 m.toNat s.toNat ⟨#[UInt8.ofNat k.toNat]⟩ = hb a0 a1 m s k from rfl]
  rw [if_pos trivial]
  by_cases hx1 : x = 0
  · rw [if_pos hx1]
  rw [if_neg hx1]
  have hbt := rd_byte (hb_bytes a0 a1 m s k) (t : Int)
  obtain ⟨x0, x1, x2⟩ := xor_ne _ x hbt.1 hbt.2 hx0 hx hx1
  have hset : AreBytes ((hb a0 a1 m s k).set t (bits .xor .u8 (rd (hb a0 a1 m s k) (t : Int)) x)) := by
    intro y hy
    rcases List.mem_or_eq_of_mem_set hy with h | h
    · exact hb_bytes a0 a1 m s k y h
    · rw [h]; exact ⟨x0, x1⟩
  have hend : (some ((bad6.1.toList == ([] : List UInt8)) && ((bad6.2.1.toList == ([] : List UInt8)) && (bad6.2.2.1 == 0 && (bad6.2.2.2.1 == 0 && (bad6.2.2.2.2.1 == 0))))) : Option Bool) = some true := by decide +kernel
  rw [Int.toNat_natCast, head_Parse.at _ hset]
  simp only [Option.bind_some]
  by_cases c1 : (t : Int) ≥ 148
  · rw [if_pos c1]
    by_cases c2 : (t : Int) < 156
    · rw [if_pos c2]
    · rw [if_neg c2, if_pos (by omega), if_pos (by omega), turned_bad g t ht (by omega) _ x2, if_pos (by decide)]
      exact hend
  · rw [if_neg c1, if_pos (by omega), if_pos (by omega), turned_bad g t ht (by omega) _ x2, if_pos (by decide)]
    exact hend
theorem finds_walk (x : ByteArray × ByteArray × Int × Int × Int) (a y : Int) (W : World) (hG : HG x) (hy : (Lit.int .u8 y).wf = true) (hF : Fields W) :
    Calls Tryd.prog 7 #[.agg #[.string x.1, .string x.2.1, .int .i64 x.2.2.1, .int .i64 x.2.2.2.1, .int .u8 x.2.2.2.2], .int .i64 a, .int .u8 y] W fun e w' => e = .returned (.bool true) ∧ Below W.heap.size W w' := by
  obtain ⟨g0, g1, _, _, g4⟩ := hG
  have b := wf_byte g4
  have c := wf_byte hy
  unfold reachBytes at g0 g1
  exact sutlerlaw13_HeadFinds.calls _ _ _ _ _ _ _ true W (finds_pure x.1 x.2.1 x.2.2.1 x.2.2.2.1 x.2.2.2.2 a y (by omega) (by omega) b.1 b.2 c.1 c.2) hF
end Go.Proofs.YteblbggmchcijaaDoor.PAll
