/- What comes in: the calls (Act), numbers, bytes. -/
import Derived.Test.YtoojcgmdcbcenaaOpen
import Derived.Test.YtoojcgmdcbcenaaAc
import Derived.ProofKit
namespace Go.Proofs.Ytoojcgmdcbcenaa
open Go.RowKit Go.Proofs.YtoojcgmdcbcenaaW.PrintWords
section
variable {H : Type} (enc : TypeId × Value → H) (W : World) {spare : Nat → Bool} {held : Bool}
theorem opens_ints : Op.Opens enc Try.prog W spare held 23 (Kd.slice 3 (Kd.int .i64)) (fun ys => ys.length * 8 ≤ reachBytes ∧ ∀ y ∈ ys, (Lit.int .i64 y).wf = true) :=
  Op.opens_slice enc Try.prog W spare held 3 Try.underlying23 (by kernel_rfl) (by kernel_rfl : Try.prog.cellsOf 3 = 1) rfl ⟨0⟩ (Op.opens_int enc Try.prog W spare held Try.underlying3)
theorem opens_bytes : Op.Opens enc Try.prog W spare held 31 (Kd.slice 5 (Kd.int .u8)) (fun ys => ys.length * 1 ≤ reachBytes ∧ ∀ y ∈ ys, (Lit.int .u8 y).wf = true) :=
  Op.opens_slice enc Try.prog W spare held 5 Try.underlying31 (by kernel_rfl) (by kernel_rfl : Try.prog.cellsOf 5 = 1) rfl ⟨0⟩ (Op.opens_int enc Try.prog W spare held Try.underlying5)
theorem opens_act : Op.Opens enc Try.prog W spare held 42 k42 (fun x => (Lit.int .i64 x.f0).wf = true ∧ (Lit.int .i64 x.f1).wf = true ∧ (Lit.int .i64 x.f2).wf = true ∧ (Lit.int .u8 x.f3).wf = true ∧ x.f4.length * 8 ≤ reachBytes ∧ ∀ y ∈ x.f4, (Lit.int .i64 y).wf = true) :=
  Op.opens_struct enc Try.prog W spare held (fun x : S42 => (x.f0, x.f1, x.f2, x.f3, x.f4)) (fun y => ⟨y.1, y.2.1, y.2.2.1, y.2.2.2.1, y.2.2.2.2⟩) (fun _ => rfl) Try.underlying42 rfl rfl
    (Op.tail_cons enc Try.prog W spare held rfl rfl (by kernel_rfl) (Op.opens_int enc Try.prog W spare held Try.underlying3)
    (Op.tail_cons enc Try.prog W spare held rfl rfl (by kernel_rfl) (Op.opens_int enc Try.prog W spare held Try.underlying3)
    (Op.tail_cons enc Try.prog W spare held rfl rfl (by kernel_rfl) (Op.opens_int enc Try.prog W spare held Try.underlying3)
    (Op.tail_cons enc Try.prog W spare held rfl rfl (by kernel_rfl) (Op.opens_int enc Try.prog W spare held Try.underlying5)
    (Op.tail_last enc Try.prog W spare held rfl (by kernel_rfl) (opens_ints enc W))))))
theorem opens_acts : Op.Opens enc Try.prog W spare held 22 (Kd.slice 42 k42) (fun ys => ys.length * 56 ≤ reachBytes ∧ ∀ x ∈ ys, (Lit.int .i64 x.f0).wf = true ∧ (Lit.int .i64 x.f1).wf = true ∧ (Lit.int .i64 x.f2).wf = true ∧ (Lit.int .u8 x.f3).wf = true ∧ x.f4.length * 8 ≤ reachBytes ∧ ∀ y ∈ x.f4, (Lit.int .i64 y).wf = true) :=
  Op.opens_slice enc Try.prog W spare held 42 Try.underlying22 (by kernel_rfl) (by kernel_rfl : Try.prog.cellsOf 42 = 5) rfl ⟨⟨0, 0, 0, 0, []⟩⟩ (opens_act enc W)
end
theorem byte_of {x : Int} (h : (Lit.int .u8 x).wf = true) : 0 ≤ x ∧ x ≤ 255 := by
  simp [Lit.wf, IntKind.min, IntKind.max, IntKind.bits, IntKind.signed] at h
  exact h
theorem i64_of {x : Int} (h : (Lit.int .i64 x).wf = true) : -9223372036854775808 ≤ x ∧ x ≤ 9223372036854775807 := by
  simp [Lit.wf, IntKind.min, IntKind.max, IntKind.bits, IntKind.signed] at h
  omega
end Go.Proofs.Ytoojcgmdcbcenaa
