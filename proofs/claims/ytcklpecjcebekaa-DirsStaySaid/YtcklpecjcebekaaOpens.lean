/- What comes in: entries, bytes. -/
import Derived.Test.YtcklpecjcebekaaOpen
import Derived.Test.YtcklpecjcebekaaPAllx0
import Derived.ProofKit
namespace Go.Proofs.Ytcklpecjcebekaa
open Go.RowKit Go.Proofs.YtcklpecjcebekaaW.PrintWords Go.Proofs.Ytcklpecjcebekaa.PAll
section
variable {H : Type} (enc : TypeId × Value → H) (W : World) {spare : Nat → Bool} {held : Bool}
theorem opens_name : Op.Opens enc Try.prog W spare held 37 k37 (fun x => x.f0.size ≤ reachBytes ∧ (Lit.int .i64 x.f1).wf = true) :=
  Op.opens_struct enc Try.prog W spare held (fun x : S37 => (x.f0, x.f1)) (fun y => ⟨y.1, y.2⟩) (fun _ => rfl) Try.underlying37 rfl rfl
    (Op.tail_cons enc Try.prog W spare held rfl rfl (by kernel_rfl) (Op.opens_string enc Try.prog W spare held Try.underlying9) (Op.tail_last enc Try.prog W spare held rfl (by kernel_rfl) (Op.opens_int enc Try.prog W spare held Try.underlying3)))
theorem opens_names : Op.Opens enc Try.prog W spare held 22 (Kd.slice 37 k37) (fun ys => ys.length * 24 ≤ reachBytes ∧ ∀ y ∈ ys, y.f0.size ≤ reachBytes ∧ (Lit.int .i64 y.f1).wf = true) :=
  Op.opens_slice enc Try.prog W spare held 37 Try.underlying22 (by kernel_rfl) (by kernel_rfl : Try.prog.cellsOf 37 = 2) rfl ⟨z37⟩ (opens_name enc W)
theorem opens_bytes : Op.Opens enc Try.prog W spare held 24 (Kd.slice 5 (Kd.int .u8)) (fun ys => ys.length * 1 ≤ reachBytes ∧ ∀ y ∈ ys, (Lit.int .u8 y).wf = true) :=
  Op.opens_slice enc Try.prog W spare held 5 Try.underlying24 (by kernel_rfl) (by kernel_rfl : Try.prog.cellsOf 5 = 1) rfl ⟨0⟩ (Op.opens_int enc Try.prog W spare held Try.underlying5)
end
end Go.Proofs.Ytcklpecjcebekaa
