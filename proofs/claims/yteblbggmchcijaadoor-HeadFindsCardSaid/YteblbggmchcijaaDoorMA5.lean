/- Texts of this claim, one behind the other: Trims. -/
import Derived.Test.YteblbggmchcijaaDoorMA3
import Derived.Test.YteblbggmchcijaaDoorMA4
section
/- bytes.TrimLeft and bytes.Trim of this program: the shelf's contracts, laid at it. -/
namespace Go.Proofs.YteblbggmchcijaaDoor
open Go.RowKit Go.Lib Go.Shelf Go.Proofs.YteblbggmchcijaaDoorW.PrintWords
theorem trimLeft_sp (p : Option Addr) (n c : Nat) (xs : List Int) (w : World) (hx : xs.length = n) (hnc : n ≤ c) (hbig : c ≤ 9223372036854775807) (h1 : Lib.BytesIn w p n xs) (hr : ∀ x ∈ xs, 0 ≤ x ∧ x < 256) :
    Calls Tryd.prog 28 #[.slice p n c, .string ⟨#[32]⟩] w fun e w' => e = .returned (Lib.leftV p n c (n - (Lib.trimLeftS (Lib.bytesOf xs) [32]).length)) ∧ Below w.heap.size w w' :=
  Any.bytes_TrimLeft_laid Tryd.lays8 (by kernel_rfl) p n c xs ⟨#[32]⟩ w hx hnc hbig h1 hr (by decide) (ascii_of_all (by decide))
theorem trim_sp0 (p : Option Addr) (n c : Nat) (xs : List Int) (w : World) (hx : xs.length = n) (hnc : n ≤ c) (hbig : c ≤ 9223372036854775807) (h1 : Lib.BytesIn w p n xs) (hr : ∀ x ∈ xs, 0 ≤ x ∧ x < 256) :
    Calls Tryd.prog 29 #[.slice p n c, .string ⟨#[32, 0]⟩] w fun e w' => e = .returned (Lib.leftV p (Lib.trimRightS (Lib.bytesOf xs) [32, 0]).length c ((Lib.trimRightS (Lib.bytesOf xs) [32, 0]).length - (Lib.trimS (Lib.bytesOf xs) [32, 0]).length)) ∧ Below w.heap.size w w' :=
  Any.bytes_Trim_laid Tryd.lays6 (by kernel_rfl) p n c xs ⟨#[32, 0]⟩ w hx hnc hbig h1 hr (by decide) (ascii_of_all (by decide))
end Go.Proofs.YteblbggmchcijaaDoor
end
