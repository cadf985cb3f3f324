/- The law DirsStay, walked. -/
import Derived.Test.YtcklpecjcebekaaPure3
namespace Go.Proofs.Ytcklpecjcebekaa.PAll
open Go.RowKit Go.Proofs.YtcklpecjcebekaaW.PrintWords
theorem stay_walk (A0 : Option Addr) (c0 : Nat) (l0 : List (S37)) (a1 : ByteArray) (a2 : Int) (w : World) (hr0 : Kd.C k37 w A0 l0.length l0) (hc0 : l0.length ≤ c0) :
    Calls Try.prog 3 #[.slice A0 l0.length c0, .string a1, .int .i64 a2] w fun e w' => e = .returned (.bool true) ∧ Below w.heap.size w w' := by
  obtain ⟨k, hk⟩ := (stay_f l0 a1 a2).rounds
  exact sutlerlaw07_DirsStay.calls k A0 c0 l0 a1 a2 true w hr0 hc0 hk
end Go.Proofs.Ytcklpecjcebekaa.PAll
