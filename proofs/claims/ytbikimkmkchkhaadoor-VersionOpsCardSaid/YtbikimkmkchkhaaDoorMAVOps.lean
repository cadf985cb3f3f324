/- The call of VersionOps. -/
import Derived.Test.YtbikimkmkchkhaaDoorMAHOps
import Derived.Test.YtbikimkmkchkhaaDoorMAVBounds
namespace Go.Proofs.YtbikimkmkchkhaaDoor.PAll
open Go.RowKit Go.Proofs.YtbikimkmkchkhaaDoor Go.Proofs.YtbikimkmkchkhaaDoorW.PrintWords
theorem ops_call (A0 : Option Addr) (c0 : Nat) (x : List Int × ByteArray) (A1 : Option Addr) (c1 : Nat) (y : List Int × ByteArray) (w : World)
    (h0 : Kd.C (Kd.int .i64) w A0 x.1.length x.1) (l0 : x.1.length ≤ c0) (h1 : Kd.C (Kd.int .i64) w A1 y.1.length y.1) (l1 : y.1.length ≤ c1) (g0 : VG x) (g1 : VG y) (hT : Tabs w) :
    Calls Tryd.prog 5 #[.agg #[.slice A0 x.1.length c0, .string x.2], .agg #[.slice A1 y.1.length c1, .string y.2]] w fun e w' => e = .returned (.bool true) ∧ Below w.heap.size w w' := by
  have b0 := vg_bounds g0; have b1 := vg_bounds g1
  exact ops_walk A0 c0 x.1 x.2 A1 c1 y.1 y.2 w h0 l0 h1 l1 (by omega) (by omega) (by omega) (by omega) hT
end Go.Proofs.YtbikimkmkchkhaaDoor.PAll
