/- The call of VersionOrders. -/
import Derived.Test.YtbikimkmkchkhaaDoorMAU1
import Derived.Test.YtbikimkmkchkhaaDoorMAVBounds
namespace Go.Proofs.YtbikimkmkchkhaaDoor.PAll
open Go.RowKit Go.Proofs.YtbikimkmkchkhaaDoor Go.Proofs.YtbikimkmkchkhaaDoorW.PrintWords
theorem orders_call (A0 : Option Addr) (c0 : Nat) (x : List Int × ByteArray) (A1 : Option Addr) (c1 : Nat) (y : List Int × ByteArray) (A2 : Option Addr) (c2 : Nat) (z : List Int × ByteArray) (w : World)
    (h0 : Kd.C (Kd.int .i64) w A0 x.1.length x.1) (l0 : x.1.length ≤ c0) (h1 : Kd.C (Kd.int .i64) w A1 y.1.length y.1) (l1 : y.1.length ≤ c1) (h2 : Kd.C (Kd.int .i64) w A2 z.1.length z.1) (l2 : z.1.length ≤ c2) (g0 : VG x) (g1 : VG y) (g2 : VG z) (hT : Tabs w) :
    Calls Tryd.prog 3 #[.agg #[.slice A0 x.1.length c0, .string x.2], .agg #[.slice A1 y.1.length c1, .string y.2], .agg #[.slice A2 z.1.length c2, .string z.2]] w fun e w' => e = .returned (.bool true) ∧ Below w.heap.size w w' := by
  have b0 := vg_bounds g0; have b1 := vg_bounds g1; have b2 := vg_bounds g2
  exact sutlerlaw17_VersionOrders.calls 1 A0 c0 x.1 x.2 A1 c1 y.1 y.2 A2 c2 z.1 z.2 true w h0 l0 h1 l1 h2 l2 (orders_pure _ _ _ _ _ _ (by omega) (by omega) (by omega) (by omega) (by omega) (by omega)) hT
end Go.Proofs.YtbikimkmkchkhaaDoor.PAll
