/- The call of VersionBack. -/
import Derived.Test.YtbikimkmkchkhaaDoorMAU2
import Derived.Test.YtbikimkmkchkhaaDoorMAVBounds
namespace Go.Proofs.YtbikimkmkchkhaaDoor.PAll
open Go.RowKit Go.Proofs.YtbikimkmkchkhaaDoor Go.Proofs.YtbikimkmkchkhaaDoorW.PrintWords
theorem back_call (s : ByteArray) (A1 : Option Addr) (c1 : Nat) (y : List Int × ByteArray) (w : World)
    (h1 : Kd.C (Kd.int .i64) w A1 y.1.length y.1) (l1 : y.1.length ≤ c1) (hs : s.size ≤ 1048576) (g1 : VG y) (hT : Tabs w) :
    Calls Tryd.prog 6 #[.string s, .agg #[.slice A1 y.1.length c1, .string y.2]] w fun e w' => e = .returned (.bool true) ∧ Below w.heap.size w w' := by
  have b1 := vg_bounds g1
  obtain ⟨k, hk⟩ := back_pure s y.1 y.2 (by omega) (by omega) (by omega)
  exact sutlerlaw17_VersionBack.calls k s A1 c1 y.1 y.2 true w h1 l1 hk hT
end Go.Proofs.YtbikimkmkchkhaaDoor.PAll
