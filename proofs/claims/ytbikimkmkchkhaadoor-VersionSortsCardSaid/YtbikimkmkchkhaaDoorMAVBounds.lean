/- What a version that comes in is bound by. -/
import Derived.Test.YtbikimkmkchkhaaDoorMAOpens
namespace Go.Proofs.YtbikimkmkchkhaaDoor.PAll
open Go.RowKit Go.Proofs.YtbikimkmkchkhaaDoor Go.Proofs.YtbikimkmkchkhaaDoorW.PrintWords
abbrev VG (x : List Int × ByteArray) : Prop := (x.1.length * 8 ≤ reachBytes ∧ ∀ y ∈ x.1, (Lit.int .i64 y).wf = true) ∧ x.2.size ≤ reachBytes
theorem vg_bounds {x : List Int × ByteArray} (h : VG x) : x.1.length ≤ 17592186043904 ∧ x.2.size ≤ 140737488351232 := by
  obtain ⟨⟨h1, _⟩, h2⟩ := h
  unfold reachBytes at h1 h2
  exact ⟨by omega, by omega⟩
end Go.Proofs.YtbikimkmkchkhaaDoor.PAll
