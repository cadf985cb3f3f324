/- What comes in: a version; the library's variables as the row lays them. -/
import Derived.Shelf.Vars
import Derived.Lib.LaidTab
import Derived.Test.YtbikimkmkchkhaaDoorMAOpen
import Derived.Test.YtbikimkmkchkhaaDoorRows
import Derived.Test.YtbikimkmkchkhaaDoorMAWraps
import Derived.Test.YtbikimkmkchkhaaDoorMA1
import Derived.ProofKit
import Derived.OpenShut
namespace Go.Proofs.YtbikimkmkchkhaaDoor
open Go.RowKit Go.ChangeShapes Go.WideShapes Go.ChangeAt Go.Proofs.YtbikimkmkchkhaaDoorW.PrintWords
section
variable {H : Type} (enc : TypeId × Value → H) (W : World) {spare : Nat → Bool} {held : Bool}
theorem opens_ints : Op.Opens enc Tryd.prog W spare held 22 (Kd.slice 3 (Kd.int .i64)) (fun ys => ys.length * 8 ≤ reachBytes ∧ ∀ y ∈ ys, (Lit.int .i64 y).wf = true) :=
  Op.opens_slice enc Tryd.prog W spare held 3 Tryd.underlying22 (by kernel_rfl) (by kernel_rfl : Tryd.prog.cellsOf 3 = 1) rfl ⟨0⟩ (Op.opens_int enc Tryd.prog W spare held Tryd.underlying3)
abbrev VerK := Kd.pair (Kd.slice 3 (Kd.int .i64)) Kd.string
theorem opens_version : Op.Opens enc Tryd.prog W spare held 24 (Kd.iso VerK id) (fun x => (x.1.length * 8 ≤ reachBytes ∧ ∀ y ∈ x.1, (Lit.int .i64 y).wf = true) ∧ x.2.size ≤ reachBytes) :=
  Op.opens_struct enc Tryd.prog W spare held id id (fun _ => rfl) Tryd.underlying24 rfl rfl
    (Op.tail_cons enc Tryd.prog W spare held rfl rfl (by kernel_rfl) (opens_ints enc W) (Op.tail_last enc Tryd.prog W spare held rfl (by kernel_rfl) (Op.opens_string enc Tryd.prog W spare held Tryd.underlying9)))
end
theorem version_cells {W : World} {cs : Array Value} {x : List Int × ByteArray} (h : (Kd.iso VerK id).K W x (Value.agg cs).cells.toList) : ∃ A c, cs = #[.slice A x.1.length c, .string x.2] ∧ x.1.length ≤ c ∧ Kd.C (Kd.int .i64) W A x.1.length x.1 := by
  obtain ⟨c0, r0, e0, ⟨A, c, rfl, hle, hC⟩, rfl⟩ := h
  exact ⟨A, c, Array.ext' (by simpa [Value.cells] using e0), hle, hC⟩
theorem iface_cell {H : Type} {enc : TypeId × Value → H} {P : Program} {w : World} {base : Nat} {sp : Nat → Bool} {held : Bool} {fuel : Nat} {t : TypeId} {cs : List Value} {n : String} {d : DataW H} {p : List MemPlace}
    (ht : ∃ ms, P.underlying t = some (.interface ms)) (h : DataW.trod enc P w base sp held fuel t cs = some (.iface n d, p)) : ∃ tp v, cs = [.iface tp v] := by
  cases fuel with
  | zero => simp [DataW.trod] at h
  | succ fuel =>
    obtain ⟨ms, ht⟩ := ht
    unfold DataW.trod at h
    rw [ht] at h
    split at h <;> simp_all
theorem maxlen_of_shape {W : World} (h : W.ShapedOpen Tryd.prog) : ∃ m, W.cell? ⟨0, 0, none⟩ = some (.int .i64 m) :=
  cell_of_shapedOpen_int (t := 3) (zero := #[.int .i64 0]) h (by decide +kernel) (by kernel_rfl) rfl (by kernel_rfl) (by kernel_rfl) Tryd.underlying3
abbrev laid17 : List (String × DataW Unit) := [("math/bits.deBruijn32tab", Rows.laid_math_bits_deBruijn32tab), ("math/bits.deBruijn64tab", Rows.laid_math_bits_deBruijn64tab), ("internal/strconv.uint64pow10", Rows.laid_internal_strconv_uint64pow10), ("unicode/utf8.acceptRanges", Rows.laid_unicode_utf8_acceptRanges), ("strconv.ErrRange", Rows.laid_strconv_ErrRange), ("strconv.ErrSyntax", Rows.laid_strconv_ErrSyntax), ("unicode/utf8.first", Rows.laid_unicode_utf8_first)]
theorem pow10_data : (Rows.laid_internal_strconv_uint64pow10 : DataW Unit) = Lib.tabData .u64 Lib.pow10Tab := by kernel_rfl
set_option maxRecDepth 100000 in
theorem tabs_of_laid {W : World} (h : laidMetH Tryd.prog laid17 W) (hs : W.ShapedOpen Tryd.prog) : PAll.Tabs W := by
  rw [MakeChecks.laidMetH_plain _ _ _ (by kernel_rfl)] at h
  obtain ⟨ps, ⟨_, _, _, _, _, _, _, _, _, _, ⟨_, _, _, _, _, _, _, _, _, _, ⟨g2, t2, cs2, f2, p2, q2, hg2, ht2, hv2, hd2, ⟨_, _, _, _, _, _, _, _, _, _, ⟨g4, t4, cs4, f4, p4, q4, hg4, ht4, hv4, hd4, ⟨g5, t5, cs5, f5, p5, q5, hg5, ht5, hv5, hd5, _⟩, _⟩, _⟩, _⟩, _⟩, _⟩, _, _⟩ := h
  obtain rfl := Option.some.inj ((show Tryd.prog.globalNamed "internal/strconv.uint64pow10" = some 3 by kernel_rfl).symm.trans hg2)
  obtain rfl := Option.some.inj ((show (Tryd.prog.globals[3]?).map (·.type) = some 117 by kernel_rfl).symm.trans ht2)
  obtain rfl := Option.some.inj ((show Tryd.prog.globalNamed "strconv.ErrRange" = some 2 by kernel_rfl).symm.trans hg4)
  obtain rfl := Option.some.inj ((show (Tryd.prog.globals[2]?).map (·.type) = some 55 by kernel_rfl).symm.trans ht4)
  obtain rfl := Option.some.inj ((show Tryd.prog.globalNamed "strconv.ErrSyntax" = some 1 by kernel_rfl).symm.trans hg5)
  obtain rfl := Option.some.inj ((show (Tryd.prog.globals[1]?).map (·.type) = some 55 by kernel_rfl).symm.trans ht5)
  obtain ⟨tp4, v4, e4⟩ := iface_cell ⟨_, Tryd.underlying55⟩ hd4
  obtain ⟨tp5, v5, e5⟩ := iface_cell ⟨_, Tryd.underlying55⟩ hd5
  rw [pow10_data] at hd2
  have e2 := Lib.cells_of_tab Tryd.underlying117 Tryd.underlying95 (by kernel_rfl) (by kernel_rfl) hd2
  refine ⟨maxlen_of_shape hs, ?_, ⟨tp5, v5, ?_⟩, ⟨tp4, v4, ?_⟩⟩
  · unfold Lib.TabIs
    rw [hv2, ← e2]
  · rw [hv5]; congr 1; exact Array.ext' e5
  · rw [hv4]; congr 1; exact Array.ext' e4
end Go.Proofs.YtbikimkmkchkhaaDoor
