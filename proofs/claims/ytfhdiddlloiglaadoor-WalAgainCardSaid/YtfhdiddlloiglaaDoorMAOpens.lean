/- What comes in: numbers, cuts; the table of the checksum as the row lays it. -/
import Derived.Test.YtfhdiddlloiglaaDoorMAOpen
import Derived.Test.YtfhdiddlloiglaaDoorRows
import Derived.Test.YtfhdiddlloiglaaDoorMA20
import Derived.ProofKit
import Derived.OpenShut
import Derived.LaidMore
import Derived.Lay
import Derived.Stop.Joined
namespace Go.Proofs.YtfhdiddlloiglaaDoor
open Go.RowKit Go.ChangeShapes Go.WideShapes Go.ChangeAt Go.Proofs.YtfhdiddlloiglaaDoorW.PrintWords
section
variable {H : Type} (enc : TypeId × Value → H) (W : World) {spare : Nat → Bool} {held : Bool}
theorem opens_ints : Op.Opens enc Tryd.prog W spare held 22 (Kd.slice 3 (Kd.int .i64)) (fun ys => ys.length * 8 ≤ reachBytes ∧ ∀ y ∈ ys, (Lit.int .i64 y).wf = true) :=
  Op.opens_slice enc Tryd.prog W spare held 3 Tryd.underlying22 (by kernel_rfl) (by kernel_rfl : Tryd.prog.cellsOf 3 = 1) rfl ⟨0⟩ (Op.opens_int enc Tryd.prog W spare held Tryd.underlying3)
theorem opens_cut : Op.Opens enc Tryd.prog W spare held 51 k51 (fun x => (Lit.int .i64 x.f0).wf = true ∧ x.f1.length * 8 ≤ reachBytes ∧ ∀ y ∈ x.f1, (Lit.int .i64 y).wf = true) :=
  Op.opens_struct enc Tryd.prog W spare held (fun x : S51 => (x.f0, x.f1)) (fun y => ⟨y.1, y.2⟩) (fun _ => rfl) Tryd.underlying51 rfl rfl
    (Op.tail_cons enc Tryd.prog W spare held rfl rfl (by kernel_rfl) (Op.opens_int enc Tryd.prog W spare held Tryd.underlying3)
    (Op.tail_last enc Tryd.prog W spare held rfl (by kernel_rfl) (opens_ints enc W)))
theorem opens_cuts : Op.Opens enc Tryd.prog W spare held 39 (Kd.slice 51 k51) (fun ys => ys.length * 32 ≤ reachBytes ∧ ∀ x ∈ ys, (Lit.int .i64 x.f0).wf = true ∧ x.f1.length * 8 ≤ reachBytes ∧ ∀ y ∈ x.f1, (Lit.int .i64 y).wf = true) :=
  Op.opens_slice enc Tryd.prog W spare held 51 Tryd.underlying39 (by kernel_rfl) (by kernel_rfl : Tryd.prog.cellsOf 51 = 2) rfl ⟨⟨0, []⟩⟩ (opens_cut enc W)
end
theorem cut_cells {W : World} {cs : Array Value} {x : S51} (h : k51.K W x (Value.agg cs).cells.toList) : ∃ A c, cs = #[.int .i64 x.f0, .slice A x.f1.length c] ∧ x.f1.length ≤ c ∧ RdI W A x.f1 := by
  obtain ⟨c0, r0, e, h0, A4, c4, h4, l4, g4⟩ := h
  have h0 : c0 = [.int .i64 x.f0] := h0
  have h4 : r0 = [.slice A4 x.f1.length c4] := h4
  subst h0 h4
  exact ⟨A4, c4, Array.ext' (by simpa [Value.cells] using e), l4, g4⟩
theorem bulk_pos {H : Type} : ∀ d : DataW H, 1 ≤ Rows.uptoBulk d
  | .lit l => by cases l <;> simp [Rows.uptoBulk]
  | .nil => by simp [Rows.uptoBulk]
  | .ptr d => by simp [Rows.uptoBulk]
  | .slice e s => by simp [Rows.uptoBulk]
  | .agg p => by simp [Rows.uptoBulk]
  | .iface _ d => by simp [Rows.uptoBulk]
  | .map e => by simp [Rows.uptoBulk]
  | .held _ => by simp [Rows.uptoBulk]
theorem bulk_all {H : Type} : ∀ l : List (DataW H), l.length ≤ Rows.uptoBulkAll l
  | [] => Nat.zero_le _
  | d :: r => by
    have h1 := bulk_pos d
    have h2 := bulk_all r
    rw [Rows.uptoBulkAll, List.length_cons]; omega
theorem slice_bulk {H : Type} {enc : TypeId × Value → H} {P : Program} {W : World} {spare : Nat → Bool} {held : Bool} {t e : TypeId} {A : Option Addr} {n c : Nat} {x : DataW H} {ps : List MemPlace} (ht : P.underlying t = some (.slice e)) (h : DataW.Trod enc P W 0 spare held t (.slice A n c) x ps) : n ≤ Rows.uptoBulk x := by
  obtain ⟨fuel, hf⟩ := h
  rcases Go.Deep.open_slice ht hf with ⟨h1, h2⟩ | ⟨a, len, cap, m, k, D, Pl, h1, _, _, _, _, h2, _⟩
  · have : A = none ∧ n = 0 ∧ c = 0 := by simpa [Value.cells] using h1
    omega
  · have e1 : n = len := by
      have : A = some a ∧ n = len ∧ c = cap := by simpa [Value.cells] using h1
      exact this.2.1
    have e2 := (Prod.mk.inj h2).1
    rw [e2, Rows.uptoBulk]
    have := bulk_all ((List.range len).map D)
    rw [List.length_map, List.length_range] at this
    omega
theorem byte_of {x : Int} (h : (Lit.int .u8 x).wf = true) : 0 ≤ x ∧ x ≤ 255 := by
  simp [Lit.wf, IntKind.min, IntKind.max, IntKind.bits, IntKind.signed] at h
  exact h
def halfL : List (DataW Unit) := half.map fun b => .lit (.int .u32 (b.toNat : Int))
theorem halfL_at {i : Nat} (h : i < 16) : halfL[i]? = some (.lit (.int .u32 ((half.getD i 0).toNat : Int))) := by
  have e : i < half.length := h
  unfold halfL
  rw [List.getElem?_map, List.getElem?_eq_getElem e, List.getD_eq_getElem?_getD, List.getElem?_eq_getElem e]; rfl
theorem gHalf : Tryd.prog.globalNamed "sutler/crc.half" = some 0 := by kernel_rfl
theorem tHalf : (Tryd.prog.globals[0]?).map (·.type) = some 132 := by kernel_rfl
theorem half_of_laid {W : World} (h : laidMetH Tryd.prog [("sutler/crc.half", Rows.laid_sutler_crc_half)] W) : Half W := by
  rw [MakeChecks.laidMetH_plain _ _ _ (by kernel_rfl)] at h
  obtain ⟨ps, ⟨g0, t0, cs0, f0, p0, q0, hg0, ht0, hv0, hd0, _, _⟩, _, _⟩ := h
  obtain rfl := Option.some.inj (gHalf.symm.trans hg0)
  obtain rfl := Option.some.inj (tHalf.symm.trans ht0)
  obtain ⟨xs, m, _, ex, _, hl, hel⟩ := DataW.trod_array Tryd.underlying132 hd0
  have c1 : Tryd.prog.cellsOf 100 = 1 := by kernel_rfl
  rw [c1] at hel
  have e3 : xs.map (·.1) = halfL := (DataW.agg.inj (Prod.mk.inj ex).1).symm
  intro i hi
  have hE := hel i hi
  rw [List.getElem?_eq_getElem (by omega)] at hE
  obtain ⟨n0, a0, b0, _⟩ := DataW.trod_int Tryd.underlying100 hE
  have e4 := halfL_at hi
  rw [← e3, List.getElem?_map, List.getElem?_eq_getElem (by omega : i < xs.length)] at e4
  simp only [Option.map_some, Option.some.injEq] at e4
  rw [b0] at e4
  simp only [DataW.lit.injEq, Lit.int.injEq, true_and] at e4
  subst e4
  have l0 : cs0.toList[i]? = some (.int .u32 ((half.getD i 0).toNat : Int)) := by
    have : ((cs0.toList.drop (i * 1)).take 1)[0]? = some (.int .u32 ((half.getD i 0).toNat : Int)) := by rw [a0]; rfl
    rw [List.getElem?_take, if_pos (by decide), List.getElem?_drop, Nat.mul_one] at this
    exact this
  rw [World.var?_cell gHalf hv0 i]
  simpa using l0
theorem half_of_laid2 {W : World} (h : laidMetH Tryd.prog [("sutler/crc.half", Rows.laid_sutler_crc_half)] W) {P : Prop} (_ : P) : Half W := half_of_laid h
end Go.Proofs.YtfhdiddlloiglaaDoor
