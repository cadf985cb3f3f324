/- What comes in: bytes, a header; the variable 'fields' as the row lays it. -/
import Derived.Test.YteblbggmchcijaaDoorMAOpen
import Derived.Test.YteblbggmchcijaaDoorRows
import Derived.Test.YteblbggmchcijaaDoorMA3
import Derived.ProofKit
import Derived.OpenShut
import Derived.LaidMore
import Derived.Lay
import Derived.Stop.Joined
namespace Go.Proofs.YteblbggmchcijaaDoor
open Go.RowKit Go.ChangeShapes Go.WideShapes Go.ChangeAt Go.Proofs.YteblbggmchcijaaDoorW.PrintWords
section
variable {H : Type} (enc : TypeId × Value → H) (W : World) {spare : Nat → Bool} {held : Bool}
theorem opens_bytes : Op.Opens enc Tryd.prog W spare held 22 (Kd.slice 5 (Kd.int .u8)) (fun ys => ys.length * 1 ≤ reachBytes ∧ ∀ y ∈ ys, (Lit.int .u8 y).wf = true) :=
  Op.opens_slice enc Tryd.prog W spare held 5 Tryd.underlying22 (by kernel_rfl) (by kernel_rfl : Tryd.prog.cellsOf 5 = 1) rfl ⟨0⟩ (Op.opens_int enc Tryd.prog W spare held Tryd.underlying5)
abbrev HeadK := Kd.pair Kd.string (Kd.pair Kd.string (Kd.pair (Kd.int .i64) (Kd.pair (Kd.int .i64) (Kd.int .u8))))
theorem opens_head : Op.Opens enc Tryd.prog W spare held 25 (Kd.iso HeadK id) (fun x => x.1.size ≤ reachBytes ∧ x.2.1.size ≤ reachBytes ∧ (Lit.int .i64 x.2.2.1).wf = true ∧ (Lit.int .i64 x.2.2.2.1).wf = true ∧ (Lit.int .u8 x.2.2.2.2).wf = true) :=
  Op.opens_struct enc Tryd.prog W spare held id id (fun _ => rfl) Tryd.underlying25 rfl rfl
    (Op.tail_cons enc Tryd.prog W spare held rfl rfl (by kernel_rfl) (Op.opens_string enc Tryd.prog W spare held Tryd.underlying9)
      (Op.tail_cons enc Tryd.prog W spare held rfl rfl (by kernel_rfl) (Op.opens_string enc Tryd.prog W spare held Tryd.underlying9)
        (Op.tail_cons enc Tryd.prog W spare held rfl rfl (by kernel_rfl) (Op.opens_int enc Tryd.prog W spare held Tryd.underlying3)
          (Op.tail_cons enc Tryd.prog W spare held rfl rfl (by kernel_rfl) (Op.opens_int enc Tryd.prog W spare held Tryd.underlying3) (Op.tail_last enc Tryd.prog W spare held rfl (by kernel_rfl) (Op.opens_int enc Tryd.prog W spare held Tryd.underlying5))))))
end
theorem head_cells {W : World} {cs : Array Value} {x : ByteArray × ByteArray × Int × Int × Int} (h : (Kd.iso HeadK id).K W x (Value.agg cs).cells.toList) : cs = #[.string x.1, .string x.2.1, .int .i64 x.2.2.1, .int .i64 x.2.2.2.1, .int .u8 x.2.2.2.2] := by
  obtain ⟨c0, r0, e0, rfl, c1, r1, rfl, rfl, c2, r2, rfl, rfl, c3, r3, rfl, rfl, rfl⟩ := h
  exact Array.ext' (by simpa [Value.cells] using e0)
def fieldsL : List (DataW Unit) := [DataW.agg [.lit (.int .i64 0), .lit (.int .i64 100)], .agg [.lit (.int .i64 100), .lit (.int .i64 8)], .agg [.lit (.int .i64 108), .lit (.int .i64 8)], .agg [.lit (.int .i64 116), .lit (.int .i64 8)], .agg [.lit (.int .i64 124), .lit (.int .i64 12)], .agg [.lit (.int .i64 136), .lit (.int .i64 12)], .agg [.lit (.int .i64 148), .lit (.int .i64 8)], .agg [.lit (.int .i64 156), .lit (.int .i64 1)], .agg [.lit (.int .i64 157), .lit (.int .i64 100)], .agg [.lit (.int .i64 257), .lit (.int .i64 8)], .agg [.lit (.int .i64 345), .lit (.int .i64 155)]]
theorem fieldsL_at : ∀ i : Nat, i < 11 → fieldsL[i]? = some (DataW.agg [.lit (.int .i64 (fldAt i : Int)), .lit (.int .i64 (fldSz i : Int))])
  | 0, _ => rfl
  | 1, _ => rfl
  | 2, _ => rfl
  | 3, _ => rfl
  | 4, _ => rfl
  | 5, _ => rfl
  | 6, _ => rfl
  | 7, _ => rfl
  | 8, _ => rfl
  | 9, _ => rfl
  | 10, _ => rfl
theorem gFields : Tryd.prog.globalNamed "sutler/head.fields" = some 0 := by kernel_rfl
theorem tFields : (Tryd.prog.globals[0]?).map (·.type) = some 45 := by kernel_rfl
theorem fields_of_laid {W : World} (h : laidMetH Tryd.prog [("unicode/utf8.acceptRanges", Rows.laid_unicode_utf8_acceptRanges), ("sutler/head.fields", Rows.laid_sutler_head_fields), ("unicode/utf8.first", Rows.laid_unicode_utf8_first)] W) : Fields W := by
  rw [MakeChecks.laidMetH_plain _ _ _ (by kernel_rfl)] at h
  obtain ⟨ps, ⟨g0, t0, cs0, f0, p0, q0, hg0, ht0, hv0, hd0, ⟨g1, t1, cs1, f1, p1, q1, hg1, ht1, hv1, hd1, _, _⟩, _⟩, _, _⟩ := h
  obtain rfl := Option.some.inj (gFields.symm.trans hg1)
  obtain rfl := Option.some.inj (tFields.symm.trans ht1)
  obtain ⟨xs, m, _, ex, _, hl, hel⟩ := DataW.trod_array Tryd.underlying45 hd1
  have c44 : Tryd.prog.cellsOf 44 = 2 := by kernel_rfl
  have c3 : Tryd.prog.cellsOf 3 = 1 := by kernel_rfl
  rw [c44] at hel
  intro i hi
  have hE := hel i hi
  rw [List.getElem?_eq_getElem (by omega)] at hE
  obtain ⟨ys, n, _, e1, _, hys, hf⟩ := DataW.trod_struct Tryd.underlying44 hE
  have e3 : xs.map (·.1) = fieldsL := (DataW.agg.inj (Prod.mk.inj ex).1).symm
  have e4 := fieldsL_at i hi
  rw [← e3] at e4
  rw [List.getElem?_map, List.getElem?_eq_getElem (by omega : i < xs.length), e1] at e4
  simp only [Option.map_some, Option.some.injEq, DataW.agg.injEq] at e4
  match ys, hys with
  | [y0, y1], _ =>
    simp only [List.map_cons, List.map_nil, List.cons.injEq, and_true] at e4
    have h0 := hf 0 _ rfl
    have h1 := hf 1 _ rfl
    obtain ⟨n0, a0, b0, _⟩ := DataW.trod_int Tryd.underlying3 (show DataW.trod _ Tryd.prog W 0 _ _ n 3 _ = some y0 from h0)
    obtain ⟨n1, a1, b1, _⟩ := DataW.trod_int Tryd.underlying3 (show DataW.trod _ Tryd.prog W 0 _ _ n 3 _ = some y1 from h1)
    rw [b0, b1] at e4
    simp only [DataW.lit.injEq, Lit.int.injEq, true_and] at e4
    obtain ⟨rfl, rfl⟩ := e4
    replace a0 : List.take (Tryd.prog.cellsOf 3) (List.drop 0 (List.take 2 (List.drop (i * 2) cs1.toList))) = [.int .i64 (fldAt i : Int)] := a0
    replace a1 : List.take (Tryd.prog.cellsOf 3) (List.drop 1 (List.take 2 (List.drop (i * 2) cs1.toList))) = [.int .i64 (fldSz i : Int)] := a1
    rw [c3] at a0 a1
    rw [List.drop_zero] at a0
    have l0 : cs1.toList[i * 2]? = some (.int .i64 (fldAt i : Int)) := by
      have : (((cs1.toList.drop (i * 2)).take 2).take 1)[0]? = some (.int .i64 (fldAt i : Int)) := by
        have a0' : List.take 1 (List.take 2 (List.drop (i * 2) cs1.toList)) = [.int .i64 (fldAt i : Int)] := a0
        rw [a0']; rfl
      rw [List.getElem?_take, if_pos (by decide), List.getElem?_take, if_pos (by decide), List.getElem?_drop] at this
      exact this
    have l1 : cs1.toList[i * 2 + 1]? = some (.int .i64 (fldSz i : Int)) := by
      have : ((((cs1.toList.drop (i * 2)).take 2).drop 1).take 1)[0]? = some (.int .i64 (fldSz i : Int)) := by
        have a1' : List.take 1 (List.drop 1 (List.take 2 (List.drop (i * 2) cs1.toList))) = [.int .i64 (fldSz i : Int)] := a1
        rw [a1']; rfl
      rw [List.getElem?_take, if_pos (by decide), List.getElem?_drop, List.getElem?_take, if_pos (by decide), List.getElem?_drop] at this
      exact this
    refine ⟨?_, ?_⟩
    · rw [World.var?_cell gFields hv1 (i * 2)]; simpa using l0
    · rw [World.var?_cell gFields hv1 (i * 2 + 1)]; simpa using l1
end Go.Proofs.YteblbggmchcijaaDoor
