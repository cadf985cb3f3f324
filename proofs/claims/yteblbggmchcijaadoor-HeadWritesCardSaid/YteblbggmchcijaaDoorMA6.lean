/- Texts of this claim, one behind the other: G. -/
import Derived.Lib.BufferWrite
import Derived.Lib.SlBuf
import Derived.Test.YteblbggmchcijaaDoorMA3
section
/- The closure in head.Print: a text is put into a field. -/
namespace Go.Proofs.YteblbggmchcijaaDoor
open Go.RowKit Go.Lib Go.Proofs.YteblbggmchcijaaDoorW.PrintWords Go.Proofs.YteblbggmchcijaaDoorW.PrintLast Go.Proofs.YteblbggmchcijaaDoorW.PrintMore
attribute [local go_sem] Oper.semAt_some
set_option linter.unusedVariables false
set_option linter.unusedSimpArgs false

/-- A text at a place of bytes. -/
def putL (X : List Int) (at_ : Nat) (s : ByteArray) : List Int := X.take at_ ++ YteblbggmchcijaaDoorW.PrintWords.bytesOf s ++ X.drop (at_ + s.size)
theorem putL_length (X : List Int) (at_ : Nat) (s : ByteArray) (h : at_ + s.size ≤ X.length) : (putL X at_ s).length = X.length := by
  unfold putL
  rw [List.length_append, List.length_append, YteblbggmchcijaaDoorW.PrintWords.bytesOf_length, List.length_take, List.length_drop]; omega
theorem putL_cells (X : List Int) (at_ : Nat) (s : ByteArray) : ((nums .u8 X).toArray.toList.take at_ ++ Lib.byteCells s.data.toList ++ (nums .u8 X).toArray.toList.drop (at_ + s.size)).toArray = (nums .u8 (putL X at_ s)).toArray := by
  congr 1
  simp [nums, putL, Lib.byteCells, YteblbggmchcijaaDoorW.PrintWords.bytesOf]

set_option maxHeartbeats 2000000 in
theorem put_calls (g box : Nat) (X : List Int) (f : Nat) (s : ByteArray) (w : World) (hF : Fields w) (hf : f < 11) (hbox : w.cell? ⟨box, 0, none⟩ = some (.slice (some ⟨g, 0, none⟩) 512 512)) (hg : w.heap[g]? = some (.cells (nums .u8 X).toArray 5 (0, 0)))
    (hX : X.length = 512) (hs : s.size ≤ fldSz f) :
    Calls Tryd.prog 32 #[.int .i64 (f : Int), .string s, .pointer (some ⟨box, 0, none⟩)] w fun e w' => e = .returned (.tuple #[]) ∧ ∃ w1, Below w.heap.size w w1 ∧ w' = w1.setRow g (nums .u8 (putL X (fldAt f) s)).toArray := by
  have hle := fld_le f hf
  have hof := of_calls ⟨g, 0, none⟩ 512 f w hF hf (by omega) (by omega)
  obtain ⟨a, ha⟩ : ∃ a, fldAt f = a := ⟨_, rfl⟩
  obtain ⟨z, hz⟩ : ∃ z, fldSz f = z := ⟨_, rfl⟩
  rw [ha, hz] at hle hof
  rw [hz] at hs
  rw [ha]
  clear ha hz hF
  have had : (⟨g, 0, none⟩ : Addr).add a = ⟨g, a, none⟩ := by simp [Addr.add_lit]
  rw [had] at hof
  have hbg := (Array.getElem?_eq_some_iff.1 hg).1
  have HG := Aside0.mk hg
  have HX := Aside0.mk hX
  clear hg hX had
  go_enter Tryd.func32, Tryd.ntmps32
  go_wp2_with (first
    | (go_at_call 23; refine hof.mono ?_; rintro e w1 ⟨rfl, hb⟩; have HB := Aside0.mk hb; have hg1 : w1.heap[g]? = some (.cells (nums .u8 X).toArray 5 (0, 0)) := (hb.block g hbg).trans HG.out; have hrun := run_copy_row_string (P := Tryd.prog) w1 22 9 3 5 g a z z s (nums .u8 X).toArray 5 Tryd.underlying22 (by kernel_rfl) hg1 hs (by have h1 : (nums .u8 X).toArray.size = 512 := (by simp [nums, HX.out]); omega); rw [putL_cells] at hrun; clear hb)
    | (at_builtin; refine Lib.wpList_copy_run _ rfl (.tmp 7) (.tmp 8) 22 9 rfl _ _ rfl rfl hrun ?_))
  exact ⟨rfl, .tuple #[], by simp [results, Tryd.results32, go_sem], rfl, w1, HB.out, rfl⟩
end Go.Proofs.YteblbggmchcijaaDoor
end
