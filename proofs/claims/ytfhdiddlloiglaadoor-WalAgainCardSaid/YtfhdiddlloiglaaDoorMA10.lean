/- Texts of this claim, one behind the other: E. -/
import Derived.Test.YtfhdiddlloiglaaDoorMA9
import Derived.Laws.MakeOwn
import Derived.Carry
section
/- disk.New. -/
namespace Go.Proofs.YtfhdiddlloiglaaDoor
open Go.RowKit Go.Proofs.YtfhdiddlloiglaaDoorW.PrintWords
set_option linter.unusedVariables false
set_option linter.unusedSimpArgs false
set_option maxRecDepth 100000

theorem new_bad {w : World} (n : Int) (h : ¬ (1 ≤ n ∧ n ≤ 4096)) : Calls Tryd.prog 27 #[.int .i64 n] w fun e w' => e = .returned (.tuple #[.pointer none, .int .i64 2]) ∧ w' = w := by
  by_cases h1 : n < 1
  · have b1 : decide (n < 1) = true := decide_eq_true h1
    go_enter Tryd.func27, Tryd.ntmps27
    go_wp2
    go_ret2
    exact ⟨rfl, rfl⟩
  · have b1 : decide (n < 1) = false := decide_eq_false h1
    have b2 : decide (4096 < n) = true := decide_eq_true (by omega)
    go_enter Tryd.func27, Tryd.ntmps27
    go_wp2
    go_ret2
    exact ⟨rfl, rfl⟩
theorem info5_ : (Tryd.prog.info? 5).map (fun i => (i.zero, i.size, i.bytes)) = some (some (.int .u8 0), 1, 1) := by kernel_rfl
theorem info5 : ∃ i, Tryd.prog.info? 5 = some i ∧ i.zero = some (.int .u8 0) ∧ i.size = 1 ∧ i.bytes = 1 := by
  have h := info5_
  cases hi : Tryd.prog.info? 5 with
  | none => rw [hi] at h; cases h
  | some i =>
    rw [hi] at h
    simp only [Option.map_some, Option.some.injEq, Prod.mk.injEq] at h
    exact ⟨i, rfl, h.1, h.2.1, h.2.2⟩
def zeros (n : Nat) : Obj := .cells (madeCells #[.int .u8 0] n) 5
theorem make_bytes (w : World) (c : Int) (h0 : 0 ≤ c) (h : c ≤ 1048576) : (Instr.makeSlice 44 (.int .i64 c) (.int .i64 c)).run Tryd.prog w = .ok (.slice (some ⟨w.heap.size, 0, none⟩) c.toNat c.toNat) (w.alloc (zeros c.toNat)) := by
  obtain ⟨i, hi, hz, hs, hb⟩ := info5
  have := run_make (P := Tryd.prog) w 44 5 i (.int .u8 0) Tryd.underlying44 hi hz .i64 .i64 c c h0 (Int.le_refl _) (by rw [hb]; omega) (by omega)
  rw [this, hs, Nat.mul_one]
  rfl
def newWorld (w : World) (n : Nat) : World := (((w.alloc (zeros (n * 256))).alloc (.map #[] 0)).alloc (.map #[] 0)).alloc (.cells #[.slice (some ⟨w.heap.size, 0, none⟩) (n * 256) (n * 256), .map (some (w.heap.size + 1)), .map (some (w.heap.size + 2)), .int .i64 (-1), .bool false, .int .i64 0] 83)
theorem new_ok {w : World} (n : Nat) (h1 : 1 ≤ n) (h2 : n ≤ 4096) : Calls Tryd.prog 27 #[.int .i64 n] w fun e w' => e = .returned (.tuple #[.pointer (some ⟨w.heap.size + 3, 0, none⟩), .int .i64 0]) ∧ w' = newWorld w n := by
  have b1 : decide ((n : Int) < 1) = false := decide_eq_false (by omega)
  have b2 : decide (4096 < (n : Int)) = false := decide_eq_false (by omega)
  have wr : wrap64 ((n : Int) * 256) = ((n * 256 : Nat) : Int) := by unfold wrap64; omega
  have hm := make_bytes w ((n : Int) * 256) (by omega) (by omega)
  have en : ((n : Int) * 256).toNat = n * 256 := by omega
  rw [en] at hm
  have m50 := fun w => run_makeMap (P := Tryd.prog) 80 w
  have m51 := fun w => run_makeMap (P := Tryd.prog) 81 w
  go_enter Tryd.func27, Tryd.ntmps27
  go_wp2
  go_ret2
  exact ⟨rfl, rfl⟩
end Go.Proofs.YtfhdiddlloiglaaDoor
end
