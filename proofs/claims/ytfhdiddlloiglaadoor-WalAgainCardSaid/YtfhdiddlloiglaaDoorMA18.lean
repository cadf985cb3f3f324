/- Texts of this claim, one behind the other: Q1. -/
import Derived.Test.YtfhdiddlloiglaaDoorMA17
import Derived.ChangeKeysEq
section
namespace Go.Proofs.YtfhdiddlloiglaaDoor
open Go.RowKit Go.Proofs.YtfhdiddlloiglaaDoorW.PrintWords
theorem und5 : Tryd.prog.underlying 5 = some (.int .u8) := Tryd.underlying5
theorem cells5 : Tryd.prog.cellsOf 5 = 1 := by kernel_rfl
theorem pk5 : Tryd.prog.plainKey 5 = true := by kernel_rfl
theorem run_eqItems_b (w : World) (d : Nat) (l1 l2 : List Int) (h : l1.length = l2.length) : ∀ is : List Nat, (∀ i ∈ is, i < l1.length) → (Op.eqItems (d + 1) 5 1 (bytes l1).toArray (bytes l2).toArray is).run Tryd.prog w = .ok (is.all fun i => l1.getD i 0 == l2.getD i 0) w
  | [], _ => by simp [Op.eqItems]
  | i :: is, hi => by
    have h1 : i < l1.length := hi i (by simp)
    have h2 : i < l2.length := by omega
    have ih := run_eqItems_b w d l1 l2 h is (fun j hj => hi j (by simp [hj]))
    have p1 : (part 5 (bytes l1).toArray (i * 1)).run Tryd.prog w = .ok (.int .u8 (l1.getD i 0)) w := run_part_plain w pk5 (by simp [bytes, List.getElem?_eq_getElem h1])
    have p2 : (part 5 (bytes l2).toArray (i * 1)).run Tryd.prog w = .ok (.int .u8 (l2.getD i 0)) w := run_part_plain w pk5 (by simp [bytes, List.getElem?_eq_getElem h2])
    simp only [Op.eqItems, Sem.run_bind, p1, p2, Result.andThen_ok, run_equalIn_int w d 5 .u8 .u8 _ _ und5, List.all_cons]
    cases (l1.getD i 0 == l2.getD i 0) with
    | true => simpa using ih
    | false => simp
theorem run_neq_bytes (w : World) (l1 l2 : List Int) (h1 : l1.length = 256) (h2 : l2.length = 256) : (binOp .neq 93 (.agg (bytes l1).toArray) (.agg (bytes l2).toArray)).run Tryd.prog w = .ok (.bool (!decide (l1 = l2))) w := by
  obtain ⟨i, hi⟩ : ∃ i, Tryd.prog.info? 5 = some i := info_of_underlying und5
  have h := run_equalIn_array w (P := Tryd.prog) 9999 (bytes l1).toArray (bytes l2).toArray und93 hi
  rw [cells5, run_eqItems_b w 9998 l1 l2 (by omega) (List.range 256) (fun j hj => by have := List.mem_range.1 hj; omega)] at h
  have e : ((List.range 256).all fun i => l1.getD i 0 == l2.getD i 0) = decide (l1 = l2) := by
    rw [Bool.eq_iff_iff, List.all_eq_true, decide_eq_true_eq]
    constructor
    · intro ha
      refine eq_of_take (by omega) fun j hj => ?_
      exact beq_iff_eq.1 (ha j (List.mem_range.2 (by omega)))
    · rintro rfl j _
      simp
  rw [e] at h
  have h' : (Op.equal 93 (.agg (bytes l1).toArray) (.agg (bytes l2).toArray)).run Tryd.prog w = .ok (decide (l1 = l2)) w := h
  simp [binOp, h']
end Go.Proofs.YtfhdiddlloiglaaDoor
end
