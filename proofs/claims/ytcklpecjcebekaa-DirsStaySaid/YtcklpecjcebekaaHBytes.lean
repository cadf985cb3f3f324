/- append to a row of bytes of the call's own, one step of a drawing region: bytes, a string. -/
import Derived.Lib.AppendStr
import Derived.Test.YtcklpecjcebekaaHDelete
namespace Go.Proofs.Ytcklpecjcebekaa.PAll
open Go.RowKit Go.Shelf Go.Lib Go.Proofs.YtcklpecjcebekaaW.PrintWords Go.Proofs.YtcklpecjcebekaaW.PrintLast Go.Proofs.YtcklpecjcebekaaW.PrintMore
set_option linter.unusedVariables false
set_option linter.unusedSimpArgs false

abbrev BRow (W : World) (base : Nat) (v : Value) (acc : List Int) : Prop := W.ownsRow base 5 1 v acc.length (nums .u8 acc)
theorem not_box {W : World} {base : Nat} {v : Value} {acc : List Int} (hO : BRow W base v acc) {k t : Nat} {cells : Array Value} (hb : W.heap[k]? = some (.cells cells t (0, 0))) (ht : t ≠ 5) : some k ≠ v.ownBlock := by
  intro e
  rcases hO.2 with ⟨rfl, _⟩ | ⟨g, cap, cur, rfl, _, hg, _⟩
  · simp [Value.ownBlock] at e
  · have : k = g := by simpa [Value.ownBlock] using e
    subst this
    rw [hb] at hg
    simp at hg
    exact ht hg.2
section
variable {ops : Array Oper} {o : Oper} {a : Act} {W : World} {K : Act → World → Prop} {Q : Exit → Act → World → Prop} {E : Prop}
theorem step_bytes (base : Nat) (hg : o.guard = none) (d x : Operand) (hop : o.op = Op.call { callee := Callee.builtin Builtin.append, args := #[d, x], argTypes := #[24, 24] })
    (v : Value) (acc zs : List Int) (A : Addr) (m c : Nat) (hd : a.eval d = v) (hx : a.eval x = .slice (some A) m c) (hm : zs.length = m) (hO : BRow W base v acc) (hz : ∀ j u, (nums .u8 zs)[j]? = some u → W.cell? (A.add j) = some u)
    (hbase : base ≤ W.heap.size) (hl : acc.length + zs.length ≤ 140737488355328)
    (hK : ∀ v1 w1, BRow w1 base v1 (acc ++ zs) → W.grownBy w1 v.ownBlock → K (a.put o.dst v1) w1) : if Region.wanted o (yielded ops a.tmps) = true then Oper.wp Try.prog o a W K Q else E := by
  obtain ⟨i0, hi, hz0, hz1, hz2⟩ := info_parts info5
  obtain ⟨v1, w1, hr, ho, hgr, _⟩ := run_append_own (P := Try.prog) W base 24 o.type 5 i0 (.int .u8 0) 1 1 Try.underlying24 hi hz0 hz1 hz2 rfl (by decide) v acc.length (nums .u8 acc) hO A m c (nums .u8 zs) (by simp [nums, hm]) hz (by intro u hu; simp [nums] at hu; obtain ⟨z, _, rfl⟩ := hu; rfl) (by simp only [maxLen]; omega) (by omega) hbase
  refine step_append_runI hg d x 24 24 hop v _ hd hx hr (hK v1 w1 ?_ hgr)
  rw [← hm] at ho
  simpa [BRow, nums_append] using ho
theorem step_str (base : Nat) (hg : o.guard = none) (d x : Operand) (hop : o.op = Op.call { callee := Callee.builtin Builtin.append, args := #[d, x], argTypes := #[24, 9] })
    (v : Value) (acc : List Int) (s : ByteArray) (hd : a.eval d = v) (hx : a.eval x = .string s) (hO : BRow W base v acc) (hbase : base ≤ W.heap.size) (hl : acc.length + s.size ≤ 140737488355328)
    (hK : ∀ v1 w1, BRow w1 base v1 (acc ++ YtcklpecjcebekaaW.PrintWords.bytesOf s) → W.grownBy w1 v.ownBlock → K (a.put o.dst v1) w1) : if Region.wanted o (yielded ops a.tmps) = true then Oper.wp Try.prog o a W K Q else E := by
  obtain ⟨i0, hi, hz0, hz1, hz2⟩ := info_parts info5
  obtain ⟨v1, w1, hr, ho, hgr, _⟩ := Lib.run_append_own_string (P := Try.prog) W base 24 9 o.type 5 i0 Try.underlying24 Try.underlying9 hi hz0 hz1 hz2 v acc.length (nums .u8 acc) hO s (by simp only [maxLen]; omega) hl hbase
  refine step_append_runI hg d x 24 9 hop v _ hd hx hr (hK v1 w1 ?_ hgr)
  have hc : nums .u8 (acc ++ YtcklpecjcebekaaW.PrintWords.bytesOf s) = nums .u8 acc ++ Lib.strCells s := by
    rw [nums_append]; congr 1; simp [nums, YtcklpecjcebekaaW.PrintWords.bytesOf, Lib.strCells]
  have hl2 : (acc ++ YtcklpecjcebekaaW.PrintWords.bytesOf s).length = acc.length + s.size := by rw [List.length_append, YtcklpecjcebekaaW.PrintWords.bytesOf_length]
  unfold BRow
  rw [hc, hl2]; exact ho
theorem wpl_bytes {rest : List Oper} (base : Nat) (hg : o.guard = none) (d x : Operand) (hop : o.op = Op.call { callee := Callee.builtin Builtin.append, args := #[d, x], argTypes := #[24, 24] })
    (v : Value) (acc zs : List Int) (A : Addr) (m c : Nat) (hd : a.eval d = v) (hx : a.eval x = .slice (some A) m c) (hm : zs.length = m) (hO : BRow W base v acc) (hz : ∀ j u, (nums .u8 zs)[j]? = some u → W.cell? (A.add j) = some u)
    (hbase : base ≤ W.heap.size) (hl : acc.length + zs.length ≤ 140737488355328)
    (hK : ∀ v1 w1, BRow w1 base v1 (acc ++ zs) → W.grownBy w1 v.ownBlock → wpList Try.prog ops Q rest (a.put o.dst v1) w1) : wpList Try.prog ops Q (o :: rest) a W := by
  refine wpList_plain hg fun K' hK' => ?_
  have := step_bytes (ops := ops) (K := K') (Q := Q) (E := True) base hg d x hop v acc zs A m c hd hx hm hO hz hbase hl (fun v1 w1 h1 h2 => hK' _ _ (hK v1 w1 h1 h2))
  rwa [if_pos (by simp [Region.wanted, hg])] at this
end
end Go.Proofs.Ytcklpecjcebekaa.PAll
