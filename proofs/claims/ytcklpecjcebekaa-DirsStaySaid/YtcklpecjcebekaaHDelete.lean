/- slices.Delete at entries, one entry. -/
import Derived.Deep.AppendSrc
import Derived.Test.YtcklpecjcebekaaHInsert
namespace Go.Proofs.Ytcklpecjcebekaa.PAll
open Go.RowKit Go.Shelf Go.Lib Go.Proofs.YtcklpecjcebekaaW.PrintWords Go.Proofs.YtcklpecjcebekaaW.PrintLast Go.Proofs.YtcklpecjcebekaaW.PrintMore
set_option linter.unusedVariables false
set_option linter.unusedSimpArgs false

/-- append in place, told as a row. -/
theorem append_row (w : World) (ty : TypeId) (g i cap : Nat) (cur : Array Value) (A : Addr) (m c : Nat) (news : List Value) (hg : w.heap[g]? = some (.cells cur 37 (0, 0)))
    (hroom : i + m ≤ cap) (hcs : cur.size = cap * 2) (hn : news.length = m * 2) (hnews : ∀ j u, news[j]? = some u → w.cell? (A.add j) = some u) (h1 : ∀ u ∈ news, u.oneCell' = true) :
    (Builtin.append_ #[22, 22] ty #[.slice (some ⟨g, 0, none⟩) i cap, .slice (some A) m c]).run Try.prog w = .ok (.slice (some ⟨g, 0, none⟩) (i + m) cap) (w.setRow g (cur.toList.take (i * 2) ++ news ++ cur.toList.drop (i * 2 + news.length)).toArray) := by
  obtain ⟨i0, hi, hz0, hz1, hz2⟩ := info_parts info37
  have hfc := run_firstCells_some (P := Try.prog) w 2 m A m c news hn hnews
  have hst := run_storeCells_at Try.prog g (i * 2) 37 news 0 cur w hg (by rw [hcs, hn]; omega) h1
  simp only [Nat.add_zero] at hst
  simp [Builtin.append_, run_underlying Try.underlying22, sizeOf, typeInfo, hi, Builtin.lenOf, hroom, Addr.add_lit, hz1, add_lit, hfc, hst]

theorem step_append_runI {P : Program} {ops : Array Oper} {o : Oper} {a : Act} {w : World} {K : Act → World → Prop} {Q : Exit → Act → World → Prop} {E : Prop}
    (hg : o.guard = none) (d x : Operand) (dT sT : TypeId) (hop : o.op = Op.call { callee := Callee.builtin Builtin.append, args := #[d, x], argTypes := #[dT, sT] })
    (v u : Value) (hd : a.eval d = v) (hx : a.eval x = u) {v' : Value} {w' : World} (hr : (Builtin.append_ #[dT, sT] o.type #[v, u]).run P w = .ok v' w') (hK : K (a.put o.dst v') w') :
    if Region.wanted o (yielded ops a.tmps) = true then Oper.wp P o a w K Q else E := by
  have hw : Region.wanted o (yielded ops a.tmps) = true := by simp [Region.wanted, hg]
  rw [if_pos hw]
  unfold Oper.wp
  simp [execOp, hop, resolve, invoke, builtin, hd, hx, hr, Result.andThen]
  exact hK

theorem clear_row (w : World) (ty : TypeId) (g o c : Nat) (cur : Array Value) (hg : w.heap[g]? = some (.cells cur 37 (0, 0))) (ho : o + 2 ≤ cur.size) :
    (Builtin.clear_ #[22] ty #[.slice (some ⟨g, o, none⟩) 1 c]).run Try.prog w = .ok (.tuple #[]) (w.setRow g (cur.toList.take o ++ ([.string ⟨#[]⟩, .int .i64 0] : List Value) ++ cur.toList.drop (o + 2)).toArray) := by
  have hst := run_storeCells_at Try.prog g o 37 [.string ⟨#[]⟩, .int .i64 0] 0 cur w hg (by simpa using ho) (by simp [Value.oneCell'])
  have hz : (Builtin.zeroCells (Value.agg #[.string ⟨#[]⟩, .int .i64 0]).cells 1).toList = ([.string ⟨#[]⟩, .int .i64 0] : List Value) := by simp [Builtin.zeroCells, Value.cells, Array.range, List.range_succ]
  simp only [Nat.add_zero] at hst
  simp [Builtin.clear_, run_underlying Try.underlying22, Try.zeroValue37, hz, hst]

set_option maxHeartbeats 4000000 in
set_option maxRecDepth 100000 in
theorem delete_row (w : World) (g cap : Nat) (cur : Array Value) (l : List S37) (k : Nat)
    (hg : w.heap[g]? = some (.cells cur 37 (0, 0))) (hk : k < l.length) (hcap : l.length ≤ cap) (hm : cap ≤ 9223372036854775807) (hcs : cur.size = cap * 2) (htake : cur.toList.take (l.length * 2) = cellsOf l) :
    Calls Try.prog 32 #[.slice (some ⟨g, 0, none⟩) l.length cap, .int .i64 (k : Int), .int .i64 ((k : Int) + 1)] w fun e w' =>
      e = .returned (.slice (some ⟨g, 0, none⟩) (l.length - 1) cap) ∧ ∃ cur' : Array Value, w' = w.drew.setRow g cur' ∧ cur'.size = cap * 2 ∧ cur'.toList.take ((l.length - 1) * 2) = cellsOf (l.take k ++ l.drop (k + 1)) := by
  obtain ⟨n, hn⟩ : ∃ n, n = l.length := ⟨_, rfl⟩
  rw [← hn] at hk hcap htake
  have hcl := cellsOf_length l
  rw [← hn] at hcl
  obtain ⟨C, hC⟩ : ∃ C, C = cellsOf l := ⟨_, rfl⟩
  rw [← hC] at htake hcl
  have h1C : ∀ v ∈ C, v.oneCell' = true := by rw [hC]; exact cellsOf_one l
  have hgd : w.drew.heap[g]? = some (.cells cur 37 (0, 0)) := hg
  obtain ⟨A, hA⟩ : ∃ A : Addr, A = if cap = k + 1 then (⟨g, 0, none⟩ : Addr) else ⟨g, (k + 1) * 2, none⟩ := ⟨_, rfl⟩
  obtain ⟨news, hnews⟩ : ∃ news, news = C.drop ((k + 1) * 2) := ⟨_, rfl⟩
  have hnl : news.length = (n - (k + 1)) * 2 := by rw [hnews, List.length_drop, hcl]; omega
  obtain ⟨cur1, hcur1⟩ : ∃ c, c = (cur.toList.take (k * 2) ++ news ++ cur.toList.drop (k * 2 + news.length)).toArray := ⟨_, rfl⟩
  have hap : ∀ ty c, (Builtin.append_ #[22, 22] ty #[.slice (some ⟨g, 0, none⟩) k cap, .slice (some A) (n - (k + 1)) c]).run Try.prog w.drew = .ok (.slice (some ⟨g, 0, none⟩) (n - 1) cap) (w.drew.setRow g cur1) := fun ty c => by
    have := append_row w.drew ty g k cap cur A (n - (k + 1)) c news hgd (by omega) hcs hnl ?_ (by rw [hnews]; exact fun v hv => h1C v (List.mem_of_mem_drop hv))
    · rw [this, hcur1, show k + (n - (k + 1)) = n - 1 by omega]
    · intro j u hj
      have hjl := (List.getElem?_eq_some_iff.1 hj).1
      rw [hA, if_neg (by omega), add_lit, cell_row hgd, ← Array.getElem?_toList]
      rw [hnews, List.getElem?_drop, ← htake, List.getElem?_take] at hj
      split at hj
      · exact hj
      · cases hj
  have hld : cap ≠ k + 1 → (loadCellsFrom ⟨g, (k + 1) * 2, none⟩ 0 ((n - (k + 1)) * 2) #[]).run Try.prog w.drew = .ok news.toArray w.drew := fun hne => by
    refine run_firstCells_some (P := Try.prog) w.drew 2 (n - (k + 1)) ⟨g, (k + 1) * 2, none⟩ (n - (k + 1)) 0 news hnl ?_
    intro j u hj
    rw [add_lit, cell_row hgd, ← Array.getElem?_toList]
    rw [hnews, List.getElem?_drop, ← htake, List.getElem?_take] at hj
    split at hj
    · exact hj
    · cases hj
  have hst : (storeCells ⟨g, k * 2, none⟩ news).run Try.prog w.drew = .ok () (w.drew.setRow g cur1) := by
    have := run_storeCells_at Try.prog g (k * 2) 37 news 0 cur w.drew hgd (by rw [hcs, hnl]; omega) (by rw [hnews]; exact fun v hv => h1C v (List.mem_of_mem_drop hv))
    simp only [Nat.add_zero] at this
    rw [this, hcur1]
  have hs1 : cur1.size = cap * 2 := by
    rw [hcur1]
    simp only [List.size_toArray, List.length_append, List.length_take, List.length_drop, Array.length_toList, hnl, hcs]
    omega
  have hg1 : (w.drew.setRow g cur1).heap[g]? = some (.cells cur1 37 (0, 0)) := setRow_heap _ g cur cur1 37 _ hgd
  obtain ⟨cur2, hcur2⟩ : ∃ c, c = (cur1.toList.take ((n - 1) * 2) ++ ([.string ⟨#[]⟩, .int .i64 0] : List Value) ++ cur1.toList.drop ((n - 1) * 2 + 2)).toArray := ⟨_, rfl⟩
  have hcr : ∀ ty c, (Builtin.clear_ #[22] ty #[.slice (some ⟨g, (n - 1) * 2, none⟩) 1 c]).run Try.prog (w.drew.setRow g cur1) = .ok (.tuple #[]) ((w.drew.setRow g cur1).setRow g cur2) := fun ty c => by
    rw [clear_row _ ty g ((n - 1) * 2) c cur1 hg1 (by omega), hcur2]
  have hs2 : cur2.size = cap * 2 := by
    rw [hcur2]
    simp only [List.size_toArray, List.length_append, List.length_take, List.length_drop, Array.length_toList, List.length_cons, List.length_nil, hs1]
    omega
  have ht2 : cur2.toList.take ((n - 1) * 2) = cellsOf (l.take k ++ l.drop (k + 1)) := by
    have e0 : cur.toList.take (k * 2) = C.take (k * 2) := by rw [← htake, List.take_take]; congr 1; omega
    have e1 : cur1.toList.take ((n - 1) * 2) = C.take (k * 2) ++ news := by
      rw [hcur1, e0]
      have : (C.take (k * 2) ++ news).length = (n - 1) * 2 := by rw [List.length_append, List.length_take, hnl, hcl]; omega
      show List.take ((n - 1) * 2) (C.take (k * 2) ++ news ++ _) = _
      rw [← this, List.take_left]
    rw [hcur2, List.append_assoc]
    show List.take ((n - 1) * 2) (cur1.toList.take ((n - 1) * 2) ++ _) = _
    rw [List.take_append_of_le_length (by rw [List.length_take, Array.length_toList]; omega), List.take_take, Nat.min_self, e1, hnews, hC, cellsOf_take, cellsOf_drop, cellsOf_append]
  have hself : cap = k + 1 → w.drew.setRow g cur1 = w.drew := fun hc => by
    have h0 : news = [] := List.eq_nil_of_length_eq_zero (by rw [hnl]; omega)
    have hcc : cur1 = cur := by rw [hcur1, h0]; simp
    rw [hcc]; exact setRow_self _ g cur 37 _ hgd
  have HT2 := Lib.hid ht2
  rw [← hn]
  have p1 : ¬ ((k : Int) = (k : Int) + 1) := by omega
  have p2 : (k : Int) ≤ (cap : Int) := by omega
  have p3 : (k : Int) + 1 ≤ (n : Int) := by omega
  have p4 : (n : Int) ≤ (cap : Int) := by omega
  have p6 : (k : Int) ≤ (n : Int) := by omega
  have p7 : (k : Int) ≤ (k : Int) + 1 := by omega
  have p9 : 0 ≤ (k : Int) + 1 := by omega
  have p10 : (k : Int) + 1 ≤ (cap : Int) := by omega
  have q4 : ((k : Int) + 1).toNat = k + 1 := by omega
  have p11 : ¬ (cap = n - 1) := by omega
  have p12 : ((n - 1 : Nat) : Int) ≤ (n : Int) := by omega
  have q5 : n - (n - 1) = 1 := by omega
  have mixed : Try.prog.follows .mixedOrders = true := by kernel_rfl
  have hz := Try.sizeOf37
  clear hcur1 hcur2 ht2 htake hC h1C hcl hg hgd hn hg1 hnl hnews
  by_cases hce : cap = k + 1
  · have hnk : n = k + 1 := by omega
    rw [if_pos hce] at hA
    subst hA
    subst hce
    subst hnk
    have hs := hself rfl
    have hcr0 : ∀ ty c, (Builtin.clear_ #[22] ty #[.slice (some ⟨g, k * 2, none⟩) 1 c]).run Try.prog w.drew = .ok (.tuple #[]) (w.drew.setRow g cur2) := fun ty c => by
      have := hcr ty c
      rw [hs] at this
      simpa using this
    clear hap hcr hself hs
    go_enter Try.func32, Try.ntmps32
    go_wp2_with fail
    go_region
    go_wp2
    go_ret
    exact ⟨by simp, cur2, rfl, hs2, by simpa using HT2.out⟩
  · rw [if_neg hce] at hA
    subst hA
    have hld' := hld hce
    have e0 : k + (n - (k + 1)) = n - 1 := by omega
    have e1 : n - 1 ≤ cap := by omega
    clear hap hld hself
    go_enter Try.func32, Try.ntmps32
    go_wp2_with fail
    go_region
    go_wp2
    go_ret
    exact ⟨rfl, cur2, setRow_setRow _ _ _ _, hs2, HT2.out⟩
end Go.Proofs.Ytcklpecjcebekaa.PAll
