/- slices.Insert at entries, one new entry: no room; at the end. -/
import Derived.Test.YtcklpecjcebekaaHInsA
import Derived.Lib.AppendZeros
import Derived.Laws.CopyOwn
namespace Go.Proofs.Ytcklpecjcebekaa.PAll
open Go.RowKit Go.Shelf Go.Lib Go.Proofs.YtcklpecjcebekaaW.PrintWords Go.Proofs.YtcklpecjcebekaaW.PrintLast Go.Proofs.YtcklpecjcebekaaW.PrintMore
set_option linter.unusedVariables false
set_option linter.unusedSimpArgs false

def z37v : Value := .agg #[.string ⟨#[]⟩, .int .i64 0]
/-- append(s, make([]T, m)...) where there is no room. -/
theorem zeros_grow (w : World) (ty : TypeId) (a : Addr) (i cap m : Nat) (olds : List Value) (hfo : (Builtin.firstCells 2 i (.slice (some a) i cap)).run Try.prog w.drew = .ok olds.toArray w.drew) (hm : 0 < m) (hcap : cap < i + m) (hbytes : (i + m) * 24 ≤ 140737488355328) :
    (Builtin.append_ #[22, 3] ty #[.slice (some a) i cap, .int .i64 (m : Int)]).run Try.prog w =
      .ok (.slice (some ⟨w.heap.size, 0, none⟩) (i + m) (grownCap w (i + m) cap 37)) (w.drew.alloc (.cells (olds.toArray ++ Builtin.zeroCells z37v.cells m ++ Builtin.zeroCells z37v.cells (grownCap w (i + m) cap 37 - (i + m))) 37)) := by
  obtain ⟨i0, hi, hz0, hz1, hz2⟩ := info_parts info37
  have hn : ¬ (i + m ≤ cap) := by omega
  have hw : IntKind.i64.wrap (m : Int) = m := by rw [IntKind.wrap_i64]; omega
  have hneg : ¬ ((m : Int) < 0) := by omega
  have hbig : ¬ (281474976710656 < (m : Int) * (i0.bytes : Int)) := by rw [hz2]; omega
  have h63' : ¬ (9223372036854775807 < ((i : Int) + (m : Int))) := by omega
  have hfit := growslice_fits hcap hbytes
  have h48' : ¬ (281474976710656 < Builtin.nextslicecap (i + m) cap * i0.bytes) := by rw [hz2]; omega
  have hmz : ¬ (m * i0.size = 0) := by rw [hz1]; omega
  rw [← hz1] at hfo
  have ht := Try.underlying22
  have hti := Try.underlying3
  simp [Builtin.append_, run_underlying ht, run_underlying hti, sizeOf, typeInfo, zeroValue, hi, hz0, asInt, asIntOf, hw, hneg, hbig, hn, h63', h48', Question.forced, hfo, newRow, grownCap, hmz, z37v]

set_option maxHeartbeats 4000000 in
set_option maxRecDepth 100000 in
theorem insert_grow (w : World) (g cap : Nat) (cur : Array Value) (l : List S37) (k : Nat) (x : S37) (vb vc : Nat)
    (hg : w.heap[g]? = some (.cells cur 37 (0, 0))) (hk : k < l.length) (hcap : l.length ≤ cap) (hno : cap < l.length + 1) (hl : l.length ≤ 1073741824) (hcs : cur.size = cap * 2) (htake : cur.toList.take (l.length * 2) = cellsOf l)
    (hx : w.heap[vb]? = some (.cells #[.string x.f0, .int .i64 x.f1] 37 (0, 0))) :
    Calls Try.prog 30 #[.slice (some ⟨g, 0, none⟩) l.length cap, .int .i64 (k : Int), .slice (some ⟨vb, 0, none⟩) 1 vc] w fun e w' =>
      ∃ (c2 : Nat) (cur' : Array Value), e = .returned (.slice (some ⟨w.heap.size, 0, none⟩) (l.length + 1) c2) ∧ w'.heap[w.heap.size]? = some (.cells cur' 37 (0, 0)) ∧ l.length + 1 ≤ c2 ∧ c2 ≤ maxLen ∧ cur'.size = c2 * 2 ∧ cur'.toList.take ((l.length + 1) * 2) = cellsOf (l.take k ++ x :: l.drop k) ∧ Below w.heap.size w w' := by
  obtain ⟨n, hn⟩ : ∃ n, n = l.length := ⟨_, rfl⟩
  rw [← hn] at hk hcap hno hl htake
  have hcn : cap = n := by omega
  subst hcn
  have hcl := cellsOf_length l
  rw [← hn] at hcl
  obtain ⟨C, hC⟩ : ∃ C, C = cellsOf l := ⟨_, rfl⟩
  rw [← hC] at htake hcl
  have hcur : cur.toList = C := by rw [← htake, List.take_of_length_le (by rw [Array.length_toList]; omega)]
  have h1C : ∀ v ∈ C, v.oneCell' = true := by rw [hC]; exact cellsOf_one l
  have hlg : g < w.heap.size := (Array.getElem?_eq_some_iff.1 hg).1
  have hlv : vb < w.heap.size := (Array.getElem?_eq_some_iff.1 hx).1
  obtain ⟨h, hh⟩ : ∃ h, h = w.heap.size := ⟨_, rfl⟩
  -- the new row
  have hfo : (Builtin.firstCells 2 k (.slice (some ⟨g, 0, none⟩) k cap)).run Try.prog w.drew = .ok (C.take (k * 2)).toArray w.drew := by
    refine run_firstCells_some (P := Try.prog) w.drew 2 k ⟨g, 0, none⟩ k cap (C.take (k * 2)) (by rw [List.length_take, hcl]; omega) ?_
    intro j v hj
    have hgd : w.drew.heap[g]? = some (.cells cur 37 (0, 0)) := hg
    rw [add_lit, cell_row hgd, ← Array.getElem?_toList, hcur, Nat.zero_add]
    rw [List.getElem?_take] at hj
    split at hj
    · exact hj
    · cases hj
  have hek : k + (cap + 1 - k) = cap + 1 := by omega
  obtain ⟨c2, hc2⟩ : ∃ c2, c2 = grownCap w (k + (cap + 1 - k)) cap 37 := ⟨_, rfl⟩
  have hge := grownCap_ge w (k + (cap + 1 - k)) cap 37
  have hcm := grownCap_le_maxLen w (k + (cap + 1 - k)) cap 37 (by simp only [maxLen]; omega)
  rw [← hc2, hek] at hge
  rw [← hc2] at hcm
  obtain ⟨cur0, hcur0⟩ : ∃ c, c = (C.take (k * 2)).toArray ++ Builtin.zeroCells z37v.cells (cap + 1 - k) ++ Builtin.zeroCells z37v.cells (c2 - (k + (cap + 1 - k))) := ⟨_, rfl⟩
  have hap : ∀ ty, (Builtin.append_ #[22, 3] ty #[.slice (some ⟨g, 0, none⟩) k cap, .int .i64 ((cap + 1 - k : Nat) : Int)]).run Try.prog w = .ok (.slice (some ⟨h, 0, none⟩) (cap + 1) c2) (w.drew.alloc (.cells cur0 37)) := fun ty => by
    rw [zeros_grow w ty ⟨g, 0, none⟩ k cap (cap + 1 - k) _ hfo (by omega) (by omega) (by omega), ← hc2, hcur0, hek, hh]
  have hzs : ∀ q, (Builtin.zeroCells z37v.cells q).size = q * 2 := fun q => by rw [size_zeroCells]; rfl
  have hs0 : cur0.size = c2 * 2 := by
    rw [hcur0]
    simp only [Array.size_append, hzs, List.size_toArray, List.length_take, hcl]
    omega
  have ht0 : cur0.toList.take (k * 2) = C.take (k * 2) := by
    rw [hcur0]
    simp only [Array.toList_append, List.append_assoc]
    rw [List.take_append_of_le_length (by rw [List.length_take, hcl]; omega), List.take_take]
    congr 1; omega
  have hg0 : ∀ W : World, W.heap = (w.drew.alloc (.cells cur0 37)).heap → W.heap[h]? = some (.cells cur0 37 (0, 0)) := fun W hW => by rw [hW, hh]; exact heap_alloc_new w.drew _
  have hold : ∀ W : World, W.heap = (w.drew.alloc (.cells cur0 37)).heap → ∀ b, b < w.heap.size → W.heap[b]? = w.heap[b]? := fun W hW b hb => by rw [hW]; exact heap_alloc_old w.drew _ hb
  -- the copies
  obtain ⟨cur1, hcur1⟩ : ∃ c, c = (cur0.toList.take (k * 2) ++ ([.string x.f0, .int .i64 x.f1] : List Value) ++ cur0.toList.drop (k * 2 + 2)).toArray := ⟨_, rfl⟩
  have hcp1 : ∀ W : World, W.heap = (w.drew.alloc (.cells cur0 37)).heap → ∀ ty dc, (Builtin.copy_ #[22, 22] ty #[.slice (some ⟨h, k * 2, none⟩) (cap + 1 - k) dc, .slice (some ⟨vb, 0, none⟩) 1 vc]).run Try.prog W = .ok (goInt 1) (W.setRow h cur1) := fun W hW ty dc => by
    rw [hcur1]
    refine run_copy_rowN W 22 22 ty 37 2 h (k * 2) (cap + 1 - k) dc ⟨vb, 0, none⟩ 1 vc cur0 37 [.string x.f0, .int .i64 x.f1] 1 Try.underlying22 size37 (hg0 W hW) (by simp only [Nat.min_def]; split <;> omega) rfl ?_ (by simp [hs0]; omega) (by simp [Value.oneCell'])
    intro j v hj
    have hxW : W.heap[vb]? = some (.cells #[.string x.f0, .int .i64 x.f1] 37 (0, 0)) := by rw [hold W hW vb hlv]; exact hx
    rw [add_lit, cell_row hxW, ← Array.getElem?_toList, Nat.zero_add]
    exact hj
  have hs1 : cur1.size = c2 * 2 := by
    rw [hcur1]
    simp only [List.size_toArray, List.length_append, List.length_take, List.length_drop, Array.length_toList, List.length_cons, List.length_nil, hs0]
    omega
  have hne : g ≠ h := by omega
  have hnv : vb ≠ h := by omega
  obtain ⟨cur2, hcur2⟩ : ∃ c, c = (cur1.toList.take ((k + 1) * 2) ++ C.drop (k * 2) ++ cur1.toList.drop ((k + 1) * 2 + (C.drop (k * 2)).length)).toArray := ⟨_, rfl⟩
  have hcp2 : ∀ W : World, W.heap = ((w.drew.alloc (.cells cur0 37)).setRow h cur1).heap → ∀ ty dc sc, (Builtin.copy_ #[22, 22] ty #[.slice (some ⟨h, (k + 1) * 2, none⟩) (cap - k) dc, .slice (some ⟨g, k * 2, none⟩) (cap - k) sc]).run Try.prog W = .ok (goInt ((cap - k : Nat) : Int)) (W.setRow h cur2) := fun W hW ty dc sc => by
    have hgW : W.heap[h]? = some (.cells cur1 37 (0, 0)) := by rw [hW]; exact setRow_heap _ h cur0 cur1 37 _ (hg0 _ rfl)
    rw [hcur2]
    refine run_copy_rowN W 22 22 ty 37 2 h ((k + 1) * 2) (cap - k) dc ⟨g, k * 2, none⟩ (cap - k) sc cur1 37 (C.drop (k * 2)) (cap - k) Try.underlying22 size37 hgW (by simp) (by rw [List.length_drop, hcl]; omega) ?_ (by rw [List.length_drop, hcl]; omega) (fun v hv => h1C v (List.mem_of_mem_drop hv))
    intro j v hj
    have hgg : W.heap[g]? = some (.cells cur 37 (0, 0)) := by rw [hW, setRow_other _ _ _ _ hne, hold _ rfl g hlg]; exact hg
    rw [add_lit, cell_row hgg, ← Array.getElem?_toList, hcur]
    rwa [List.getElem?_drop] at hj
  have hs2 : cur2.size = c2 * 2 := by
    rw [hcur2]
    simp only [List.size_toArray, List.length_append, List.length_take, List.length_drop, Array.length_toList, hcl, hs1]
    omega
  have ht2 : cur2.toList.take ((cap + 1) * 2) = cellsOf (l.take k ++ x :: l.drop k) := by
    have e1 : cur1.toList.take ((k + 1) * 2) = C.take (k * 2) ++ [.string x.f0, .int .i64 x.f1] := by
      rw [hcur1, ht0]
      have : (C.take (k * 2) ++ ([.string x.f0, .int .i64 x.f1] : List Value)).length = (k + 1) * 2 := by simp only [List.length_append, List.length_take, List.length_cons, List.length_nil, hcl]; omega
      show List.take ((k + 1) * 2) (C.take (k * 2) ++ ([.string x.f0, .int .i64 x.f1] : List Value) ++ _) = _
      rw [← this, List.take_left]
    rw [hcur2, e1]
    show List.take ((cap + 1) * 2) (C.take (k * 2) ++ [.string x.f0, .int .i64 x.f1] ++ C.drop (k * 2) ++ _) = _
    have hlen : (C.take (k * 2) ++ ([.string x.f0, .int .i64 x.f1] : List Value) ++ C.drop (k * 2)).length = (cap + 1) * 2 := by
      simp only [List.length_append, List.length_take, List.length_drop, List.length_cons, List.length_nil, hcl]; omega
    rw [← hlen, List.take_left, hC, cellsOf_take, cellsOf_drop, cellsOf_append]
    simp [cellsOf]
  have HT2 := Lib.hid ht2
  have HBB : Below w.heap.size w (((w.alloc (.cells cur0 37)).drew.setRow h cur1)) := below_setRow (below_drew1 ((Below.refl _ w).alloc (Nat.le_refl _) _)) (Nat.le_of_eq hh.symm) _
  have HBF := Lib.hid HBB
  clear HBB
  rw [← hn, ← hh]
  have p1 : ¬ ((k : Int) = (cap : Int)) := by omega
  have p2 : (k : Int) ≤ (cap : Int) := by omega
  have p3 : ¬ (cap = k) := by omega
  have p4 : ¬ (c2 = k + 1) := by omega
  have p4' : ¬ (c2 = k) := by omega
  have p5 : (cap : Int) < (cap : Int) + 1 := by omega
  have p7 : (k : Int) + 1 ≤ (cap : Int) + 1 := by omega
  have p8 : (k : Int) ≤ (cap : Int) + 1 := by omega
  have p9 : 0 ≤ (k : Int) + 1 := by omega
  have q1 : IntKind.i64.wrap ((cap : Int) + 1) = (cap : Int) + 1 := by rw [IntKind.wrap_i64]; omega
  have q2 : IntKind.i64.wrap ((k : Int) + 1) = (k : Int) + 1 := by rw [IntKind.wrap_i64]; omega
  have q3 : ((cap : Int) + 1).toNat = cap + 1 := by omega
  have q4 : ((k : Int) + 1).toNat = k + 1 := by omega
  have q5 : IntKind.i64.wrap ((cap : Int) + 1 - (k : Int)) = ((cap + 1 - k : Nat) : Int) := by rw [IntKind.wrap_i64]; omega
  have mixed : Try.prog.follows .mixedOrders = true := by kernel_rfl
  have hz := Try.sizeOf37
  obtain ⟨M, hM⟩ : ∃ M : Nat, M = cap + 1 - k := ⟨_, rfl⟩
  have HG1 := Lib.hid (show ∀ W : World, W.heap = ((w.drew.alloc (.cells cur0 37)).setRow h cur1).heap → W.heap[h]? = some (.cells cur1 37 (0, 0)) from fun W hW => by rw [hW]; exact setRow_heap _ h cur0 cur1 37 _ (hg0 _ rfl))
  have HH := Lib.hid hh
  clear hh hcur0 hcur1 hcur2 ht2 htake hC h1C hcl hx hg hn hcur hfo hc2 ht0 hg0 hold hek hzs
  have hcp1' : ∀ ty dc, (Builtin.copy_ #[22, 22] ty #[.slice (some ⟨h, k * 2, none⟩) (cap + 1 - k) dc, .slice (some ⟨vb, 0, none⟩) 1 vc]).run Try.prog (w.alloc (.cells cur0 37)).drew = .ok (goInt 1) ((w.alloc (.cells cur0 37)).drew.setRow h cur1) := fun ty dc => hcp1 (w.alloc (.cells cur0 37)).drew rfl ty dc
  have hcp2' : ∀ ty dc sc, (Builtin.copy_ #[22, 22] ty #[.slice (some ⟨h, (k + 1) * 2, none⟩) (cap - k) dc, .slice (some ⟨g, k * 2, none⟩) (cap - k) sc]).run Try.prog ((w.alloc (.cells cur0 37)).drew.setRow h cur1).drew = .ok (goInt ((cap - k : Nat) : Int)) (((w.alloc (.cells cur0 37)).drew.setRow h cur1).drew.setRow h cur2) := fun ty dc sc => hcp2 ((w.alloc (.cells cur0 37)).drew.setRow h cur1).drew rfl ty dc sc
  clear hcp2
  clear hcp1
  go_enter Try.func30, Try.ntmps30
  go_wp2_with (at_builtin; refine Lib.wpList_append_run _ rfl _ _ 22 3 rfl _ _ rfl rfl _ _ (hap _) ?_)
  go_region
  go_wp2
  go_ret
  refine ⟨c2, cur2, rfl, ?_, hge, hcm, hs2, HT2.out, ?_⟩
  · exact setRow_heap _ h cur1 cur2 37 _ (HG1.out _ rfl)
  · have := below_setRow (below_drew1 HBF.out) (Nat.le_of_eq HH.out.symm) cur2
    rw [← HH.out] at this
    exact this
end Go.Proofs.Ytcklpecjcebekaa.PAll
