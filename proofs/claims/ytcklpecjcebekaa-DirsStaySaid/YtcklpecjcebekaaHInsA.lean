/- slices.Insert at entries, one new entry: there is room, in place. -/
import Derived.Laws.Externs
import Derived.Shelf.Spec.SlicesInsert
import Derived.Test.YtcklpecjcebekaaHRow
namespace Go.Proofs.Ytcklpecjcebekaa.PAll
open Go.RowKit Go.Shelf Go.Lib Go.Proofs.YtcklpecjcebekaaW.PrintWords Go.Proofs.YtcklpecjcebekaaW.PrintLast Go.Proofs.YtcklpecjcebekaaW.PrintMore
set_option linter.unusedVariables false
set_option linter.unusedSimpArgs false

theorem size37 : (Try.prog.info? 37).map (·.size) = some 2 := by kernel_rfl
theorem add_lit (g o j : Nat) : (⟨g, o, none⟩ : Addr).add j = ⟨g, o + j, none⟩ := by unfold Addr.add; split <;> simp_all
theorem cell_row {w : World} {g : Nat} {cur : Array Value} {t : TypeId} (hg : w.heap[g]? = some (.cells cur t (0, 0))) (j : Nat) : w.cell? ⟨g, j, none⟩ = cur[j]? := by simp [World.cell?, hg]

set_option maxHeartbeats 4000000 in
set_option maxRecDepth 100000 in
theorem insert_room (w : World) (g cap : Nat) (cur : Array Value) (l : List S37) (k : Nat) (x : S37) (vb vc : Nat)
    (hg : w.heap[g]? = some (.cells cur 37 (0, 0))) (hk : k < l.length) (hroom : l.length + 1 ≤ cap) (hm : cap ≤ 9223372036854775807) (hcs : cur.size = cap * 2) (htake : cur.toList.take (l.length * 2) = cellsOf l)
    (hx : w.heap[vb]? = some (.cells #[.string x.f0, .int .i64 x.f1] 37 (0, 0))) (hvb : vb ≠ g) :
    Calls Try.prog 30 #[.slice (some ⟨g, 0, none⟩) l.length cap, .int .i64 (k : Int), .slice (some ⟨vb, 0, none⟩) 1 vc] w fun e w' =>
      e = .returned (.slice (some ⟨g, 0, none⟩) (l.length + 1) cap) ∧ ∃ cur' : Array Value, w' = w.drew.setRow g cur' ∧ cur'.size = cap * 2 ∧ cur'.toList.take ((l.length + 1) * 2) = cellsOf (l.take k ++ x :: l.drop k) := by
  obtain ⟨n, hn⟩ : ∃ n, n = l.length := ⟨_, rfl⟩
  have hov : ∀ lb cb, (callFunc 41 #[.slice (some ⟨vb, 0, none⟩) 1 vc, .slice (some ⟨g, (k + 1) * 2, none⟩) lb cb]).run Try.prog w = .ok (.value (.bool false)) w := fun lb cb => by
    rw [run_callFunc_extern Try.func41 (by kernel_rfl) (by kernel_rfl) (by kernel_rfl) (e := Extern.SlicesOverlaps.overlaps #[22, 22] #[4]) (by kernel_rfl),
      Lib.run_overlaps_apart w 22 4 37 Try.underlying22 2 Try.sizeOf37 ⟨vb, 0, none⟩ ⟨g, (k + 1) * 2, none⟩ 1 vc lb cb hvb 37 37 2 cur.size (by simp [World.shape?, hx]) (by simp [World.shape?, hg]) (by omega) (by simp [World.frozen?, hx]) (by simp [World.frozen?, hx])]
    rfl
  rw [← hn] at hk hroom htake
  have hcl := cellsOf_length l
  rw [← hn] at hcl
  obtain ⟨C, hC⟩ : ∃ C, C = cellsOf l := ⟨_, rfl⟩
  rw [← hC] at htake hcl
  have h1C : ∀ v ∈ C, v.oneCell' = true := by rw [hC]; exact cellsOf_one l
  -- the first copy
  obtain ⟨cur1, hcur1⟩ : ∃ c, c = (cur.toList.take ((k + 1) * 2) ++ C.drop (k * 2) ++ cur.toList.drop ((k + 1) * 2 + (C.drop (k * 2)).length)).toArray := ⟨_, rfl⟩
  have hgd : w.drew.heap[g]? = some (.cells cur 37 (0, 0)) := hg
  have hcp1 : ∀ ty dc sc, (Builtin.copy_ #[22, 22] ty #[.slice (some ⟨g, (k + 1) * 2, none⟩) (n - k) dc, .slice (some ⟨g, k * 2, none⟩) (n + 1 - k) sc]).run Try.prog w.drew = .ok (goInt ((n - k : Nat) : Int)) (w.drew.setRow g cur1) := fun ty dc sc => by
    rw [hcur1]
    refine run_copy_rowN w.drew 22 22 ty 37 2 g ((k + 1) * 2) (n - k) dc ⟨g, k * 2, none⟩ (n + 1 - k) sc cur 37 (C.drop (k * 2)) (n - k) Try.underlying22 size37 hgd (by simp only [Nat.min_def]; split <;> omega) (by rw [List.length_drop, hcl]; omega) ?_ (by rw [List.length_drop, hcl]; omega) (fun v hv => h1C v (List.mem_of_mem_drop hv))
    intro j v hj
    rw [add_lit, cell_row hgd, ← Array.getElem?_toList]
    rw [List.getElem?_drop, ← htake] at hj
    rw [← hj, List.getElem?_take]
    have := (List.getElem?_eq_some_iff.1 hj).1
    rw [List.length_take] at this
    rw [if_pos (by omega)]
  have hs1 : cur1.size = cap * 2 := by
    rw [hcur1]
    simp only [List.size_toArray, List.length_append, List.length_take, List.length_drop, Array.length_toList, hcl, hcs]
    omega
  have hg1 : ∀ W : World, (W.heap = (w.drew.setRow g cur1).heap) → W.heap[g]? = some (.cells cur1 37 (0, 0)) := fun W hW => by rw [hW]; exact setRow_heap _ g cur cur1 37 _ hgd
  obtain ⟨cur2, hcur2⟩ : ∃ c, c = (cur1.toList.take (k * 2) ++ ([.string x.f0, .int .i64 x.f1] : List Value) ++ cur1.toList.drop (k * 2 + 2)).toArray := ⟨_, rfl⟩
  have hcp2 : ∀ W : World, (W.heap = (w.drew.setRow g cur1).heap) → ∀ ty dc, (Builtin.copy_ #[22, 22] ty #[.slice (some ⟨g, k * 2, none⟩) (n + 1 - k) dc, .slice (some ⟨vb, 0, none⟩) 1 vc]).run Try.prog W = .ok (goInt 1) (W.setRow g cur2) := fun W hW ty dc => by
    rw [hcur2]
    refine run_copy_rowN W 22 22 ty 37 2 g (k * 2) (n + 1 - k) dc ⟨vb, 0, none⟩ 1 vc cur1 37 [.string x.f0, .int .i64 x.f1] 1 Try.underlying22 size37 (hg1 W hW) (by simp only [Nat.min_def]; split <;> omega) rfl ?_ (by simp [hs1]; omega) (by simp [Value.oneCell'])
    intro j v hj
    have hxW : W.heap[vb]? = some (.cells #[.string x.f0, .int .i64 x.f1] 37 (0, 0)) := by rw [hW, setRow_other _ _ _ _ hvb]; exact hx
    rw [add_lit, cell_row hxW, ← Array.getElem?_toList, Nat.zero_add]
    exact hj
  have hs2 : cur2.size = cap * 2 := by
    rw [hcur2]
    simp only [List.size_toArray, List.length_append, List.length_take, List.length_drop, Array.length_toList, List.length_cons, List.length_nil, hs1]
    omega
  have ht2 : cur2.toList.take ((n + 1) * 2) = cellsOf (l.take k ++ x :: l.drop k) := by
    have e1 : cur1.toList.take (k * 2) = C.take (k * 2) := by
      rw [hcur1, List.append_assoc]
      show List.take (k * 2) (cur.toList.take ((k + 1) * 2) ++ _) = _
      rw [List.take_append_of_le_length (by rw [List.length_take, Array.length_toList]; omega), List.take_take, ← htake, List.take_take]
      congr 1; omega
    have e2 : cur1.toList.drop (k * 2 + 2) = C.drop (k * 2) ++ cur.toList.drop ((k + 1) * 2 + (C.drop (k * 2)).length) := by
      rw [hcur1, List.append_assoc]
      have : (cur.toList.take ((k + 1) * 2)).length = k * 2 + 2 := by rw [List.length_take, Array.length_toList]; omega
      show List.drop (k * 2 + 2) (cur.toList.take ((k + 1) * 2) ++ _) = _
      rw [← this, List.drop_left]
    rw [hcur2, e1, e2]
    show List.take ((n + 1) * 2) (C.take (k * 2) ++ ([.string x.f0, .int .i64 x.f1] : List Value) ++ (C.drop (k * 2) ++ _)) = _
    rw [← List.append_assoc]
    have hlen : (C.take (k * 2) ++ ([.string x.f0, .int .i64 x.f1] : List Value) ++ C.drop (k * 2)).length = (n + 1) * 2 := by
      simp only [List.length_append, List.length_take, List.length_drop, List.length_cons, List.length_nil, hcl]; omega
    rw [← hlen, List.take_left, hC, cellsOf_take, cellsOf_drop, cellsOf_append]
    simp [cellsOf]
  have HT2 := Lib.hid ht2
  rw [← hn]
  have p1 : ¬ ((k : Int) = (n : Int)) := by omega
  have p2 : (k : Int) ≤ (n : Int) := by omega
  have p3 : ¬ (cap = k) := by omega
  have p4 : ¬ (cap = k + 1) := by omega
  have p5 : ¬ ((cap : Int) < (n : Int) + 1) := by omega
  have p6 : (n : Int) + 1 ≤ (cap : Int) := by omega
  have p7 : (k : Int) + 1 ≤ (n : Int) + 1 := by omega
  have p8 : (k : Int) ≤ (n : Int) + 1 := by omega
  have q1 : IntKind.i64.wrap ((n : Int) + 1) = (n : Int) + 1 := by rw [IntKind.wrap_i64]; omega
  have q2 : IntKind.i64.wrap ((k : Int) + 1) = (k : Int) + 1 := by rw [IntKind.wrap_i64]; omega
  have q3 : ((n : Int) + 1).toNat = n + 1 := by omega
  have q4 : ((k : Int) + 1).toNat = k + 1 := by omega
  have p9 : 0 ≤ (k : Int) + 1 := by omega
  have mixed : Try.prog.follows .mixedOrders = true := by kernel_rfl
  have hz := Try.sizeOf37
  clear hcur1 hcur2 ht2 htake hC h1C hcl hx hg hgd hn
  go_enter Try.func30, Try.ntmps30
  go_wp2_with (simp only [hov])
  go_region_law_o (refine step_copy_runI rfl _ _ 22 22 rfl _ _ (by simp [Act.eval, Act.put]) (by simp [Act.eval, Act.put]) (hcp1 _ _ _) ?_)
  go_wp2_with (at_builtin; refine wpList_copy_runI _ rfl _ _ 22 22 rfl _ _ rfl rfl (hcp2 _ rfl _ _) ?_)
  go_ret
  exact ⟨rfl, cur2, setRow_setRow _ _ _ _, hs2, HT2.out⟩
end Go.Proofs.Ytcklpecjcebekaa.PAll
