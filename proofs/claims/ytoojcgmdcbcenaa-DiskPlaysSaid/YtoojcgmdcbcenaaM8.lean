/- The disk's Clone; New and Load. -/
import Derived.Test.YtoojcgmdcbcenaaM7
namespace Go.Proofs.Ytoojcgmdcbcenaa
open Go.RowKit Go.Maps Go.Proofs.YtoojcgmdcbcenaaW.PrintWords
attribute [local go_sem ↓] Go.wp_at_zero Go.wp_at_succ
set_option linter.unusedVariables false
set_option linter.unusedSimpArgs false
set_option maxRecDepth 100000

theorem St.dupE {w0 w : World} {A : Res} {L : List Res} (H : St w0 w (A :: L)) (hE : ∀ {w : World} {T S : Foot}, A.has w T S → ∀ i, ¬ S i) : St w0 w (A :: A :: L) := by
  obtain ⟨⟨T, S, ⟨S1, S2, h1, h2, h3, h4⟩, hT, hS, h0⟩, hb⟩ := H
  exact ⟨⟨T, S, ⟨S1, S, h1, ⟨S1, S2, h1, h2, h3, h4⟩, fun i hi => absurd hi (hE h1 i), fun i => ⟨.inr, fun h => h.elim (fun h => absurd h (hE h1 i)) id⟩⟩, hT, hS, h0⟩, hb⟩
theorem cell_far {w : World} {b k p j : Nat} {u : Value} (h : p ≠ b) : (w.setCell ⟨b, k, none⟩ u).cell? ⟨p, j, none⟩ = w.cell? ⟨p, j, none⟩ := World.cell?_of_block (w := w) (Below.heap_setCell w ⟨b, k, none⟩ u p h)
section
variable {w0 w : World} {p : Nat} {d : Dsk} {L : List Res}
/-- What Clone's loads read. -/
def CC (p : Nat) (d : Dsk) (x : DX) (W : World) : Prop :=
  W.cell? ⟨p, 0, none⟩ = some (.slice (some ⟨x.a, 0, none⟩) (d.vals.length * 256) x.cap) ∧ W.cell? ⟨p, 1, none⟩ = some (.map (some x.mf)) ∧ W.cell? ⟨p, 2, none⟩ = some (.map (some x.mm))
theorem CC.of {x : DX} (h : DiskIs w p d x) : CC p d x w := by
  obtain ⟨c0, c1, c2, _⟩ := h.atF.toAt
  exact ⟨c0, c1, c2⟩
theorem cloneF_calls {W : World} {b n : Nat} {D : DU} (h : W.ownsMap Try.prog 73 rdVal b n D) : Calls Try.prog 48 #[.map (some b)] W fun e w' => e = .returned (.map (some W.heap.size)) ∧ w'.ownsMap Try.prog 73 rdVal W.heap.size n D ∧ w'.ownsMap Try.prog 73 rdVal b n D ∧ Below W.heap.size W w' := AnyW.maps_Clone_owns Try.cloneF 73 rdVal b n D W h
theorem cloneM_calls {W : World} {b n : Nat} {D : DU} (h : W.ownsMap Try.prog 3 (plainElem Try.prog 3) b n D) : Calls Try.prog 49 #[.map (some b)] W fun e w' => e = .returned (.map (some W.heap.size)) ∧ w'.ownsMap Try.prog 3 (plainElem Try.prog 3) W.heap.size n D ∧ w'.ownsMap Try.prog 3 (plainElem Try.prog 3) b n D ∧ Below W.heap.size W w' := AnyW.maps_Clone_owns Try.cloneM 3 (plainElem Try.prog 3) b n D W h
theorem St.gainMap {w0 w w' : World} {L : List Res} {H : Type} {P : Program} {k : TypeId} {R : Value → Option (DataW H × List MemPlace)} {n : Nat} {D : DataW H} (h : St w0 w L) (hb : Below w.heap.size w w') (h' : w'.ownsMap P k R w.heap.size n D) : St w0 w' (rMap P k R w.heap.size n D :: L) :=
  h.gain hb fun T _ => ⟨fun i => i = w.heap.size, ⟨h', fun _ => Iff.rfl⟩, fun i hi => by omega⟩
/-- The struct's cells. -/
def dCells (x : DX) (d : Dsk) : Array Value := #[.slice (some ⟨x.a, 0, none⟩) (d.vals.length * 256) x.cap, .map (some x.mf), .map (some x.mm), .int .i64 d.left, .bool d.off, .int .i64 (d.taken : Nat)]
theorem clone_round {x : DX} {q : Nat} (H : St w0 w (rBlk q (dObj x d) :: (rDiskX p d x ++ L))) :
    Calls Try.prog 45 #[.slice (some ⟨x.a, 0, none⟩) (d.vals.length * 256) x.cap] w fun e W1 => ∃ g cc, e = .returned (.slice (some ⟨g, 0, none⟩) (d.vals.length * 256) cc) ∧ CC p d x W1 ∧
      Calls Try.prog 48 #[.map (some x.mf)] W1 fun e W2 => ∃ m1, e = .returned (.map (some m1)) ∧ CC p d x W2 ∧
        Calls Try.prog 49 #[.map (some x.mm)] W2 fun e W3 => ∃ m2, e = .returned (.map (some m2)) ∧ CC p d x W3 ∧
          (∃ u, W3.cell? ⟨q, 0, none⟩ = some u) ∧ (∃ u, W3.cell? ⟨q, 1, none⟩ = some u) ∧ (∃ u, W3.cell? ⟨q, 2, none⟩ = some u) ∧ (∀ k, W3.frozen? ⟨q, k, none⟩ = false) ∧ p ≠ q ∧
          St w0 (((W3.setCell ⟨q, 0, none⟩ (.slice (some ⟨g, 0, none⟩) (d.vals.length * 256) cc)).setCell ⟨q, 1, none⟩ (.map (some m1))).setCell ⟨q, 2, none⟩ (.map (some m2))) (rDisk q d :: rDisk p d :: L) := by
  have hd := H.drop.diskIs
  obtain ⟨e1, e2, hR⟩ := own_rd hd.sureRow
  have hn := hd.ok.n2
  have hn1 := hd.ok.n1
  have hl := hd.ok.sure_len
  have hc := clone_calls (c := x.cap) hR (by omega) (by simp)
  rw [← e1] at hc
  refine hc.mono ?_
  rintro e W1 ⟨v, rfl, hv, hb1, _⟩
  obtain ⟨g, cc, rfl, _, _⟩ := hv.form (by omega)
  have H1 := H.gainRow hb1 hv
  -- own, q, disk
  have hd1 := H1.drop.drop.diskIs
  refine ⟨g, cc, rfl, CC.of hd1, (cloneF_calls hd1.mf).mono ?_⟩
  rintro e W2 ⟨rfl, hm2, _, hb2⟩
  have H2 := H1.gainMap hb2 hm2
  have hd2 := H2.drop.drop.drop.diskIs
  refine ⟨_, rfl, CC.of hd2, (cloneM_calls hd2.mm).mono ?_⟩
  rintro e W3 ⟨rfl, hm3, _, hb3⟩
  have H3 := H2.gainMap hb3 hm3
  -- m2, m1, own, q, disk
  have hd3 := H3.drop.drop.drop.drop.diskIs
  have hq := H3.drop.drop.drop.blk
  have hpq : p ≠ q := by
    obtain ⟨⟨T, S, h, _⟩, _⟩ := H3.drop.drop.drop
    obtain ⟨S1, S2, h1, h2, h3, _⟩ := h
    obtain ⟨S3, S4, h5, _, _, h8⟩ := h2
    intro e
    subst e
    exact h3 p ((h1.2 p).2 rfl) ((h8 p).2 (.inl ((h5.2.2 p).2 rfl)))
  refine ⟨_, rfl, CC.of hd3, ⟨_, (cell_of_blk hq 0).trans rfl⟩, ⟨_, (cell_of_blk hq 1).trans rfl⟩, ⟨_, (cell_of_blk hq 2).trans rfl⟩, fun k => free_of_blk hq k, hpq, ?_⟩
  have H4 := (((St.rot4 H3).setCell 0 (.slice (some ⟨g, 0, none⟩) (d.vals.length * 256) cc)).setCell 1 (.map (some W1.heap.size))).setCell 2 (.map (some W2.heap.size))
  -- q, m2, m1, own, blk.., row, mf, mm, vals, L
  have H5 := St.rot9 H4
  have H6 := H5.dupE fun h => h.2
  -- vals, vals, q, m2, m1, own, blk, row, mf, mm, L
  have H7 := H6.perm ((List.perm_middle (l₁ := [_, _])).trans (List.Perm.cons _ ((List.perm_middle (l₁ := [_, _, _, _])).trans (List.Perm.cons _ ((List.perm_middle (l₁ := [_, _, _])).trans (List.Perm.cons _ ((List.perm_middle (l₁ := [_, _])).trans
    (List.Perm.cons _ (List.Perm.cons _ (List.perm_middle (l₁ := [_, _, _, _])).symm)))))))))
  -- q, own, m1, m2, vals, blk, row, mf, mm, vals, L
  have H8 : St w0 _ (rDisk q d :: (rDiskX p d x ++ L)) := St.mkDisk ⟨g, cc, W1.heap.size, W2.heap.size, x.Df, x.Dm⟩ (St.infact ⟨hd.ok, hd.many⟩ H7)
  exact St.swap (St.mkDisk x (H8.perm (List.perm_middle (l₁ := rDiskX p d x)).symm))
set_option maxHeartbeats 4000000 in
theorem St.clone (H : St w0 w (rDisk p d :: L)) : Calls Try.prog 23 #[.pointer (some ⟨p, 0, none⟩)] w fun e w' => ∃ q, e = .returned (.pointer (some ⟨q, 0, none⟩)) ∧ St w0 w' (rDisk q d :: rDisk p d :: L) := by
  have hi := H.is
  obtain ⟨x, H⟩ := H.disk
  have hd := H.diskIs
  obtain ⟨⟨c0, c1, c2, c3, c4, c5⟩, fz⟩ := hd.atF
  have H1 := H.alloc (dObj x d)
  have hq := H1.blk
  have hC1 := clone_round H1.drew
  have hS0 := CC.of H1.drop.diskIs
  have hS1 := CC.of H1.drew.drop.diskIs
  have e1 : (w.alloc (dObj x d)) = w.alloc (.cells #[.slice (some ⟨x.a, 0, none⟩) (d.vals.length * 256) x.cap, .map (some x.mf), .map (some x.mm), .int .i64 d.left, .bool d.off, .int .i64 (d.taken : Nat)] 53) := rfl
  rw [e1] at hC1 hS0 hS1
  obtain ⟨n, hn⟩ : ∃ n, n = d.vals.length * 256 := ⟨_, rfl⟩
  unfold CC at hC1 hS0 hS1
  simp only [← hn] at hC1 hS0 hS1 c0
  obtain ⟨q, hqq⟩ : ∃ q, q = w.heap.size := ⟨_, rfl⟩
  have HC := Aside0.mk hC1
  have HS1 := Aside0.mk hS1
  clear H H1 hd hq e1 hn hC1 hS1 hqq
  go_enter Try.func23, Try.ntmps23
  go_wp2_with fail
  refine hi.mono ?_
  rintro e w1 ⟨rfl, rfl⟩
  go_wp2_with fail
  go_region_held3 (fun W => W.cell? ⟨p, 0, none⟩ = some (.slice (some ⟨x.a, 0, none⟩) n x.cap) ∧ W.cell? ⟨p, 1, none⟩ = some (.map (some x.mf)) ∧ W.cell? ⟨p, 2, none⟩ = some (.map (some x.mm)))
    ((first | exact HS1.out | exact hA1.out | exact hA2.out | exact hA3.out | exact ⟨(cell_far hpq).trans a0, (cell_far hpq).trans a1, (cell_far hpq).trans a2⟩ | exact ⟨(cell_far hpq).trans ((cell_far hpq).trans a0), (cell_far hpq).trans ((cell_far hpq).trans a1), (cell_far hpq).trans ((cell_far hpq).trans a2)⟩ | exact ⟨(cell_far hpq).trans ((cell_far hpq).trans ((cell_far hpq).trans a0)), (cell_far hpq).trans ((cell_far hpq).trans ((cell_far hpq).trans a1)), (cell_far hpq).trans ((cell_far hpq).trans ((cell_far hpq).trans a2))⟩))
    ((first
      | (go_at_call 45; refine HC.out.mono ?_; rintro e W1 ⟨g, cc, rfl, hA1, h2⟩; replace hA1 := Aside0.mk hA1; replace h2 := Aside0.mk h2)
      | (go_at_call 48; refine h2.out.mono ?_; rintro e W2 ⟨m1, rfl, hA2, h3⟩; replace hA2 := Aside0.mk hA2; replace h3 := Aside0.mk h3)
      | (go_at_call 49; refine h3.out.mono ?_; rintro e W3 ⟨m2, rfl, hA3, ⟨u0, hu0⟩, ⟨u1, hu1⟩, ⟨u2, hu2⟩, hfz, hpq, hfin⟩; obtain ⟨a0, a1, a2⟩ := hA3; replace hA3 := Aside0.mk (And.intro a0 (And.intro a1 a2)); replace hfin := Aside0.mk hfin)))
  all_goals (go_wp2; go_ret; exact ⟨_, rfl, hfin.out⟩)
theorem zeros_row {w : World} (n : Nat) (hn : n ≤ maxLen) : (w.alloc (zeros n)).ownsRow w.heap.size 5 1 (.slice (some ⟨w.heap.size, 0, none⟩) n n) n (bytes (List.replicate n 0)) := by
  have e : (madeCells #[.int .u8 0] n).toList = bytes (List.replicate n 0) := by
    rw [toList_madeCells_one]; simp [bytes]
  refine ⟨by simp, .inr ⟨w.heap.size, n, madeCells #[.int .u8 0] n, rfl, Nat.le_refl _, (MapKept.heap_alloc w _).1, Nat.le_refl _, hn, ?_, ?_⟩⟩
  · rw [← Array.length_toList, e]; simp
  · rw [e, List.take_of_length_le (by simp)]
theorem newD_sure (n : Nat) : (newD n).sure = List.replicate (n * 256) 0 := by
  unfold Dsk.sure newD
  induction n with
  | zero => rfl
  | succ n ih =>
    simp only [List.replicate_succ, List.flatMap_cons] at ih ⊢
    rw [ih]
    show zeroSec ++ _ = _
    unfold zeroSec
    rw [List.replicate_append_replicate]
    congr 1
    omega
theorem vals_one {Df : DU} {vals : List (List Sec)} (h : ∀ l ∈ vals, l.length = 1) (H : St w0 w L) : St w0 w (rVals Df vals :: L) :=
  H.emp.imp fun T S hh _ _ => ⟨fun i k s hk hs => by
    have hks := (List.getElem?_eq_some_iff.1 hs).1
    by_cases hi : i < vals.length
    · have := h (vals.getD i []) (by rw [List.getD_eq_getElem?_getD, List.getElem?_eq_getElem hi]; exact List.getElem_mem hi)
      omega
    · rw [List.getD_eq_getElem?_getD, List.getElem?_eq_none (by omega)] at hks; simp at hks, hh⟩
theorem newD_one (n : Nat) : ∀ l ∈ (newD n).vals, l.length = 1 := fun l hl => by rw [(List.mem_replicate.1 hl).2]; rfl
theorem St.new (H : St w0 w L) {n : Nat} (h1 : 1 ≤ n) (h2 : n ≤ 4096) : Calls Try.prog 10 #[.int .i64 (n : Nat)] w fun e w' => ∃ p, e = .returned (.tuple #[.pointer (some ⟨p, 0, none⟩), .int .i64 0]) ∧ St w0 w' (rDisk p (newD n) :: L) := by
  refine (new_ok n h1 h2).mono ?_
  rintro e w' ⟨rfl, rfl⟩
  refine ⟨_, rfl, ?_⟩
  have hz : (w.alloc (zeros (n * 256))).ownsRow w.heap.size 5 1 (.slice (some ⟨w.heap.size, 0, none⟩) (n * 256) (n * 256)) (n * 256) (bytes (List.replicate (n * 256) 0)) := zeros_row (n * 256) (by simp only [maxLen]; omega)
  have H1 := H.gainRow ((Below.refl _ w).alloc (Nat.le_refl _) _) hz
  have H2 := H1.gainMap ((Below.refl _ _).alloc (Nat.le_refl _) _) (World.ownsMap_made _ Try.prog 73 rdVal)
  have H3 := H2.gainMap (H := Unit) ((Below.refl _ _).alloc (Nat.le_refl _) _) (World.ownsMap_made _ Try.prog 3 (plainElem Try.prog 3))
  have H4 := H3.alloc (.cells #[.slice (some ⟨w.heap.size, 0, none⟩) (n * 256) (n * 256), .map (some (w.heap.size + 1)), .map (some (w.heap.size + 2)), .int .i64 (-1), .bool false, .int .i64 0] 53)
  have H5 := vals_one (Df := .map []) (newD_one n) H4
  have e1 : (w.alloc (zeros (n * 256))).heap.size = w.heap.size + 1 := by simp
  have e2 : ((w.alloc (zeros (n * 256))).alloc (.map #[] 0)).heap.size = w.heap.size + 2 := by simp
  have e3 : (((w.alloc (zeros (n * 256))).alloc (.map #[] 0)).alloc (.map #[] 0)).heap.size = w.heap.size + 3 := by simp
  rw [e1, e2, e3] at H5
  -- vals, blk, mm, mf, row, L
  have hl : (newD n).vals.length = n := by simp [newD]
  have hex : (newD n).extra = 0 := by
    have := sum_le (c := 0) (newD n).vals fun l hl => by rw [newD_one n l hl]; omega
    unfold Dsk.extra
    omega
  refine St.mkDisk ⟨w.heap.size, n * 256, w.heap.size + 1, w.heap.size + 2, .map [], .map []⟩ ?_
  unfold rDiskX
  refine St.infact ⟨newD_ok h1 h2, Many.empty (newD_one n)⟩ ?_
  rw [hex, newD_sure]
  have ho : dObj ⟨w.heap.size, n * 256, w.heap.size + 1, w.heap.size + 2, .map [], .map []⟩ (newD n) = .cells #[.slice (some ⟨w.heap.size, 0, none⟩) (n * 256) (n * 256), .map (some (w.heap.size + 1)), .map (some (w.heap.size + 2)), .int .i64 (-1), .bool false, .int .i64 0] 53 := by
    simp only [dObj, hl]; rfl
  rw [ho, hl]
  exact H5.perm ((List.perm_middle (l₁ := [_])).trans (List.Perm.cons _ ((List.perm_middle (l₁ := [_, _, _])).trans (List.Perm.cons _ ((List.perm_middle (l₁ := [_, _])).trans (List.Perm.cons _ (List.Perm.swap _ _ _)))))))
theorem new_err {n : Int} (h : ¬ (1 ≤ n ∧ n ≤ 4096)) : Calls Try.prog 10 #[.int .i64 n] w fun e w' => e = .returned (.tuple #[.pointer none, .int .i64 2]) ∧ w' = w := new_bad n h
end
end Go.Proofs.Ytoojcgmdcbcenaa
