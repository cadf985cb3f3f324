/- The disk's Sync and Crash. -/
import Derived.Test.YtoojcgmdcbcenaaM5
namespace Go.Proofs.Ytoojcgmdcbcenaa
open Go.RowKit Go.Maps Go.Proofs.YtoojcgmdcbcenaaW.PrintWords
set_option linter.unusedVariables false
set_option linter.unusedSimpArgs false
set_option maxRecDepth 100000

section
variable {w0 w : World} {p : Nat} {d : Dsk} {L : List Res}
theorem enters44 (args : Array Value) (W : World) : (callFunc 44 args).run Try.prog W = .ok (.enter 44 args) W := YtoojcgmdcbcenaaW.PrintLast.enters_ Try.func44 (by kernel_rfl) (by kernel_rfl) args W
theorem enters46 (args : Array Value) (W : World) : (callFunc 46 args).run Try.prog W = .ok (.enter 46 args) W := YtoojcgmdcbcenaaW.PrintLast.enters_ Try.func46 (by kernel_rfl) (by kernel_rfl) args W
theorem which44 (w : World) (i m : Nat) : Calls Try.prog 44 (#[.int .i64 (i : Nat), .int .i64 (m : Nat)] ++ #[]) w fun e w' => e = .returned (.int .i64 (m : Nat)) ∧ w' = w := by
  show Calls Try.prog 44 #[.int .i64 (i : Nat), .int .i64 (m : Nat)] w _
  go_enter Try.func44, Try.ntmps44
  go_wp2
  go_ret
  exact ⟨rfl, rfl⟩
theorem only_settled {d : Dsk} (h : d.Ok) : d.only (chosen (fun _ m => m) 0 d.vals) = d.settled := by
  unfold Dsk.only Dsk.settled
  rw [chosen_sync d.vals 0 h.ne, List.map_map]
  rfl
theorem only_crash {d : Dsk} (h : d.Ok) (picks : List Int) : { d.only (chosen (fun j m => Dsk.pick picks j (m + 1)) 0 d.vals) with off := false, left := -1 } = d.crash picks := by
  unfold Dsk.only Dsk.crash
  rw [chosen_crash picks d.vals 0 h.ne]
theorem take_taken {d : Dsk} : d.take.2.taken ≤ d.taken + 1 := by
  unfold Dsk.take
  split
  · exact Nat.le_succ _
  · exact Nat.le_refl _
theorem St.sync (H : St w0 w (rDisk p d :: L)) (ht : d.taken < maxTaken) : Calls Try.prog 14 #[.pointer (some ⟨p, 0, none⟩)] w fun e w' => e = .returned (.int .i64 d.sync.1) ∧ St w0 w' (rDisk p d.sync.2 :: L) := by
  have hi := H.is
  have htk := H.take ht
  have hok := H.diskOk
  cases htb : d.take.1 with
  | false =>
    have e : d.sync = (10, d.take.2) := by simp only [Dsk.sync, htb, Bool.false_eq_true, if_false]
    rw [htb] at htk
    rw [e]
    have HT := Aside0.mk htk
    clear H htk hok
    go_enter Try.func14, Try.ntmps14
    go_wp2_with fail
    refine hi.mono ?_
    rintro e w1 ⟨rfl, rfl⟩
    go_wp2_with fail
    refine HT.out.mono ?_
    rintro e w1 ⟨rfl, H1⟩
    have HH := Aside0.mk H1
    clear H1
    go_wp2
    go_ret
    exact ⟨rfl, HH.out⟩
  | true =>
    have e : d.sync = (0, d.take.2.settled) := by simp only [Dsk.sync, htb, if_true]
    obtain ⟨ev, et⟩ := Dsk.take_true htb
    rw [htb] at htk
    rw [e, ← only_settled hok.take]
    have hS : ∀ W, St w0 W (rDisk p d.take.2 :: L) → Calls Try.prog 43 #[.pointer (some ⟨p, 0, none⟩), .func (.func 44) #[] #[]] W fun e w' => e = .returned (.tuple #[]) ∧ Aside0 (St w0 w' (rDisk p (d.take.2.only (chosen (fun _ m => m) 0 d.take.2.vals)) :: L)) := fun W HW => by
      refine (settle_calls (pk := fun _ m => m) (WJ := fun _ => rEmp) (n0 := d.take.2.taken) (fun _ _ => Nat.le_refl _) (fun {w L} j i m hj hw hm => (which44 w i m).mono fun e w' ⟨h1, h2⟩ => ⟨h1, by rw [h2]; exact hw⟩) enters44 (St.swap HW.emp) (by rw [et]; omega) (Nat.le_refl _)).mono ?_
      rintro e w' ⟨rfl, j, h⟩
      exact ⟨rfl, ⟨(St.swap h).drop⟩⟩
    have HT := Aside0.mk htk
    clear H htk hok
    generalize d.take.2 = d1 at *
    go_enter Try.func14, Try.ntmps14
    go_wp2_with fail
    refine hi.mono ?_
    rintro e w1 ⟨rfl, rfl⟩
    go_wp2_with fail
    refine HT.out.mono ?_
    rintro e w1 ⟨rfl, H1⟩
    have hS1 := hS _ H1
    clear H1
    go_wp2_with fail
    refine hS1.mono ?_
    rintro e w2 ⟨rfl, H2⟩
    go_wp2
    go_ret
    exact ⟨rfl, H2.out⟩
theorem cell_of_blk {w : World} {b : Nat} {cs : Array Value} {e : TypeId} {fz : Nat × Nat} (h : w.heap[b]? = some (.cells cs e fz)) (k : Nat) : w.cell? ⟨b, k, none⟩ = cs[k]? := by
  unfold World.cell?
  rw [h]
  rfl
theorem free_of_blk {w : World} {b : Nat} {cs : Array Value} {e : TypeId} (h : w.heap[b]? = some (.cells cs e (0, 0))) (k : Nat) : w.frozen? ⟨b, k, none⟩ = false := by
  unfold World.frozen?
  rw [h]
  simp
/-- Numbers that are read. -/
abbrev RdI (w : World) (A : Option Addr) (l : List Int) : Prop := Kd.C (Kd.int .i64) w A l.length l
theorem RdI.at_ {w : World} {A : Option Addr} {l : List Int} (h : RdI w A l) {j : Nat} (hj : j < l.length) : ∃ ad, A = some ad ∧ w.cell? (ad.add j) = some (.int .i64 (l.getD j 0)) := by
  obtain ⟨ad, e, hc⟩ := h.2.2 (by omega)
  obtain ⟨c, hs, hr, hcell⟩ := hc j _ (List.getElem?_eq_getElem hj)
  have hr : c = [.int .i64 l[j]] := hr
  subst hr
  refine ⟨ad, e, ?_⟩
  have := hcell 0 _ rfl
  rw [List.getD_eq_getElem?_getD, List.getElem?_eq_getElem hj]
  simpa [Kd.int, Kd.scalar] using this
/-- What Crash's function holds: the counter, the picks. -/
def rPick (jb pb : Nat) (A : Option Addr) (n c : Nat) (B : Res) (j : Nat) : Res := rAll [rBlk jb (.cells #[.int .i64 ((j : Int) - 1)] 3), rBlk pb (.cells #[.slice A n c] 23), B]
theorem pick_val (picks : List Int) {j m : Nat} (hj : j < picks.length) (hm : m ≤ 1048576000000000000) : wrap64 ((IntKind.u64.wrap (picks.getD j 0)).tmod ((m : Int) + 1)) = ((Dsk.pick picks j (m + 1) : Nat) : Int) := by
  have e : IntKind.u64.wrap (picks.getD j 0) = picks.getD j 0 % 18446744073709551616 := by simp [IntKind.wrap, IntKind.signed, IntKind.bits]
  rw [e, Dsk.pick, if_pos hj, Int.tmod_eq_emod_of_nonneg (Int.emod_nonneg _ (by omega))]
  have h1 := Int.emod_nonneg (picks.getD j 0 % 18446744073709551616) (show ((m : Int) + 1) ≠ 0 by omega)
  have h2 := Int.emod_lt_of_pos (picks.getD j 0 % 18446744073709551616) (show (0 : Int) < (m : Int) + 1 by omega)
  have e2 : ((m + 1 : Nat) : Int) = (m : Int) + 1 := by omega
  rw [e2, Int.toNat_of_nonneg h1]
  unfold wrap64
  omega
set_option maxHeartbeats 1000000 in
theorem which46 {jb pb : Nat} {A : Option Addr} {c : Nat} {picks : List Int} {B : Res} (hB : ∀ {w : World} {T S : Foot}, B.has w T S → RdI w A picks) (j i m : Nat) (hj4 : j ≤ 4096) (H : St w0 w (rPick jb pb A picks.length c B j :: L)) (hm : m ≤ 1048576000000000000) :
    Calls Try.prog 46 (#[.int .i64 (i : Nat), .int .i64 (m : Nat)] ++ #[.pointer (some ⟨jb, 0, none⟩), .pointer (some ⟨pb, 0, none⟩)]) w fun e w' => e = .returned (.int .i64 (Dsk.pick picks j (m + 1) : Nat)) ∧ St w0 w' (rPick jb pb A picks.length c B (j + 1) :: L) := by
  show Calls Try.prog 46 #[.int .i64 (i : Nat), .int .i64 (m : Nat), .pointer (some ⟨jb, 0, none⟩), .pointer (some ⟨pb, 0, none⟩)] w _
  have H1 := H.opn
  have hj := H1.blk
  have hp := H1.drop.blk
  have hR : RdI w A picks := by
    obtain ⟨T, S, hh, _⟩ := H1.drop.drop.fst
    exact hB hh
  have c1 : w.cell? ⟨jb, 0, none⟩ = some (.int .i64 ((j : Int) - 1)) := by simp [World.cell?, hj]
  have f1 : w.frozen? ⟨jb, 0, none⟩ = false := by simp [World.frozen?, hj]
  have c2 : (w.setCell ⟨jb, 0, none⟩ (.int .i64 (j : Int))).cell? ⟨pb, 0, none⟩ = some (.slice A picks.length c) := by
    have := (H1.setCell 0 (.int .i64 (j : Int))).drop.blk
    simp [World.cell?, this]
  have c3 : (w.setCell ⟨jb, 0, none⟩ (.int .i64 (j : Int))).cell? ⟨jb, 0, none⟩ = some (.int .i64 (j : Int)) := by
    have := (H1.setCell 0 (.int .i64 (j : Int))).blk
    simp [World.cell?, this]
  have hfin : St w0 (w.setCell ⟨jb, 0, none⟩ (.int .i64 (j : Int))) (rPick jb pb A picks.length c B (j + 1) :: L) := by
    have h2 := H1.setCell 0 (.int .i64 (j : Int))
    refine St.cls (M := [_, _, _]) ?_
    have e : ((j + 1 : Nat) : Int) - 1 = (j : Int) := by omega
    rw [e]
    exact h2
  have HF := Aside0.mk hfin
  have wj : wrap64 ((j : Int) - 1 + 1) = (j : Int) := by unfold wrap64; omega
  clear hfin H1 hj hp
  by_cases hjp : j < picks.length
  · have b1 : decide ((picks.length : Int) ≤ (j : Int)) = false := decide_eq_false (by omega)
    have q0 : (0 : Int) ≤ (j : Int) := by omega
    have q1 : (j : Int) < (picks.length : Int) := by omega
    obtain ⟨ad, rfl, hc⟩ := hR.at_ hjp
    have c4 : (w.setCell ⟨jb, 0, none⟩ (.int .i64 (j : Int))).cell? (ad.add j) = some (.int .i64 (picks.getD j 0)) := by
      obtain ⟨T, S, hh, _⟩ := (St.opn HF.out).drop.drop.fst
      obtain ⟨ad', e, hc'⟩ := (hB hh).at_ hjp
      cases e
      exact hc'
    have wm : IntKind.i64.wrap ((m : Int) + 1) = ((m + 1 : Nat) : Int) := by rw [YtoojcgmdcbcenaaW.PrintLast.i64_w]; unfold wrap64; omega
    go_enter Try.func46, Try.ntmps46
    go_wp2
    go_ret
    have e := pick_val picks hjp (by omega : m ≤ 1048576000000000000)
    have eg : picks.getD j 0 = picks[j] := by rw [List.getD_eq_getElem?_getD, List.getElem?_eq_getElem hjp]; rfl
    rw [eg] at e
    exact ⟨by rw [← e]; rfl, HF.out⟩
  · have b1 : decide ((picks.length : Int) ≤ (j : Int)) = true := decide_eq_true (by omega)
    have e : Dsk.pick picks j (m + 1) = 0 := by simp only [Dsk.pick, if_neg hjp]
    rw [e]
    go_enter Try.func46, Try.ntmps46
    go_wp2
    go_ret
    exact ⟨rfl, HF.out⟩
set_option maxHeartbeats 2000000 in
/-- Crash. -/
theorem St.crash {B : Res} {A : Option Addr} {picks : List Int} {c : Nat} (H : St w0 w (rDisk p d :: B :: L)) (hB : ∀ {w : World} {T S : Foot}, B.has w T S → RdI w A picks) (ht : d.taken ≤ maxTaken) :
    Calls Try.prog 17 #[.pointer (some ⟨p, 0, none⟩), .slice A picks.length c] w fun e w' => e = .returned (.int .i64 0) ∧ St w0 w' (rDisk p (d.crash picks) :: B :: L) := by
  have hok := H.diskOk
  have H1 := H.alloc (.cells #[.slice A picks.length c] 23)
  have hi := (St.swap H1).is
  have H2 := H1.alloc (.cells #[.int .i64 0] 3)
  have H3 := H1.alloc (.cells #[.int .i64 (-1)] 3)
  have H4 : St w0 ((w.alloc (.cells #[.slice A picks.length c] 23)).alloc (.cells #[.int .i64 (-1)] 3)) (rDisk p d :: rPick (w.heap.size + 1) w.heap.size A picks.length c B 0 :: L) := by
    have e1 : (w.alloc (.cells #[.slice A picks.length c] 23)).heap.size = w.heap.size + 1 := by simp
    rw [e1] at H3
    have h5 := St.rot3 H3
    have h6 := St.back4 h5
    have h7 : St w0 _ (rPick (w.heap.size + 1) w.heap.size A picks.length c B 0 :: rDisk p d :: L) := St.cls (M := [_, _, _]) h6
    exact St.swap h7
  have hse := settle_calls (pk := fun j m => Dsk.pick picks j (m + 1)) (WJ := rPick (w.heap.size + 1) w.heap.size A picks.length c B) (n0 := 1048576000000000000) (fun j m => by have := pick_lt picks j (m + 1) (by omega); omega)
    (fun {w L} j i m hj hw hm => which46 hB j i m hj hw hm) enters46 H4 ht (by unfold maxTaken at ht; omega)
  have e1 : (w.alloc (.cells #[.slice A picks.length c] 23)).heap.size = w.heap.size + 1 := by simp
  have cJ : ((w.alloc (.cells #[.slice A picks.length c] 23)).alloc (.cells #[.int .i64 0] 3)).cell? ⟨w.heap.size + 1, 0, none⟩ = some (.int .i64 0) := by
    have := H2.blk
    rw [e1] at this
    exact (cell_of_blk this 0).trans rfl
  have fJ : ((w.alloc (.cells #[.slice A picks.length c] 23)).alloc (.cells #[.int .i64 0] 3)).frozen? ⟨w.heap.size + 1, 0, none⟩ = false := by
    have := H2.blk
    rw [e1] at this
    exact free_of_blk this 0
  have hF : ∀ W, St w0 W (rDisk p (d.only (chosen (fun j m => Dsk.pick picks j (m + 1)) 0 d.vals)) :: B :: L) → W.frozen? ⟨p, 4, none⟩ = false ∧ W.frozen? ⟨p, 3, none⟩ = false ∧ (∃ v, W.cell? ⟨p, 4, none⟩ = some v) ∧ (∃ v, W.cell? ⟨p, 3, none⟩ = some v) ∧ St w0 ((W.setCell ⟨p, 4, none⟩ (.bool false)).setCell ⟨p, 3, none⟩ (.int .i64 (-1))) (rDisk p (d.crash picks) :: B :: L) := fun W HW => by
    have hokc := HW.diskOk
    obtain ⟨x, HW⟩ := HW.disk
    have hF := HW.diskIs.atF
    refine ⟨hF.fz 4, hF.fz 3, ⟨_, hF.c4⟩, ⟨_, hF.c3⟩, ?_⟩
    rw [← only_crash hok]
    refine HW.setD _ rfl ?_ ?_ ((Moved.cell0 _ _ _ _).cell _ _)
    · rw [only_crash hok]; exact hok.crash picks
    · rw [heap_setCell_self (heap_setCell_self HW.diskIs.blk _)]
      rfl
  have HF := Aside0.mk hF
  clear H H1 H2 H3 H4 hF
  go_enter Try.func17, Try.ntmps17
  go_wp2_with fail
  refine hi.mono ?_
  rintro e w1 ⟨rfl, rfl⟩
  go_wp2_with fail
  refine hse.mono ?_
  rintro e w1 ⟨rfl, j, H5⟩
  have H6 : St w0 w1 (rDisk p (d.only (chosen (fun j m => Dsk.pick picks j (m + 1)) 0 d.vals)) :: B :: L) := St.swap (St.opn (St.swap H5)).drop.drop
  obtain ⟨f4, f3, ⟨v4, c4⟩, ⟨v3, c3⟩, hfin⟩ := HF.out w1 H6
  have HG := Aside0.mk hfin
  clear hfin H5 H6
  go_wp2
  go_ret
  exact ⟨rfl, HG.out⟩
end
end Go.Proofs.Ytoojcgmdcbcenaa
