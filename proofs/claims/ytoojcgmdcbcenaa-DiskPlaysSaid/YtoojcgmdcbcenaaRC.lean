/- The reference's disk in memory, and what DiskPlays needs of it. -/
import Derived.Test.YtoojcgmdcbcenaaR14
namespace Go.Proofs.Ytoojcgmdcbcenaa
open Go.RowKit Go.Maps Go.Proofs.YtoojcgmdcbcenaaW.PrintWords
attribute [local go_sem ↓] Go.wp_at_zero Go.wp_at_succ
set_option linter.unusedVariables false
set_option linter.unusedSimpArgs false
set_option maxRecDepth 100000

section
variable {w0 w : World} {q : Nat} {d : Dsk} {L : List Res}
theorem rLists_snoc {us : List Value} {vals : List (List Sec)} {v : Value} {vs : List Sec} (H : St w0 w (rLists us vals :: rLst v vs :: L)) : St w0 w (rLists (us ++ [v]) (vals ++ [vs]) :: L) := by
  refine H.join.imp fun T S h hS hT => ?_
  obtain ⟨S1, S2, h1, h2, h3, h4⟩ := h
  refine ⟨⟨by simp [h1.1.1], fun k u t g1 g2 => ?_⟩, fun q hq => ((h4 q).1 hq).elim (h1.2 q) (h2.2 q)⟩
  have hl := h1.1.1
  by_cases hk : k < us.length
  · rw [List.getElem?_append_left hk] at g1
    rw [List.getElem?_append_left (by omega)] at g2
    exact h1.1.2 k u t g1 g2
  · have hk2 : k = us.length := by
      have := (List.getElem?_eq_some_iff.1 g1).1
      rw [List.length_append, List.length_singleton] at this
      omega
    subst hk2
    have e1 : u = v := by simpa using g1.symm
    have e2 : t = vs := by rw [hl] at g2; simpa using g2.symm
    subst e1 e2
    exact h2.1
def rNew (q : Nat) (u : Value) (us : List Value) (I : Nat) : List Res := [rBlk q (rObj u (newD I)), rRow 40 1 u I us, rLists us (List.replicate I [zeroSec])]
/-- What one round of New does. -/
theorem St.newF {W : World} {u : Value} {us : List Value} {I : Nat} (hI : I ≤ 4096) (H : St w0 W (rNew q u us I ++ L)) :
    ∃ u' A' W4, W.cell? ⟨q, 0, none⟩ = some u ∧ (W.alloc (zeros 256)).cell? ⟨q, 0, none⟩ = some u ∧
      ((W.alloc (zeros 256)).alloc (.cells #[.slice (some ⟨W.heap.size, 0, none⟩) 256 256] 31)).cell? ⟨q, 0, none⟩ = some u ∧
      (((W.alloc (zeros 256)).alloc (.cells #[.slice (some ⟨W.heap.size, 0, none⟩) 256 256] 31)).alloc (.cells #[.slice (some ⟨W.heap.size + 1, 0, none⟩) 1 1] 40)).cell? ⟨q, 0, none⟩ = some u ∧
      (Builtin.append_ #[63, 63] 63 #[u, .slice (some ⟨W.heap.size + 2, 0, none⟩) 1 1]).run Try.prog (((W.alloc (zeros 256)).alloc (.cells #[.slice (some ⟨W.heap.size, 0, none⟩) 256 256] 31)).alloc (.cells #[.slice (some ⟨W.heap.size + 1, 0, none⟩) 1 1] 40)) = .ok (.slice A' (I + 1) u') W4 ∧
      W4.cell? ⟨q, 0, none⟩ = some u ∧ W4.frozen? ⟨q, 0, none⟩ = false ∧ ∃ us', St w0 (W4.setCell ⟨q, 0, none⟩ (.slice A' (I + 1) u')) (rNew q (.slice A' (I + 1) u') us' (I + 1) ++ L) := by
  have cell : ∀ {W : World} {M : List Res}, St w0 W (rBlk q (rObj u (newD I)) :: M) → W.cell? ⟨q, 0, none⟩ = some u := fun h => by
    have hb := h.blk
    unfold rObj at hb
    exact (cell_of_blk hb 0).trans rfl
  have s1 : (W.alloc (zeros 256)).heap.size = W.heap.size + 1 := by simp
  have s2 : ((W.alloc (zeros 256)).alloc (.cells #[.slice (some ⟨W.heap.size, 0, none⟩) 256 256] 31)).heap.size = W.heap.size + 2 := by simp
  have k0 := cell H
  have H1 := (H.gainRow ((Below.refl _ W).alloc (Nat.le_refl _) _) (zeros_row 256 (by simp [maxLen]))).rowVal (s := zeroSec)
  have k1 := cell (St.swap H1)
  have H2 := (H1.alloc (.cells #[.slice (some ⟨W.heap.size, 0, none⟩) 256 256] 31)).listOne.lstOf (by simp)
  have k2 := cell (St.swap H2)
  have H3 := H2.alloc (.cells #[.slice (some ⟨W.heap.size + 1, 0, none⟩) 1 1] 40)
  rw [s1] at H3
  have k3 := cell (St.rot3 H3)
  -- blk l2, lst, blk q, row, lists
  rw [s2] at H3
  have hq := H3.blk
  have H4 : St w0 _ (rRow 40 1 u I us :: _) := St.rot4 H3
  obtain ⟨v', W4, hrun, ho, hg, hb⟩ := run_app63a (zs := [.slice (some ⟨W.heap.size + 1, 0, none⟩) 1 1]) (A := ⟨W.heap.size + 2, 0, none⟩) (m := 1) (c := 1) H4.row rfl (fun j z hj => by
    rcases j with _ | j
    · simp at hj
      subst hj
      exact (cell_of_blk hq 0).trans rfl
    · simp at hj) (fun z hz => by simp at hz; subst hz; rfl) (by omega)
  have H5 := H4.setRow ho hg (hb.imp_right fun e k hk => by rw [e] at hk; injection hk with hk; omega)
  obtain ⟨A', u', rfl⟩ := own_slice H5.row
  -- row, blk l2, lst, blk q, lists
  have H6 := St.rot4 H5
  have k4 := cell H6
  have hblk := H6.blk
  unfold rObj at hblk
  have hfz : W4.frozen? ⟨q, 0, none⟩ = false := free_of_blk hblk 0
  refine ⟨u', A', W4, k0, k1, k2, k3, hrun, k4, hfz, us ++ [.slice (some ⟨W.heap.size + 1, 0, none⟩) 1 1], ?_⟩
  have H7 := H6.setBlk (o' := rObj (.slice A' (I + 1) u') (newD (I + 1))) (w' := W4.setCell ⟨q, 0, none⟩ (.slice A' (I + 1) u')) (by
    rw [heap_setCell_self hblk]
    unfold rObj
    rfl) (Moved.cell0 _ _ _ _)
  -- blk q, row, blk l2, lst, lists
  have H8 := rLists_snoc (St.swap (St.rot5 (St.rot5 H7)))
  rw [← List.replicate_succ'] at H8
  have H9 := St.back3 (St.rot4 H8).drop
  exact H9
set_option maxHeartbeats 4000000 in
theorem St.rNewOk (H : St w0 w L) {n : Nat} (h1 : 1 ≤ n) (h2 : n ≤ 4096) : Calls Try.prog 26 #[.int .i64 (n : Nat)] w fun e w' => ∃ q, e = .returned (.tuple #[.pointer (some ⟨q, 0, none⟩), .int .i64 0]) ∧ St w0 w' (rRef q (newD n) :: L) := by
  have b1 : decide ((n : Int) < 1) = false := decide_eq_false (by omega)
  have b2 : decide (4096 < (n : Int)) = false := decide_eq_false (by omega)
  have b1n : decide (n < 1) = false := decide_eq_false (by omega)
  have b2n : decide (4096 < n) = false := decide_eq_false (by omega)
  have H1 := H.alloc (.cells #[.slice none 0 0, .int .i64 (-1), .bool false, .int .i64 0] 65)
  have H2 : St w0 (w.alloc (.cells #[.slice none 0 0, .int .i64 (-1), .bool false, .int .i64 0] 65)) (rNew w.heap.size (.slice none 0 0) [] 0 ++ L) := by
    have E1 := H1.emp.imp (B := rLists [] (List.replicate 0 [zeroSec])) fun T S h _ _ => ⟨⟨rfl, fun i u vs e _ => by simp at e⟩, h⟩
    have E2 := E1.emp.imp (B := rRow 40 1 (.slice none 0 0) 0 []) fun T S h _ _ => ⟨World.ownsRow_nil _ _ _ _, fun i => ⟨fun hi => absurd hi (h i), fun hi => by simp [Value.ownBlock] at hi⟩⟩
    exact St.rot3 E2
  have HS := Aside0.mk H2
  clear H H1 H2
  go_enter Try.func26, Try.ntmps26
  go_wp2_with fail
  go_loopw [5] (fun i W => ∃ (I : Nat) (u : Value) (us : List Value), i = .int .i64 (I : Int) ∧ I ≤ n ∧ Aside0 (St w0 W (rNew w.heap.size u us I ++ L))) (fun i _ => n - (RowKit.intOf i).toNat)
  case atStart => exact ⟨0, _, _, rfl, Nat.zero_le _, HS⟩
  case round =>
    clear HS
    obtain ⟨I, u, us, rfl, hI, HI⟩ := hrel
    by_cases hIV : I < n
    · have u1 : decide ((I : Int) < (n : Int)) = true := decide_eq_true (by omega)
      have u2 : decide (I < n) = true := decide_eq_true (by omega)
      have hf := St.newF (by omega) HI.out.drew
      obtain ⟨u', A', W4, k0, k1, k2, k3, hrun, k4, k5, us', hfin⟩ := hf
      have hw1 : wr.drew.alloc (zeros 256) = (wr.alloc (zeros 256)).drew := rfl
      have hw2 : (wr.alloc (zeros 256)).drew.alloc (.cells #[.slice (some ⟨wr.heap.size, 0, none⟩) 256 256] 31) = ((wr.alloc (zeros 256)).alloc (.cells #[.slice (some ⟨wr.heap.size, 0, none⟩) 256 256] 31)).drew := rfl
      have hw3 : ((wr.alloc (zeros 256)).alloc (.cells #[.slice (some ⟨wr.heap.size, 0, none⟩) 256 256] 31)).drew.alloc (.cells #[.slice (some ⟨wr.heap.size + 1, 0, none⟩) 1 1] 40) = (((wr.alloc (zeros 256)).alloc (.cells #[.slice (some ⟨wr.heap.size, 0, none⟩) 256 256] 31)).alloc (.cells #[.slice (some ⟨wr.heap.size + 1, 0, none⟩) 1 1] 40)).drew := rfl
      have hz : wr.drew.heap.size = wr.heap.size := rfl
      rw [hz, hw1, hw2, hw3] at hrun
      have hm : (Instr.makeSlice 31 (.int .i64 256) (.int .i64 256)).run Try.prog wr.drew = .ok (.slice (some ⟨wr.heap.size, 0, none⟩) 256 256) (wr.alloc (zeros 256)).drew := make_bytes wr.drew 256 (by omega) (by omega)
      replace k0 : wr.cell? ⟨w.heap.size, 0, none⟩ = some u := k0
      replace k1 : (wr.alloc (zeros 256)).cell? ⟨w.heap.size, 0, none⟩ = some u := k1
      replace k2 : ((wr.alloc (zeros 256)).alloc (.cells #[.slice (some ⟨wr.heap.size, 0, none⟩) 256 256] 31)).cell? ⟨w.heap.size, 0, none⟩ = some u := k2
      replace k3 : (((wr.alloc (zeros 256)).alloc (.cells #[.slice (some ⟨wr.heap.size, 0, none⟩) 256 256] 31)).alloc (.cells #[.slice (some ⟨wr.heap.size + 1, 0, none⟩) 1 1] 40)).cell? ⟨w.heap.size, 0, none⟩ = some u := k3
      have HF := Aside0.mk hfin
      clear hfin hw1 hw2 hw3 hz HI
      go_wp2_with fail
      go_region_law (first
        | (refine step_app_run rfl _ _ rfl _ _ rfl rfl hrun ?_))
      all_goals (
        go_wp2
        go_roundw
        case rel => exact ⟨I + 1, _, us', by go_num, hIV, HF⟩
        case measure => simp only [RowKit.intOf]; omega)
    · have hIe : I = n := by omega
      subst hIe
      have u1 : decide ((I : Int) < (I : Int)) = false := decide_eq_false (by omega)
      go_wp2
      go_ret2
      refine ⟨_, rfl, St.mkRef u us ?_⟩
      have h := HI.out
      have hl : (newD I).vals.length = I := by simp [newD]
      unfold rRefX
      rw [hl]
      exact St.infact (newD_ok h1 h2) h
theorem rNew_err {n : Int} (h : ¬ (1 ≤ n ∧ n ≤ 4096)) : Calls Try.prog 26 #[.int .i64 n] w fun e w' => e = .returned (.tuple #[.pointer none, .int .i64 2]) ∧ w' = w := by
  by_cases h1 : n < 1
  · have b1 : decide (n < 1) = true := decide_eq_true h1
    go_enter Try.func26, Try.ntmps26
    go_wp2
    go_ret2
    exact ⟨rfl, rfl⟩
  · have b1 : decide (n < 1) = false := decide_eq_false h1
    have b2 : decide (4096 < n) = true := decide_eq_true (by omega)
    go_enter Try.func26, Try.ntmps26
    go_wp2
    go_ret2
    exact ⟨rfl, rfl⟩
end
end Go.Proofs.Ytoojcgmdcbcenaa
namespace Go.Proofs.Ytoojcgmdcbcenaa
open Go.RowKit Go.Maps Go.Proofs.YtoojcgmdcbcenaaW.PrintWords
attribute [local go_sem ↓] Go.wp_at_zero Go.wp_at_succ
set_option linter.unusedVariables false
set_option linter.unusedSimpArgs false
set_option maxRecDepth 100000

def secAt (b : List Int) (i : Nat) : Sec := (b.drop (i * 256)).take 256
/-- The first I sectors loaded. -/
def ldI (b : List Int) (n I : Nat) : List (List Sec) := ((List.range I).map fun i => [secAt b i]) ++ List.replicate (n - I) [zeroSec]
theorem ldI_len (b : List Int) {n I : Nat} (h : I ≤ n) : (ldI b n I).length = n := by simp [ldI]; omega
theorem ldI_zero (b : List Int) (n : Nat) : ldI b n 0 = (newD n).vals := by simp [ldI, newD]
theorem ldI_end (b : List Int) : ldI b (b.length / 256) (b.length / 256) = (loadD b).vals := by simp [ldI, loadD, secAt]
theorem ldI_succ (b : List Int) {n I : Nat} (h : I < n) : (ldI b n I).set I [secAt b I] = ldI b n (I + 1) := by
  unfold ldI
  rw [List.set_append_right _ _ (by simp)]
  simp only [List.length_map, List.length_range, Nat.sub_self]
  rw [show n - I = (n - (I + 1)) + 1 by omega, List.replicate_succ, List.set_cons_zero, List.range_succ, List.map_append]
  simp
theorem ldI_ok {b : List Int} {n : Nat} (h1 : 1 ≤ n) (h2 : n ≤ 4096) (hl : n * 256 ≤ b.length) (hb : ∀ x ∈ b, 0 ≤ x ∧ x ≤ 255) {I : Nat} (hI : I ≤ n) : ({ newD n with vals := ldI b n I } : Dsk).Ok := by
  have hmem : ∀ l ∈ ldI b n I, l = [zeroSec] ∨ ∃ i, i < n ∧ l = [secAt b i] := fun l hl => by
    rcases List.mem_append.1 hl with hl | hl
    · obtain ⟨i, hi, rfl⟩ := List.mem_map.1 hl
      exact .inr ⟨i, by have := List.mem_range.1 hi; omega, rfl⟩
    · exact .inl (List.mem_replicate.1 hl).2
  refine ⟨by show 1 ≤ (ldI b n I).length; rw [ldI_len _ hI]; exact h1, by show (ldI b n I).length ≤ 4096; rw [ldI_len _ hI]; exact h2, fun l hl => ?_, fun l hl s hs => ?_, by simp [newD], by simp [newD], fun l hl => ?_⟩
  · rcases hmem l hl with rfl | ⟨_, _, rfl⟩ <;> simp
  · rcases hmem l hl with rfl | ⟨i, hi, rfl⟩
    · rw [List.mem_singleton.1 hs]; exact zeroSec_ok
    · rw [List.mem_singleton.1 hs]
      refine ⟨by simp [secAt]; omega, fun x hx => hb x (List.mem_of_mem_drop (List.mem_of_mem_take hx))⟩
  · rcases hmem l hl with rfl | ⟨_, _, rfl⟩ <;> simp
theorem Rd.part {w : World} {a : Addr} {l : List Int} (h : Rd w (some a) l) (i m : Nat) (hm : i + m ≤ l.length) : Rd w (some (a.add i)) ((l.drop i).take m) := by
  have hl := h.2.1
  refine Rd.mk (by simp; omega) fun j u hj => ?_
  have hj2 : j < m := by
    have := (List.getElem?_eq_some_iff.1 hj).1
    simp [bytes] at this; omega
  have e : (bytes l)[i + j]? = some u := by
    rw [← hj]
    simp only [bytes, List.getElem?_map]
    congr 1
    rw [List.getElem?_take, if_pos hj2, List.getElem?_drop]
  have := Rd.cells h (i + j) u e
  rw [Addr.add_add]
  exact this
section
variable {w0 w : World} {q : Nat} {d : Dsk} {L : List Res}
/-- What one round of Load does. -/
theorem St.ldF {B : Res} {W : World} {ad : Addr} {b : List Int} {I : Nat} (H : St w0 W (rRef q d :: B :: L)) (hR : Rd W (some ad) b) (hi : I < d.vals.length) (hl : I * 256 + 256 ≤ b.length) (hok : ({ d with vals := d.vals.set I [secAt b I] } : Dsk).Ok) (c : Nat) :
    ∃ og oc, W.cell? ⟨q, 0, none⟩ = some (.slice (some ⟨og, 0, none⟩) d.vals.length oc) ∧
    Calls Try.prog 50 #[.slice (some (ad.add (I * 256))) 256 c] W fun e W2 => ∃ bb c' U, e = .returned (.slice (some ⟨bb, 0, none⟩) 256 c') ∧ W2.cell? ⟨q, 0, none⟩ = some (.slice (some ⟨og, 0, none⟩) d.vals.length oc) ∧
      (W2.alloc (.cells #[.slice (some ⟨bb, 0, none⟩) 256 c'] 31)).cell? ⟨q, 0, none⟩ = some (.slice (some ⟨og, 0, none⟩) d.vals.length oc) ∧
      (W2.alloc (.cells #[.slice (some ⟨bb, 0, none⟩) 256 c'] 31)).cell? ⟨og, I, none⟩ = some U ∧ (W2.alloc (.cells #[.slice (some ⟨bb, 0, none⟩) 256 c'] 31)).frozen? ⟨og, I, none⟩ = false ∧
      ((W2.alloc (.cells #[.slice (some ⟨bb, 0, none⟩) 256 c'] 31)).setCell ⟨og, I, none⟩ (.slice (some ⟨W2.heap.size, 0, none⟩) 1 1)).cell? ⟨q, 0, none⟩ = some (.slice (some ⟨og, 0, none⟩) d.vals.length oc) ∧
      St w0 ((W2.alloc (.cells #[.slice (some ⟨bb, 0, none⟩) 256 c'] 31)).setCell ⟨og, I, none⟩ (.slice (some ⟨W2.heap.size, 0, none⟩) 1 1)) (rRef q { d with vals := d.vals.set I [secAt b I] } :: B :: L) := by
  obtain ⟨u0, us0, H0⟩ := H.ref
  have hR0 := H0.refIs
  obtain ⟨og, oc, rfl⟩ := hR0.form
  have k0 := hR0.cells.1
  obtain ⟨A0, cc0, k1, _, _⟩ := hR0.at_ hi
  have hne : og ≠ q := by
    intro e
    obtain ⟨cur, t⟩ := ownsRow_ty hR0.row
    have hb := hR0.blk
    unfold rObj at hb
    rw [e, hb] at t
    injection t with t
    injection t with _ t _
    exact absurd t (by decide)
  have hs : (secAt b I).length = 256 := by simp [secAt]; omega
  refine ⟨og, oc, k0, (sector_calls (c := c) (Rd.part hR (I * 256) 256 hl) (by simpa [secAt] using hs) (by have : (secAt b I).length ≤ 140737488355328 := by omega
                                                                                                           exact this)).mono ?_⟩
  rintro e W2 ⟨v, rfl, ho2, hB2⟩
  have H3 := H.gainRow hB2 ho2
  obtain ⟨bb, c', rfl, _, _⟩ := ho2.form (by omega)
  have H4 := H3.rowVal
  have H5 := (H4.alloc (.cells #[.slice (some ⟨bb, 0, none⟩) 256 c'] 31)).listOne.lstOf (by simp)
  have c30 := pw_cell_below hB2 k0
  have c31 := pw_cell_below hB2 k1
  have hB4 := (Below.refl W2.heap.size W2).alloc (Nat.le_refl _) (.cells #[.slice (some ⟨bb, 0, none⟩) 256 c'] 31)
  have c40 := pw_cell_below hB4 c30
  have c41 := pw_cell_below hB4 c31
  obtain ⟨u, us, H7⟩ := H5.swap.ref
  have hR7 := H7.refIs
  obtain ⟨og', oc', rfl⟩ := hR7.form
  have f0 := hR7.cells.1
  rw [c40] at f0
  cases f0
  have hfz : (W2.alloc (.cells #[.slice (some ⟨bb, 0, none⟩) 256 c'] 31)).frozen? ⟨og, I, none⟩ = false := by
    obtain ⟨cur, t⟩ := ownsRow_ty hR7.row
    exact free_of_blk t I
  have H8 := H7.refPut (i := I) rfl hok
  exact ⟨bb, c', _, rfl, c30, c40, c41, hfz, (cell_far (Ne.symm hne)).trans c40, H8⟩
end
end Go.Proofs.Ytoojcgmdcbcenaa
namespace Go.Proofs.Ytoojcgmdcbcenaa
open Go.RowKit Go.Maps Go.Proofs.YtoojcgmdcbcenaaW.PrintWords
attribute [local go_sem ↓] Go.wp_at_zero Go.wp_at_succ
set_option linter.unusedVariables false
set_option linter.unusedSimpArgs false
set_option maxRecDepth 100000

section
variable {w0 w : World} {q : Nat} {d : Dsk} {L : List Res}
set_option maxHeartbeats 2000000 in
theorem St.rLoad {B : Res} {A : Option Addr} {b : List Int} {c : Nat} (H : St w0 w (B :: L)) (hB : ∀ {w : World} {T S : Foot}, B.has w T S → Rd w A b) (hby : ∀ x ∈ b, 0 ≤ x ∧ x ≤ 255) (hlc : b.length ≤ c) :
    Calls Try.prog 29 #[.slice A b.length c] w fun e w' => if b.length % 256 = 0 ∧ 1 ≤ b.length / 256 ∧ b.length / 256 ≤ 4096 then ∃ q, e = .returned (.tuple #[.pointer (some ⟨q, 0, none⟩), .int .i64 0]) ∧ St w0 w' (rRef q (loadD b) :: B :: L) else e = .returned (.tuple #[.pointer none, .int .i64 2]) ∧ w' = w := by
  have hl : b.length ≤ 9223372036854775807 := by
    obtain ⟨T, S, hh, _⟩ := H.fst
    exact (hB hh).2.1
  obtain ⟨len, hlen⟩ : ∃ len, len = b.length := ⟨_, rfl⟩
  rw [← hlen] at hl hlc ⊢
  obtain ⟨r, hr⟩ : ∃ r, r = len % 256 := ⟨_, rfl⟩
  obtain ⟨n, hn⟩ : ∃ n, n = len / 256 := ⟨_, rfl⟩
  have tr : (len : Int).tmod 256 = (r : Int) := by rw [Int.tmod_eq_emod_of_nonneg (by omega)]; omega
  have td : wrap64 ((len : Int).tdiv 256) = (n : Int) := by rw [Int.tdiv_eq_ediv_of_nonneg (by omega)]; unfold wrap64; omega
  have er : ((len : Int) % 256) = (r : Int) := by omega
  have ed : wrap64 ((len : Int) / 256) = (n : Int) := by unfold wrap64; omega
  rw [← hr, ← hn]
  by_cases h0 : r = 0
  · by_cases h1 : 1 ≤ n ∧ n ≤ 4096
    · have hc1 : r = 0 ∧ 1 ≤ n ∧ n ≤ 4096 := ⟨h0, h1⟩
      simp only [if_pos hc1]
      have hnew := H.rNewOk (n := n) h1.1 h1.2
      subst h0
      have hln : n * 256 = len := by omega
      obtain ⟨ad, rfl, _⟩ : ∃ ad, A = some ad ∧ True := by
        obtain ⟨T, S, hh, _⟩ := H.fst
        obtain ⟨ad, e, _⟩ := (hB hh).2.2 (by omega)
        exact ⟨ad, e, trivial⟩
      have hRd : Aside0 (∀ {W : World} {X : Res}, St w0 W (X :: B :: L) → Rd W (some ad) b) := ⟨fun h => by
        obtain ⟨T, S, hh, _⟩ := h.drop.fst
        exact hB hh⟩
      have hok := Aside0.mk fun I (hI : I ≤ n) => ldI_ok (b := b) h1.1 h1.2 (by omega) hby hI
      have HL := Aside0.mk hlen
      have HN := Aside0.mk hn
      have HLN := Aside0.mk hln
      have hlc' : Aside0 (len ≤ c) := ⟨hlc⟩
      have hn2 := h1.2
      clear H hr hn hl hc1 hlen hln hlc h1 hby
      go_enter Try.func29, Try.ntmps29
      go_wp2_with fail
      refine hnew.mono ?_
      rintro e w1 ⟨q, rfl, H1⟩
      have HS : Aside0 (St w0 w1 (rRef q { newD n with vals := ldI b n 0 } :: B :: L)) := ⟨by rw [ldI_zero]; exact H1⟩
      clear H1
      go_wp2_with fail
      go_loopw [6] (fun i W => ∃ I : Nat, i = .int .i64 (I : Int) ∧ I ≤ n ∧ Aside0 (St w0 W (rRef q { newD n with vals := ldI b n I } :: B :: L))) (fun i _ => n - (RowKit.intOf i).toNat)
      case atStart => exact ⟨0, rfl, Nat.zero_le _, HS⟩
      case round =>
        clear HS
        obtain ⟨I, rfl, hI, HI⟩ := hrel
        have hlV : (ldI b n I).length = n := ldI_len b hI
        obtain ⟨u, us, HR⟩ := HI.out.ref
        have hR := HR.refIs
        have c0 := hR.cells.1
        obtain ⟨og, oc, hu⟩ := hR.form
        subst hu
        simp only [hlV] at c0
        by_cases hIV : I < n
        · have u1 : decide ((I : Int) < (n : Int)) = true := decide_eq_true (by omega)
          have u2 : (0 : Int) ≤ (I : Int) := by omega
          have u3 : (I : Int) < (n : Int) := by omega
          have hsu := ldI_succ b hIV
          have hf := HI.out.drew.ldF (b := b) (I := I) (ad := ad) (hRd.out HI.out.drew) (by show I < (ldI b n I).length; omega) (by have := HLN.out; have := HL.out; omega) (by show ({ newD n with vals := (ldI b n I).set I [secAt b I] } : Dsk).Ok; rw [hsu]; exact hok.out (I + 1) hIV)
          simp only [hsu, hlV] at hf
          obtain ⟨og', oc', k0, hcall⟩ := hf (c - I * 256)
          replace k0 : wr.cell? ⟨q, 0, none⟩ = some (.slice (some ⟨og', 0, none⟩) n oc') := k0
          rw [c0] at k0
          cases k0
          have S1 : Aside0 (wr.drew.cell? ⟨q, 0, none⟩ = some (.slice (some ⟨og, 0, none⟩) n oc)) := ⟨c0⟩
          obtain ⟨lo, hlo⟩ : ∃ lo : Nat, lo = I * 256 := ⟨_, rfl⟩
          obtain ⟨i1, hi1⟩ : ∃ i1 : Nat, i1 = I + 1 := ⟨_, rfl⟩
          obtain ⟨hh, hh1⟩ : ∃ hh : Nat, hh = lo + 256 := ⟨_, rfl⟩
          have wi1 : IntKind.i64.wrap ((I : Int) * 256) = (lo : Int) := by rw [IntWalk.i64_in _ (by omega)]; omega
          have wi2 : IntKind.i64.wrap ((I : Int) + 1) = (i1 : Int) := by rw [IntWalk.i64_in _ (by omega)]; omega
          have wi3 : IntKind.i64.wrap ((i1 : Int) * 256) = (hh : Int) := by rw [IntWalk.i64_in _ (by omega)]; omega
          have q1 : (0 : Int) ≤ (lo : Int) := by omega
          have q2 : (lo : Int) ≤ (hh : Int) := by omega
          have q3 : (hh : Int) ≤ (c : Int) := by have := hlc'.out; have := HLN.out; omega
          have q4 : (0 : Int) ≤ (hh : Int) := by omega
          have h256 : hh - lo = 256 := by omega
          have hcl : ¬ (c = lo) := by have := hlc'.out; have := HLN.out; omega
          rw [← hlo] at hcall
          have HC := Aside0.mk hcall
          clear HR hR hlV hsu hcall hlo hi1 hh1
          go_wp2_with fail
          go_region_held3 (fun W => W.cell? ⟨q, 0, none⟩ = some (.slice (some ⟨og, 0, none⟩) n oc))
            ((first | exact S1.out | exact s2.out | exact s3.out | exact s4.out))
            ((go_at_call 50; refine HC.out.mono ?_; rintro e W2 ⟨bb, c', U, rfl, s2, s3, m1, m2, s4, hfin⟩; have s2 := Aside0.mk s2; have s3 := Aside0.mk s3; have s4 := Aside0.mk s4; have hfin := Aside0.mk hfin))
          all_goals (
            clear wi1 wi2 wi3
            go_wp2
            go_roundw
            case rel => exact ⟨I + 1, by go_num, hIV, hfin⟩
            case measure => simp only [RowKit.intOf]; omega)
        · have hIe : I = n := by omega
          subst hIe
          have u1 : decide ((I : Int) < (I : Int)) = false := decide_eq_false (by omega)
          have HF : Aside0 (St w0 wr (rRef q (loadD b) :: B :: L)) := ⟨by
            have e : ({ newD I with vals := ldI b I I } : Dsk) = loadD b := by
              rw [HN.out, HL.out, ldI_end]; rfl
            rw [← e]; exact HI.out⟩
          clear HR hR hlV
          go_wp2
          go_ret2
          exact ⟨_, rfl, HF.out⟩
    · have hc1 : ¬ (r = 0 ∧ 1 ≤ n ∧ n ≤ 4096) := fun h => h1 h.2
      simp only [if_neg hc1]
      have hnew := rNew_err (w := w) (n := (n : Int)) (fun h => h1 (by omega))
      subst h0
      clear H hr hn hl hc1 hlen hlc
      go_enter Try.func29, Try.ntmps29
      go_wp2_with fail
      refine hnew.mono ?_
      rintro e w1 ⟨rfl, rfl⟩
      go_wp2
      go_ret2
      exact ⟨rfl, rfl⟩
  · have hc1 : ¬ (r = 0 ∧ 1 ≤ n ∧ n ≤ 4096) := fun h => h0 h.1
    simp only [if_neg hc1]
    have b1 : ((r : Int) == 0) = false := by simpa using h0
    clear H hr hn hl hc1 hlen hlc
    go_enter Try.func29, Try.ntmps29
    go_wp2
    go_ret2
    exact ⟨rfl, rfl⟩
end
end Go.Proofs.Ytoojcgmdcbcenaa
namespace Go.Proofs.Ytoojcgmdcbcenaa
open Go.RowKit Go.Maps Go.Proofs.YtoojcgmdcbcenaaW.PrintWords
attribute [local go_sem ↓] Go.wp_at_zero Go.wp_at_succ
set_option linter.unusedVariables false
set_option linter.unusedSimpArgs false
set_option maxRecDepth 100000

section
variable {w0 w : World} {p q : Nat} {d : Dsk} {L : List Res}
/-- Behind a New or a Load: a disk, or none. -/
def Got (w0 : World) (R : Nat → Dsk → Res) (ok : Prop) (d : Dsk) (L : List Res) (W : World) (P : Option Addr) (e : Int) : Prop :=
  (¬ ok ∧ e = 2 ∧ P = none ∧ St w0 W L) ∨ (ok ∧ e = 0 ∧ ∃ p, P = some ⟨p, 0, none⟩ ∧ St w0 W (R p d :: L))
def okN (s : Int) : Prop := 1 ≤ s ∧ s ≤ 4096
def okI (b : List Int) : Prop := b.length % 256 = 0 ∧ 1 ≤ b.length / 256 ∧ b.length / 256 ≤ 4096
theorem St.newOr (H : St w0 w L) (s : Int) : Calls Try.prog 10 #[.int .i64 s] w fun e w' => ∃ P er, e = .returned (.tuple #[.pointer P, .int .i64 er]) ∧ Got w0 rDisk (okN s) (newD s.toNat) L w' P er := by
  by_cases h : okN s
  · obtain ⟨n, rfl⟩ : ∃ n : Nat, s = n := ⟨s.toNat, by have := h.1; omega⟩
    refine (H.new (n := n) (by have := h.1; omega) (by have := h.2; omega)).mono ?_
    rintro e w' ⟨p, rfl, H1⟩
    exact ⟨_, _, rfl, .inr ⟨h, rfl, p, rfl, H1⟩⟩
  · refine (new_err h).mono ?_
    rintro e w' ⟨rfl, rfl⟩
    exact ⟨_, _, rfl, .inl ⟨h, rfl, rfl, H⟩⟩
theorem St.rNewOr (H : St w0 w L) (s : Int) : Calls Try.prog 26 #[.int .i64 s] w fun e w' => ∃ P er, e = .returned (.tuple #[.pointer P, .int .i64 er]) ∧ Got w0 rRef (okN s) (newD s.toNat) L w' P er := by
  by_cases h : okN s
  · obtain ⟨n, rfl⟩ : ∃ n : Nat, s = n := ⟨s.toNat, by have := h.1; omega⟩
    refine (H.rNewOk (n := n) (by have := h.1; omega) (by have := h.2; omega)).mono ?_
    rintro e w' ⟨p, rfl, H1⟩
    exact ⟨_, _, rfl, .inr ⟨h, rfl, p, rfl, H1⟩⟩
  · refine (rNew_err h).mono ?_
    rintro e w' ⟨rfl, rfl⟩
    exact ⟨_, _, rfl, .inl ⟨h, rfl, rfl, H⟩⟩
theorem St.loadOr {B : Res} {A : Option Addr} {b : List Int} {c n : Nat} (H : St w0 w (B :: L)) (hB : ∀ {w : World} {T S : Foot}, B.has w T S → Rd w A b) (hby : ∀ x ∈ b, 0 ≤ x ∧ x ≤ 255) (hn : b.length = n) :
    Calls Try.prog 27 #[.slice A n c] w fun e w' => ∃ P er, e = .returned (.tuple #[.pointer P, .int .i64 er]) ∧ Got w0 rDisk (okI b) (loadD b) (B :: L) w' P er := by
  subst hn
  refine (St.load (c := c) H hB hby).mono ?_
  intro e w' h
  by_cases hk : b.length % 256 = 0 ∧ 1 ≤ b.length / 256 ∧ b.length / 256 ≤ 4096
  · rw [if_pos hk] at h
    obtain ⟨p, rfl, H1⟩ := h
    exact ⟨_, _, rfl, .inr ⟨hk, rfl, p, rfl, H1⟩⟩
  · rw [if_neg hk] at h
    obtain ⟨rfl, rfl⟩ := h
    exact ⟨_, _, rfl, .inl ⟨hk, rfl, rfl, H⟩⟩
theorem St.rLoadOr {B : Res} {A : Option Addr} {b : List Int} {c n : Nat} (H : St w0 w (B :: L)) (hB : ∀ {w : World} {T S : Foot}, B.has w T S → Rd w A b) (hby : ∀ x ∈ b, 0 ≤ x ∧ x ≤ 255) (hlc : n ≤ c) (hn : b.length = n) :
    Calls Try.prog 29 #[.slice A n c] w fun e w' => ∃ P er, e = .returned (.tuple #[.pointer P, .int .i64 er]) ∧ Got w0 rRef (okI b) (loadD b) (B :: L) w' P er := by
  subst hn
  refine (St.rLoad (c := c) H hB hby hlc).mono ?_
  intro e w' h
  by_cases hk : b.length % 256 = 0 ∧ 1 ≤ b.length / 256 ∧ b.length / 256 ≤ 4096
  · rw [if_pos hk] at h
    obtain ⟨p, rfl, H1⟩ := h
    exact ⟨_, _, rfl, .inr ⟨hk, rfl, p, rfl, H1⟩⟩
  · rw [if_neg hk] at h
    obtain ⟨rfl, rfl⟩ := h
    exact ⟨_, _, rfl, .inl ⟨hk, rfl, rfl, H⟩⟩
/-- The two disks of the law. -/
def Pair (w0 W : World) (P1 : Option Addr) (e1 : Int) (P2 : Option Addr) (e2 : Int) : Prop :=
  (e1 = 2 ∧ e2 = 2 ∧ P1 = none ∧ P2 = none ∧ Below w0.heap.size w0 W) ∨ (e1 = 0 ∧ e2 = 0 ∧ ∃ p q d, P1 = some ⟨p, 0, none⟩ ∧ P2 = some ⟨q, 0, none⟩ ∧ d.taken = 0 ∧ St w0 W (rDisk p d :: rRef q d :: []))
theorem Got.pair {ok : Prop} {d : Dsk} {W2 : World} {P1 P2 : Option Addr} {e1 e2 : Int} (h0 : d.taken = 0) (h1 : (¬ ok ∧ e1 = 2 ∧ P1 = none ∧ ∃ M, Got w0 rRef ok d M W2 P2 e2) ∨ (ok ∧ e1 = 0 ∧ ∃ p, P1 = some ⟨p, 0, none⟩ ∧ ∃ M, Got w0 rRef ok d M W2 P2 e2 ∧ ∀ {A : Res}, St w0 W2 (A :: M) → St w0 W2 (A :: rDisk p d :: []))) : Pair w0 W2 P1 e1 P2 e2 := by
  rcases h1 with ⟨hk, rfl, rfl, M, h⟩ | ⟨hk, rfl, p, rfl, M, h, hM⟩
  · rcases h with ⟨_, rfl, rfl, H⟩ | ⟨hk2, _⟩
    · exact .inl ⟨rfl, rfl, rfl, rfl, H.below⟩
    · exact absurd hk2 hk
  · rcases h with ⟨hk2, _⟩ | ⟨_, rfl, q, rfl, H⟩
    · exact absurd hk hk2
    · exact .inr ⟨rfl, rfl, p, q, d, rfl, rfl, h0, (hM H).swap⟩
theorem Got.any {R : Nat → Dsk → Res} {ok : Prop} {W : World} {P : Option Addr} {e : Int} (h : Got w0 R ok d L W P e) : ∃ A, St w0 W (A :: L) := by
  rcases h with ⟨_, _, _, H⟩ | ⟨_, _, p, _, H⟩
  · exact ⟨_, H.emp⟩
  · exact ⟨_, H⟩
end
/-- Ints of nil. -/
theorem ints_none {w : World} {c : Nat} : Calls Try.prog 34 #[.slice none 0 c] w fun e w' => ∃ v, e = .returned v ∧ w'.ownsRow w.heap.size 3 1 v 0 [] ∧ Below w.heap.size w w' := by
  have hO : (w.alloc (.cells #[] 3)).ownsRow w.heap.size 3 1 (.slice (some ⟨w.heap.size, 0, none⟩) 0 0) ([] : List Value).length [] := World.ownsRow_made w #[] 0 (Nat.le_refl _) (by simp [maxLen]) rfl
  have HO := Aside0.mk hO
  have HB := Aside0.mk ((Below.refl w.heap.size w).alloc (Nat.le_refl _) (.cells #[] 3))
  clear hO
  go_enter Try.func34, Try.ntmps34
  go_wp2
  go_ret
  exact ⟨_, rfl, HO.out, HB.out⟩
theorem ints_calls {w : World} {A : Option Addr} {c : Nat} {l : List Int} (hr : RdI w A l) (hl : l.length ≤ 17592186044416) :
    Calls Try.prog 34 #[.slice A l.length c] w fun e w' => ∃ v, e = .returned v ∧ w'.ownsRow w.heap.size 3 1 v l.length (l.map (Value.int .i64)) ∧ Below w.heap.size w w' := by
  cases A with
  | none =>
    have := hr.nil rfl
    subst this
    exact ints_none
  | some ad => exact ints_some hr hl
theorem own_slice3 {w : World} {base n : Nat} {v : Value} {xs : List Value} {e : TypeId} (h : w.ownsRow base e 1 v n xs) : ∃ A c, v = .slice A n c := by
  rcases h.2 with ⟨e, e2⟩ | ⟨g, cap, cur, e, _⟩
  · exact ⟨_, _, by rw [e, e2]⟩
  · exact ⟨_, _, e⟩
theorem row_rdI {A : Option Addr} {n c : Nat} {l : List Int} (hn : l.length = n) {w : World} {T S : Foot} (h : (rRow 3 1 (.slice A n c) n (l.map (Value.int .i64))).has w T S) : RdI w A l := by
  subst hn
  obtain ⟨h0, _⟩ := h
  have hl : l.length ≤ 9223372036854775807 := by
    rcases h0.2 with ⟨_, e2⟩ | ⟨g, cap, cur, e, _, _, h3, h4, _⟩
    · omega
    · simp only [maxLen] at h4; omega
  refine ⟨rfl, hl, fun hpos => ?_⟩
  rcases h0.2 with ⟨e, e2⟩ | ⟨g, cap, cur, e, _⟩
  · have hpos : 0 < l.length := hpos
    omega
  · injection e with e1 _ _
    subst e1
    refine ⟨_, rfl, fun j p hp => ⟨[.int .i64 p], rfl, rfl, fun i u hu => ?_⟩⟩
    rcases i with _ | i
    · simp at hu
      subst hu
      show w.cell? ((⟨g, 0, none⟩ : Addr).add (j * 1 + 0)) = _
      rw [Nat.mul_one]
      exact h0.cells rfl j _ (by rw [List.getElem?_map, hp]; rfl)
    · simp at hu
section
variable {w0 w : World} {p q : Nat} {d : Dsk} {L : List Res}
/-- Ints, and the row that it made. -/
theorem St.intsAt {A : Option Addr} {c : Nat} {l : List Int} (H : St w0 w L) (hr : RdI w A l) (hl : l.length ≤ 17592186044416) : Calls Try.prog 34 #[.slice A l.length c] w fun e w' => ∃ A' c', e = .returned (.slice A' l.length c') ∧ St w0 w' (rRow 3 1 (.slice A' l.length c') l.length (l.map (Value.int .i64)) :: L) := by
  refine (ints_calls (c := c) hr hl).mono ?_
  rintro e w' ⟨v, rfl, ho, hb⟩
  have H1 := H.gainRow hb ho
  obtain ⟨A', c', rfl⟩ := own_slice3 ho
  exact ⟨A', c', rfl, H1⟩
theorem St.rReadAt (H : St w0 w (rRef q d :: L)) (i : Int) {s : Sec} {e0 : Int} (hs : d.read i = (s, e0)) : Calls Try.prog 32 #[.pointer (some ⟨q, 0, none⟩), .int .i64 i] w fun e w' => ∃ A c, e = .returned (.tuple #[.slice A s.length c, .int .i64 e0]) ∧ St w0 w' (rRow 5 1 (.slice A s.length c) s.length (bytes s) :: rRef q d :: L) := by
  refine (H.rRead i).mono ?_
  rintro e w' ⟨v, rfl, hv, hb⟩
  rw [hs] at hv ⊢
  have H1 := H.gainRow hb hv
  obtain ⟨A, c, rfl⟩ := own_slice hv
  exact ⟨A, c, rfl, H1⟩
/-- A row of bytes is written at k. -/
theorem St.poke {A : Option Addr} {n c k : Nat} {xs : List Value} (H : St w0 w (rRow 5 1 (.slice A n c) n xs :: L)) (hk : k < n) : ∃ g, A = some ⟨g, 0, none⟩ ∧ (∃ U, w.cell? ⟨g, k, none⟩ = some U) ∧ w.frozen? ⟨g, k, none⟩ = false ∧ ∀ u, St w0 (w.setCell ⟨g, k, none⟩ u) (rRow 5 1 (.slice A n c) n (xs.set k u) :: L) := by
  have hr := H.row
  obtain ⟨g, cap, e, _, _⟩ := hr.form (by omega)
  injection e with e1 _ e3
  subst e1 e3
  have hlx : xs.length = n := by have := hr.1; omega
  have hc := hr.cells (g := g) rfl k xs[k] (List.getElem?_eq_getElem (by omega))
  rw [addr_add, Nat.zero_add] at hc
  obtain ⟨cur, t⟩ := ownsRow_ty hr
  refine ⟨g, rfl, ⟨_, hc⟩, free_of_blk t k, fun u => ?_⟩
  exact H.setRow (ownsRow_set hr k u) ⟨rfl, rfl, rfl, by simp [World.setCell], fun p hp hne => Below.heap_setCell _ _ _ _ fun e => hne (by rw [e]; rfl)⟩ (.inl rfl)
theorem full_part {g1 cc o n : Nat} {c : Int} (ho : o + n = 256) {w : World} {T S : Foot} (h : (rRow 5 1 (.slice (some ⟨g1, 0, none⟩) 256 cc) 256 (bytes (fullS c))).has w T S) : Rd w (some ⟨g1, o, none⟩) (List.replicate n c) := by
  have h0 := h.1
  have h1 := own_part (l := fullS c) (by rw [fullS_len]; exact h0) o n (by rw [fullS_len]; omega)
  have e : ((fullS c).drop o).take n = List.replicate n c := by
    unfold fullS
    rw [List.drop_replicate, List.take_replicate]
    congr 1
    omega
  rwa [e] at h1
/-- Both disks are written: the law's one statement. -/
theorem St.wchain {W : World} {obj : Obj} {g g1 cc o n cw : Nat} {c : Int} (H : St w0 W (rRow 5 1 (.slice (some ⟨g1, 0, none⟩) 256 cc) 256 (bytes (fullS c)) :: rBlk g obj :: rDisk p d :: rRef q d :: L)) (ho : o + n = 256) (hc : 0 ≤ c ∧ c ≤ 255) (ht : d.taken < 1000000) (i : Int) :
    Calls Try.prog 21 #[.pointer (some ⟨p, 0, none⟩), .int .i64 i, .slice (some ⟨g1, o, none⟩) n cw] W fun e W3 => ∃ r, e = .returned (.int .i64 r) ∧ W3.heap[g]? = some obj ∧ Calls Try.prog 22 #[.int .u8 c] W3 fun e W4 => ∃ g2 cc2, e = .returned (.slice (some ⟨g2, 0, none⟩) 256 cc2) ∧ 256 ≤ cc2 ∧ W4.heap[g]? = some obj ∧
      ∀ cx, Calls Try.prog 30 #[.pointer (some ⟨q, 0, none⟩), .int .i64 i, .slice (some ⟨g2, 0, none⟩) n cx] W4 fun e W5 => e = .returned (.int .i64 r) ∧ W5.heap[g]? = some obj ∧ St w0 W5 (rRow 5 1 (.slice (some ⟨g1, 0, none⟩) 256 cc) 256 (bytes (fullS c)) :: rDisk p (d.write i (List.replicate n c)).2 :: rRef q (d.write i (List.replicate n c)).2 :: L) := by
  have hby : ∀ x ∈ List.replicate n c, 0 ≤ x ∧ x ≤ 255 := fun x hx => by rw [(List.mem_replicate.1 hx).2]; exact hc
  -- row, blk, disk, ref
  have h1 := St.write (A := some ⟨g1, o, none⟩) (b := List.replicate n c) (St.rot3 H) (fun {w T S} h => full_part ho h) (by unfold maxTaken; omega) hby i cw (by simp)
  rw [List.length_replicate] at h1
  refine h1.mono ?_
  rintro e W3 ⟨rfl, H3⟩
  -- disk', row, blk, ref
  refine ⟨_, rfl, (St.rot3 H3).blk, (H3.full c).mono ?_⟩
  rintro e W4 ⟨g2, cc2, rfl, H4⟩
  -- row2, disk', row, blk, ref
  have hcc : 256 ≤ cc2 := by
    have h := H4.row
    rw [← fullS_len c] at h
    have := (own_rd h).2.1
    rw [fullS_len] at this
    exact this
  refine ⟨g2, cc2, rfl, hcc, (St.rot4 H4).blk, fun cx => ?_⟩
  -- ref, row2, disk', row, blk
  have h2 := St.rWrite (c := cx) (n := n) (b := List.replicate n c) (St.rot5 H4) (fun {w T S} h => by
    have h0 := h.1
    have h1 := own_part (l := fullS c) (by rw [fullS_len]; exact h0) 0 n (by rw [fullS_len]; omega)
    have e : ((fullS c).drop 0).take n = List.replicate n c := by
      unfold fullS
      rw [List.drop_zero, List.take_replicate]
      congr 1
      omega
    rwa [e] at h1) ht hby List.length_replicate i
  refine h2.mono ?_
  rintro e W5 ⟨rfl, H5⟩
  -- ref', row2, disk', row, blk
  refine ⟨rfl, (St.rot5 H5).blk, ?_⟩
  have h := (St.swap (St.rot5 H5).drop).drop
  -- ref', disk', row
  exact ((St.rot3 h).perm (List.Perm.cons _ (List.Perm.swap _ _ _)))
/-- The law's last statement. -/
theorem St.ends {W : World} (H : St w0 W (rDisk p d :: rRef q d :: L)) (ht : d.taken ≤ maxTaken) :
    Calls Try.prog 13 #[.pointer (some ⟨p, 0, none⟩)] W fun e W1 => ∃ A1 c1 n1, e = .returned (.slice A1 n1 c1) ∧ Calls Try.prog 37 #[.pointer (some ⟨q, 0, none⟩)] W1 fun e W2 => ∃ A2 c2, e = .returned (.slice A2 n1 c2) ∧
      Calls Try.prog 15 #[.slice A1 n1 c1, .slice A2 n1 c2] W2 fun e W3 => e = .returned (.bool true) ∧
      Calls Try.prog 16 #[.pointer (some ⟨p, 0, none⟩)] W3 fun e W4 => ∃ A3 c3 n3, e = .returned (.slice A3 n3 c3) ∧ Calls Try.prog 38 #[.pointer (some ⟨q, 0, none⟩)] W4 fun e W5 => ∃ A4 c4, e = .returned (.slice A4 n3 c4) ∧
      Calls Try.prog 15 #[.slice A3 n3 c3, .slice A4 n3 c4] W5 fun e W6 => e = .returned (.bool true) ∧ Calls Try.prog 9 #[] W6 fun e W7 => e = .returned (.bool true) ∧ Below w0.heap.size w0 W7 := by
  refine (H.imageAt ht rfl).mono ?_
  rintro e W1 ⟨A1, c1, rfl, H1⟩
  refine ⟨A1, c1, _, rfl, ?_⟩
  refine ((St.rot3 H1).rImage).mono ?_
  rintro e W2 ⟨v, rfl, ho, hb⟩
  have H2 := (St.rot3 H1).gainRow hb ho
  obtain ⟨A2, c2, rfl⟩ := own_slice ho
  refine ⟨A2, c2, rfl, ?_⟩
  -- row2, ref, row1, disk
  refine (same_eq ((St.rot3 H2).rdRow rfl) (H2.rdRow rfl) rfl rfl rfl).mono ?_
  rintro e W3 ⟨rfl, hb3⟩
  refine ⟨rfl, ?_⟩
  have H3' := (St.rot4 (H2.go hb3)).swap.drop
  -- disk, ref, row1
  refine (H3'.sureAt rfl).mono ?_
  rintro e W4 ⟨A3, c3, rfl, H4⟩
  refine ⟨A3, c3, _, rfl, ?_⟩
  refine ((St.rot3 H4).rSure).mono ?_
  rintro e W5 ⟨v, rfl, ho5, hb5⟩
  have H5 := (St.rot3 H4).gainRow hb5 ho5
  obtain ⟨A4, c4, rfl⟩ := own_slice ho5
  refine ⟨A4, c4, rfl, ?_⟩
  refine (same_eq ((St.rot3 H5).rdRow rfl) (H5.rdRow rfl) rfl rfl rfl).mono ?_
  rintro e W6 ⟨rfl, hb6⟩
  refine ⟨rfl, ?_⟩
  refine (works_calls W6).mono ?_
  rintro e W7 ⟨rfl, hb7⟩
  exact ⟨rfl, ((H5.go hb6).go hb7).below⟩
end
end Go.Proofs.Ytoojcgmdcbcenaa
