/- The laws' helpers: full, SameBytes, Among. -/
import Derived.Test.YtoojcgmdcbcenaaM9
import Derived.Deep.RegionHeld3
import Derived.Deep.DrawnRows
namespace Go.Proofs.Ytoojcgmdcbcenaa
open Go.RowKit Go.Maps Go.Proofs.YtoojcgmdcbcenaaW.PrintWords
attribute [local go_sem ↓] Go.wp_at_zero Go.wp_at_succ
set_option linter.unusedVariables false
set_option linter.unusedSimpArgs false
set_option maxRecDepth 100000

/-- Among. -/
def among (n : Int) (m : Nat) : Nat := ((n % 18446744073709551616) % (m : Int)).toNat
theorem among_lt (n : Int) {m : Nat} (h : 0 < m) : among n m < m := by
  unfold among
  have h1 := Int.emod_lt_of_pos (n % 18446744073709551616) (show (0 : Int) < m by omega)
  have h2 := Int.emod_nonneg (n % 18446744073709551616) (show (m : Int) ≠ 0 by omega)
  omega
theorem among_val (n : Int) {m : Nat} (h : 0 < m) (hm : m ≤ 1048576) : wrap64 ((IntKind.u64.wrap n).tmod (m : Int)) = ((among n m : Nat) : Int) := by
  have e : IntKind.u64.wrap n = n % 18446744073709551616 := IntKind.wrap_u64 n
  rw [e, Int.tmod_eq_emod_of_nonneg (Int.emod_nonneg _ (by omega))]
  have h1 := Int.emod_lt_of_pos (n % 18446744073709551616) (show (0 : Int) < m by omega)
  have h2 := Int.emod_nonneg (n % 18446744073709551616) (show (m : Int) ≠ 0 by omega)
  unfold among
  rw [Int.toNat_of_nonneg h2]
  unfold wrap64
  omega
theorem among_calls (w : World) (n : Int) {m : Nat} (h : 0 < m) (hm : m ≤ 1048576) : Calls Try.prog 11 #[.int .i64 n, .int .i64 (m : Nat)] w fun e w' => e = .returned (.int .i64 (among n m : Nat)) ∧ w' = w := by
  have e := among_val n h hm
  have b0 : ((m : Int) == 0) = false := by simpa using (by omega : (m : Int) ≠ 0)
  have eu : IntKind.u64.wrap (m : Int) = (m : Int) := by rw [IntKind.wrap_u64]; omega
  have E := Aside0.mk e
  clear e
  go_enter Try.func11, Try.ntmps11
  go_wp2
  go_ret
  exact ⟨by rw [← E.out]; rfl, rfl⟩
/-- A cell of a row is written. -/
theorem row_set {w : World} {base g n cap i : Nat} {e : TypeId} {xs : List Value} (h : w.ownsRow base e 1 (.slice (some ⟨g, 0, none⟩) n cap) n xs) (hi : i < n) (u : Value) :
    (w.setCell ⟨g, i, none⟩ u).ownsRow base e 1 (.slice (some ⟨g, 0, none⟩) n cap) n (xs.set i u) ∧ w.grownBy (w.setCell ⟨g, i, none⟩ u) (some g) ∧ w.frozen? ⟨g, i, none⟩ = false ∧ w.cell? ⟨g, i, none⟩ = xs[i]? := by
  have h0 := h
  obtain ⟨h1, h2⟩ := h
  rcases h2 with ⟨e, _⟩ | ⟨g', cap', cur, e, hb, hg, h3, h4, h5, h6⟩
  · cases e
  · injection e with e1 e2 e3
    injection e1 with e1
    injection e1 with e1
    subst e1 e3
    refine ⟨⟨by simpa using h1, .inr ⟨g, cap, cur.setIfInBounds i u, rfl, hb, heap_setCell_self hg u, h3, h4, by simpa using h5, ?_⟩⟩, ⟨rfl, rfl, rfl, by simp [World.setCell], fun k hk hne => Below.heap_setCell w ⟨g, i, none⟩ u k (fun e => hne (by rw [e]))⟩, free_of_blk hg i, ?_⟩
    · rw [Array.toList_setIfInBounds, ← h6, List.take_set]
    · rw [cell_of_blk hg i, ← h6, List.getElem?_take_of_lt (by omega), Array.getElem?_toList]
set_option maxHeartbeats 1000000 in
/-- full: a sector of one byte. -/
theorem full_calls (w : World) (c : Int) : Calls Try.prog 22 #[.int .u8 c] w fun e w' => ∃ v, e = .returned v ∧ w'.ownsRow w.heap.size 5 1 v 256 (bytes (List.replicate 256 c)) ∧ Below w.heap.size w w' := by
  have hm := make_bytes w 256 (by omega) (by omega)
  have hz := zeros_row (w := w) 256 (by simp [maxLen])
  have hb0 : Below w.heap.size w (w.alloc (zeros 256)) := (Below.refl _ w).alloc (Nat.le_refl _) _
  have e2 : (256 : Int).toNat = 256 := rfl
  rw [e2] at hm
  have HZ := Aside0.mk hz
  have HB := Aside0.mk hb0
  clear hz hb0 e2
  obtain ⟨g, hg⟩ : ∃ g, g = w.heap.size := ⟨_, rfl⟩
  generalize w.alloc (zeros 256) = W0 at *
  rw [← hg] at hm HZ HB ⊢
  clear hg
  go_enter Try.func22, Try.ntmps22
  go_wp2_with fail
  go_loopw [4] (fun i W => ∃ k : Nat, i = .int .i64 (k : Int) ∧ k ≤ 256 ∧ Aside0 (W.ownsRow g 5 1 (.slice (some ⟨g, 0, none⟩) 256 256) 256 (bytes (List.replicate k c ++ List.replicate (256 - k) 0))) ∧ Aside0 (Below g w W)) (fun i _ => 256 - (RowKit.intOf i).toNat)
  case atStart => exact ⟨0, rfl, by omega, by simpa using HZ, HB⟩
  case round =>
    clear HZ HB
    obtain ⟨k, rfl, hk, HO, HB⟩ := hrel
    by_cases hlt : k < 256
    · have t1 : decide ((k : Int) < 256) = true := decide_eq_true (by omega)
      have t2 : (0 : Int) ≤ (k : Int) := by omega
      have t3 : (k : Int) < 256 := by omega
      obtain ⟨r1, r2, r3, r4⟩ := row_set HO.out hlt (.int .u8 c)
      have e : (bytes (List.replicate k c ++ List.replicate (256 - k) 0)).set k (.int .u8 c) = bytes (List.replicate (k + 1) c ++ List.replicate (256 - (k + 1)) 0) := by
        have e1 : List.replicate (256 - k) (0 : Int) = 0 :: List.replicate (256 - (k + 1)) 0 := by rw [show 256 - k = (256 - (k + 1)) + 1 by omega, List.replicate_succ]
        have e2 : List.replicate (k + 1) c = List.replicate k c ++ [c] := List.replicate_succ'
        rw [e1, e2]
        simp only [bytes, List.map_append, List.map_cons, List.map_replicate]
        rw [List.set_append_right _ _ (by simp)]
        simp
      rw [e] at r1
      have hc : wr.cell? ⟨g, k, none⟩ = some (.int .u8 0) := by
        rw [r4]
        simp only [bytes, List.map_append, List.map_replicate]
        rw [List.getElem?_append_right (by simp), List.length_replicate, Nat.sub_self, List.getElem?_replicate, if_pos (by omega)]
      have R1 := Aside0.mk r1
      have B1 := Aside0.mk (HB.out.grown r2 (Nat.le_of_lt (HO.out.lt g rfl).2) (by intro k hk; cases hk; exact Nat.le_refl _))
      clear r1 r2 r4 e HO
      go_wp2
      go_roundw
      case rel => exact ⟨k + 1, by go_num, by omega, R1, B1⟩
      case measure => simp only [RowKit.intOf]; omega
    · have hk2 : k = 256 := by omega
      subst hk2
      have t1 : decide (((256 : Nat) : Int) < 256) = false := by decide
      go_wp2
      go_ret
      refine ⟨_, rfl, ?_, HB.out⟩
      have := HO.out
      rwa [Nat.sub_self, List.replicate_zero, List.append_nil] at this
/-- SameBytes. -/
theorem Rd.at_ {w : World} {A : Option Addr} {l : List Int} (h : Rd w A l) {j : Nat} (hj : j < l.length) : ∃ ad, A = some ad ∧ w.cell? (ad.add j) = some (.int .u8 (l.getD j 0)) := by
  obtain ⟨ad, e, hc⟩ := h.2.2 (by omega)
  obtain ⟨c, hs, hr, hcell⟩ := hc j _ (List.getElem?_eq_getElem hj)
  have hr : c = [.int .u8 l[j]] := hr
  subst hr
  refine ⟨ad, e, ?_⟩
  have := hcell 0 _ rfl
  rw [List.getD_eq_getElem?_getD, List.getElem?_eq_getElem hj]
  simpa [Kd.int, Kd.scalar] using this
theorem eq_of_take {l1 l2 : List Int} (hl : l1.length = l2.length) (h : ∀ j, j < l1.length → l1.getD j 0 = l2.getD j 0) : l1 = l2 := by
  refine List.ext_getElem hl fun j h1 h2 => ?_
  have := h j h1
  rwa [List.getD_eq_getElem?_getD, List.getD_eq_getElem?_getD, List.getElem?_eq_getElem h1, List.getElem?_eq_getElem h2] at this
set_option maxHeartbeats 2000000 in
theorem same_calls {w : World} {A1 A2 : Option Addr} {c1 c2 : Nat} {l1 l2 : List Int} (h1 : Rd w A1 l1) (h2 : Rd w A2 l2) : Calls Try.prog 15 #[.slice A1 l1.length c1, .slice A2 l2.length c2] w fun e w' => e = .returned (.bool (decide (l1 = l2))) ∧ Below w.heap.size w w' := by
  have hL1 : l1.length ≤ 9223372036854775807 := h1.2.1
  by_cases hl : l1.length = l2.length
  · obtain ⟨n, hn⟩ : ∃ n, n = l1.length := ⟨_, rfl⟩
    have hb : ((n : Int) != (n : Int)) = false := by simp
    have H1 := Aside0.mk h1
    have H2 := Aside0.mk h2
    have HN := Aside0.mk hn
    have HL := Aside0.mk hl
    rw [← hl, ← hn]
    rw [← hn] at hL1
    have HB := Aside0.mk (Below.refl w.heap.size w)
    clear h1 h2 hl hn
    go_enter Try.func15, Try.ntmps15
    go_wp2_with fail
    go_loopw [5] (fun i W => ∃ k : Nat, i = .int .i64 (k : Int) ∧ k ≤ n ∧ (∀ j, j < k → l1.getD j 0 = l2.getD j 0) ∧ Aside0 (Below w.heap.size w W)) (fun i _ => n - (RowKit.intOf i).toNat)
    case atStart => exact ⟨0, rfl, Nat.zero_le _, fun j hj => absurd hj (by omega), HB⟩
    case round =>
      clear HB
      obtain ⟨k, rfl, hk, hF, HB⟩ := hrel
      by_cases hlt : k < n
      · have t1 : decide ((k : Int) < (n : Int)) = true := decide_eq_true (by omega)
        have t2 : (0 : Int) ≤ (k : Int) := by omega
        have t3 : (k : Int) < (n : Int) := by omega
        have e1 := HN.out
        have e2 := HL.out
        obtain ⟨a1, rfl, hc1⟩ := Rd.at_ (H1.out.below HB.out) (j := k) (by omega)
        obtain ⟨a2, rfl, hc2⟩ := Rd.at_ (H2.out.below HB.out) (j := k) (by omega)
        have HF := Aside0.mk hF
        have HB2 := Aside0.mk HB.out.drew
        generalize hx : l1.getD k 0 = x at hc1
        generalize hy : l2.getD k 0 = y at hc2
        have HX := Aside0.mk hx
        have HY := Aside0.mk hy
        clear e1 e2 hF hx hy
        by_cases hxy : x = y
        · subst hxy
          have bx : (x != x) = false := by simp
          go_wp2_with fail
          go_region_held3 (fun W => W.cell? (a1.add k) = some (.int .u8 x) ∧ W.cell? (a2.add k) = some (.int .u8 x)) (go_keep) (fail)
          go_wp2
          go_roundw
          case rel => exact ⟨k + 1, by go_num, by omega, fun j hj => by
            by_cases e : j = k
            · subst e; rw [HX.out, HY.out]
            · exact HF.out j (by omega), HB2⟩
          case measure => simp only [RowKit.intOf]; omega
        · have bx : (x != y) = true := by simpa using hxy
          have hd : decide (l1 = l2) = false := decide_eq_false fun e => hxy (by rw [← HX.out, ← HY.out, e])
          have HD := Aside0.mk hd
          clear hd
          go_wp2_with fail
          go_region_held3 (fun W => W.cell? (a1.add k) = some (.int .u8 x) ∧ W.cell? (a2.add k) = some (.int .u8 y)) (go_keep) (fail)
          go_wp2
          go_ret
          exact ⟨by rw [HD.out]; rfl, HB2.out⟩
      · have hk2 : k = n := by omega
        have t1 : decide ((k : Int) < (n : Int)) = false := decide_eq_false (by omega)
        have hd : decide (l1 = l2) = true := decide_eq_true (eq_of_take HL.out fun j hj => hF j (by rw [hk2, HN.out]; exact hj))
        have HD := Aside0.mk hd
        clear hF hd
        go_wp2
        go_ret
        exact ⟨by rw [HD.out]; rfl, HB.out⟩
  · have e : decide (l1 = l2) = false := decide_eq_false fun e => hl (by rw [e])
    have hb : (((l1.length : Nat) : Int) != ((l2.length : Nat) : Int)) = true := by simpa using (by omega : ((l1.length : Nat) : Int) ≠ ((l2.length : Nat) : Int))
    rw [e]
    clear h1 h2
    go_enter Try.func15, Try.ntmps15
    go_wp2
    go_ret
    exact ⟨rfl, Below.refl _ _⟩
end Go.Proofs.Ytoojcgmdcbcenaa
