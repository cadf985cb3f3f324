/- Texts of this claim, one behind the other: HAgainst. -/
import Derived.WalkKit
import Derived.Outline
import Derived.Deep.QuietTactic
import Derived.BigQuiet
import Derived.WalkSpells
import Derived.Deep.DeepFit
import Derived.Lib.Hide
import Derived.Lib.QuietBelow
import Derived.Shelf.RegionOpen
import Derived.RegionTactic
import Derived.ChangeAlike
import Derived.Test.YtbikimkmkchkhaaGreatDoorMA1
import Derived.Test.YtbikimkmkchkhaaGreatDoorMA3
import Derived.Test.YtbikimkmkchkhaaGreatDoorMA2
section
/- (ranked).part and (ranked).against: the order of versions. -/
namespace Go.Proofs.YtbikimkmkchkhaaGreatDoor.PAll
open Go.RowKit Go.Lib Go.Proofs.YtbikimkmkchkhaaGreatDoorW.PrintWords Go.Proofs.YtbikimkmkchkhaaGreatDoorW.PrintLast Go.Proofs.YtbikimkmkchkhaaGreatDoorW.PrintMore
attribute [local go_sem] Oper.semAt_some
set_option linter.unusedVariables false
set_option linter.unusedSimpArgs false

theorem rd_far {l : List Int} {k : Nat} (h : l.length ≤ k) : rd l (k : Int) = 0 := by
  unfold rd; rw [List.getD_eq_getElem?_getD, Int.toNat_natCast, List.getElem?_eq_none h]; rfl
set_option maxHeartbeats 2000000 in
theorem part_calls (A : Option Addr) (c : Nat) (l : List Int) (t : ByteArray) (k : Nat) (w : World) (hC : Kd.C (Kd.int .i64) w A l.length l) (hk : k ≤ 9223372036854775807) :
    Calls Tryz.prog 78 #[.agg #[.slice A l.length c, .string t], .int .i64 (k : Int)] w fun e w' => e = .returned (.int .i64 (rd l (k : Int))) ∧ Below w.heap.size w w' := by
  have hB := (Below.refl w.heap.size w).alloc (Nat.le_refl _) (.cells #[.slice A l.length c, .string t] 82)
  by_cases hlt : k < l.length
  · obtain ⟨ad, rfl, hcell⟩ := Kd.at_int hC (k : Int) (by omega) (by omega)
    rw [Int.toNat_natCast] at hcell
    have hcell' := (hB.cell (World.block_lt_of_cell? w _ hcell)).trans hcell
    go_enter Tryz.func78, Tryz.ntmps78
    go_wp2
    go_ret
    exact ⟨rfl, hB⟩
  · rw [rd_far (by omega)]
    go_enter Tryz.func78, Tryz.ntmps78
    go_wp2
    go_ret
    exact ⟨rfl, hB⟩
theorem ret_int {a b : Int} (h : a = b) : Ending.returned (.int .i64 a) = .returned (.int .i64 b) := by rw [h]
def cmpI (a b : Int) : Int := if a < b then -1 else if a > b then 1 else 0
theorem cmpI_f (a b : Int) : cmp_Compare_int.f a b = some (cmpI a b) := by
  unfold cmp_Compare_int.f cmp_isNaN_int.f cmpI
  simp only [Option.bind_some, bne_self_eq_false, Bool.false_eq_true, if_false]
  by_cases h : a < b
  · rw [if_pos h, if_pos h]
  · rw [if_neg h, if_neg h]
    by_cases h2 : a > b
    · rw [if_pos h2, if_pos h2]
    · rw [if_neg h2, if_neg h2]
/-- The first part that differs, from place i on. -/
def firstDiff (p q : List Int) : Nat → Nat → Int
  | 0, _ => 0
  | n + 1, i => if cmpI (rd p (i : Int)) (rd q (i : Int)) = 0 then firstDiff p q n (i + 1) else cmpI (rd p (i : Int)) (rd q (i : Int))
def cmpT (t u : ByteArray) : Int := if t.toList = u.toList then 0 else if t.toList = [] then 1 else if u.toList = [] then -1 else if Op.bytesLess t.toList u.toList = true then -1 else 1
def cmpV (p : List Int) (t : ByteArray) (q : List Int) (u : ByteArray) : Int := if firstDiff p q (max p.length q.length) 0 = 0 then cmpT t u else firstDiff p q (max p.length q.length) 0

def cmpS (t u : ByteArray) : Int := if Op.bytesLess t.toList u.toList = true then -1 else if Op.bytesLess u.toList t.toList = true then 1 else 0
theorem cmpS_f (t u : ByteArray) : cmp_Compare_string.f t u = some (cmpS t u) := by
  unfold cmp_Compare_string.f cmp_isNaN_string.f cmpS
  simp only [Option.bind_some, bne_self_eq_false, Bool.false_eq_true, if_false]
  by_cases h : Op.bytesLess t.toList u.toList = true
  · rw [if_pos h, if_pos h]
  · rw [if_neg h, if_neg h]
    by_cases h2 : Op.bytesLess u.toList t.toList = true
    · rw [if_pos h2, if_pos h2]
    · rw [if_neg h2, if_neg h2]
theorem less_irr (l : List UInt8) : ¬ Op.bytesLess l l = true := by rw [YtbikimkmkchkhaaGreatDoor.less_iff]; simp [List.lt_irrefl]
theorem less_tri {a b : List UInt8} (h1 : ¬ Op.bytesLess a b = true) (h2 : ¬ Op.bytesLess b a = true) : a = b := by
  rw [YtbikimkmkchkhaaGreatDoor.less_iff, decide_eq_true_eq] at h1 h2
  rcases List.le_iff_lt_or_eq.1 (List.not_lt.1 h1) with h | h
  · exact absurd h h2
  · exact h.symm
theorem cmpT_S {t u : ByteArray} (h : t.toList = [] ↔ u.toList = []) : cmpT t u = cmpS t u := by
  unfold cmpT cmpS
  by_cases e : t.toList = u.toList
  · rw [if_pos e, e, if_neg (less_irr _), if_neg (less_irr _)]
  · rw [if_neg e, if_neg (fun h1 => e (h1.trans (h.1 h1).symm)), if_neg (fun h1 => e ((h.2 h1).trans h1.symm))]
    by_cases hl : Op.bytesLess t.toList u.toList = true
    · rw [if_pos hl, if_pos hl]
    · rw [if_neg hl, if_neg hl]
      by_cases h2 : Op.bytesLess u.toList t.toList = true
      · rw [if_pos h2]
      · exact absurd (less_tri hl h2) e
theorem size_pos {t : ByteArray} (h : ¬ t.toList = []) : 0 < t.size := by
  have e : t.toList.length = t.size := by rw [ByteArray.toList_eq]; exact Array.length_toList
  rcases Nat.eq_zero_or_pos t.size with h0 | h0
  · exact absurd (List.length_eq_zero_iff.1 (e.trans h0)) h
  · exact h0
theorem empty_of {t : ByteArray} (h : t.toList = []) : t = ⟨#[]⟩ := by
  have e : t.toList.length = t.size := by rw [ByteArray.toList_eq]; exact Array.length_toList
  rw [h] at e
  cases t with
  | mk d => congr 1; exact Array.eq_empty_of_size_eq_zero e.symm

set_option maxHeartbeats 4000000 in
theorem against_calls (A : Option Addr) (c : Nat) (p : List Int) (t : ByteArray) (B : Option Addr) (d : Nat) (q : List Int) (u : ByteArray) (w : World) (hC : Kd.C (Kd.int .i64) w A p.length p) (hD : Kd.C (Kd.int .i64) w B q.length q)
    (hp : p.length ≤ 140737488355328) (hq : q.length ≤ 140737488355328) (ht : t.size ≤ 9223372036854775807) (hu : u.size ≤ 9223372036854775807) :
    Calls Tryz.prog 58 #[.agg #[.slice A p.length c, .string t], .agg #[.slice B q.length d, .string u]] w fun e w' => e = .returned (.int .i64 (cmpV p t q u)) ∧ Below w.heap.size w w' := by
  have hB0 := ((Below.refl w.heap.size w).alloc (Nat.le_refl _) (.cells #[.slice A p.length c, .string t] 82)).alloc (by simp) (.cells #[.slice B q.length d, .string u] 82)
  go_enter Tryz.func58, Tryz.ntmps58
  go_wp2
  go_region
  all_goals
    go_wp2
    have hB1 := hB0.drew
    have x0 : (((w.alloc (.cells #[.slice A p.length c, .string t] 82)).alloc (.cells #[.slice B q.length d, .string u] 82)).drew).cell? ⟨w.heap.size, 0, none⟩ = some (.slice A p.length c) := by go_simp
    have x1 : (((w.alloc (.cells #[.slice A p.length c, .string t] 82)).alloc (.cells #[.slice B q.length d, .string u] 82)).drew).cell? ⟨w.heap.size, 1, none⟩ = some (.string t) := by go_simp
    have y0 : (((w.alloc (.cells #[.slice A p.length c, .string t] 82)).alloc (.cells #[.slice B q.length d, .string u] 82)).drew).cell? ⟨w.heap.size + 1, 0, none⟩ = some (.slice B q.length d) := by go_simp
    have y1 : (((w.alloc (.cells #[.slice A p.length c, .string t] 82)).alloc (.cells #[.slice B q.length d, .string u] 82)).drew).cell? ⟨w.heap.size + 1, 1, none⟩ = some (.string u) := by go_simp
    have hs1 : (((w.alloc (.cells #[.slice A p.length c, .string t] 82)).alloc (.cells #[.slice B q.length d, .string u] 82)).drew).heap.size = w.heap.size + 2 := by simp
    generalize ((w.alloc (.cells #[.slice A p.length c, .string t] 82)).alloc (.cells #[.slice B q.length d, .string u] 82)).drew = W1 at *
    clear hB0
    have X0 := Aside0.mk x0; have X1 := Aside0.mk x1; have Y0 := Aside0.mk y0; have Y1 := Aside0.mk y1; have HS := Aside0.mk hs1; have HB := Aside0.mk hB1; have HC := Aside0.mk hC; have HD := Aside0.mk hD
    clear x0 x1 y0 y1 hs1 hB1 hC hD
    obtain ⟨m, hm⟩ : ∃ m : Nat, max p.length q.length = m := ⟨_, rfl⟩
    have hmi : max (p.length : Int) (q.length : Int) = (m : Int) := by omega
    have hm1 : m ≤ 140737488355328 := by omega
    rw [hmi]
    have HM := Aside0.mk hm
    clear hm hmi
    go_loopw [20] (fun v W => ∃ k : Nat, v = .int .i64 (k : Int) ∧ k ≤ m ∧ Aside0 (firstDiff p q (m - k) k = firstDiff p q m 0) ∧ Aside0 (Below W1.heap.size W1 W)) (fun v _ => m - (RowKit.intOf v).toNat)
    case atStart => exact ⟨0, rfl, Nat.zero_le _, ⟨by rw [Nat.sub_zero]⟩, ⟨Below.refl _ _⟩⟩
    case round =>
      obtain ⟨k, rfl, hk, HF, HW⟩ := hrel
      have HBW := HB.out.trans (HW.out.mono (by have := HS.out; omega))
      have CW := Kd.C_below HC.out HBW
      have DW := Kd.C_below HD.out HBW
      have c0 : wr.cell? ⟨w.heap.size, 0, none⟩ = some (.slice A p.length c) := (HW.out.cell (World.block_lt_of_cell? _ _ X0.out)).trans X0.out
      have c1 : wr.cell? ⟨w.heap.size, 1, none⟩ = some (.string t) := (HW.out.cell (World.block_lt_of_cell? _ _ X1.out)).trans X1.out
      have d0 : wr.cell? ⟨w.heap.size + 1, 0, none⟩ = some (.slice B q.length d) := (HW.out.cell (World.block_lt_of_cell? _ _ Y0.out)).trans Y0.out
      have d1 : wr.cell? ⟨w.heap.size + 1, 1, none⟩ = some (.string u) := (HW.out.cell (World.block_lt_of_cell? _ _ Y1.out)).trans Y1.out
      have HBW' := Aside0.mk HBW
      have CW' := Aside0.mk CW
      have DW' := Aside0.mk DW
      clear HBW CW DW
      by_cases hlt : k < m
      · have b1 : decide ((k : Int) < (m : Int)) = true := decide_eq_true (by omega)
        by_cases hz : cmpI (rd p (k : Int)) (rd q (k : Int)) = 0
        · have b2 : (cmpI (rd p (k : Int)) (rd q (k : Int)) != 0) = false := by simp [hz]
          have HF' : Aside0 (firstDiff p q (m - (k + 1)) (k + 1) = firstDiff p q m 0) := ⟨by
            rw [← HF.out, show m - k = (m - (k + 1)) + 1 by omega, firstDiff, if_pos hz]⟩
          clear hz
          go_wp2_with fail
          refine (part_calls A c p t k _ CW'.out (by omega)).mono ?_
          rintro e w1 ⟨rfl, hb1⟩
          have H1 := Aside0.mk hb1
          clear hb1
          go_wp2_with fail
          refine (part_calls B d q u k _ (Kd.C_below DW'.out H1.out) (by omega)).mono ?_
          rintro e w2 ⟨rfl, hb2⟩
          have H2 := Aside0.mk hb2
          clear hb2
          go_wp2_with fail
          refine (cmp_Compare_int.calls _ _ _ _ (cmpI_f _ _)).mono ?_
          rintro e w3 ⟨rfl, hd3⟩
          obtain ⟨n3, rfl⟩ := hd3
          go_wp2
          go_roundw
          case rel => exact ⟨k + 1, by go_num, by omega, HF', ⟨pw_below_drewN (HW.out.trans ((H1.out.mono HW.out.size).trans (H2.out.mono (Nat.le_trans HW.out.size H1.out.size)))) _⟩⟩
          case measure => simp [RowKit.intOf]; omega
        · have b2 : (cmpI (rd p (k : Int)) (rd q (k : Int)) != 0) = true := by simp [hz]
          have HV : Aside0 (cmpV p t q u = cmpI (rd p (k : Int)) (rd q (k : Int))) := ⟨by
            have e : firstDiff p q m 0 = cmpI (rd p (k : Int)) (rd q (k : Int)) := by
              rw [← HF.out, show m - k = (m - k - 1) + 1 by omega, firstDiff, if_neg hz]
            unfold cmpV
            rw [HM.out, e, if_neg hz]⟩
          clear hz
          go_wp2_with fail
          refine (part_calls A c p t k _ CW'.out (by omega)).mono ?_
          rintro e w1 ⟨rfl, hb1⟩
          have H1 := Aside0.mk hb1
          clear hb1
          go_wp2_with fail
          refine (part_calls B d q u k _ (Kd.C_below DW'.out H1.out) (by omega)).mono ?_
          rintro e w2 ⟨rfl, hb2⟩
          have H2 := Aside0.mk hb2
          clear hb2
          go_wp2_with fail
          refine (cmp_Compare_int.calls _ _ _ _ (cmpI_f _ _)).mono ?_
          rintro e w3 ⟨rfl, hd3⟩
          obtain ⟨n3, rfl⟩ := hd3
          go_wp2
          go_ret
          exact ⟨ret_int (HV.out).symm, pw_below_drewN (HBW'.out.trans ((H1.out.mono (by have := HBW'.out.size; omega)).trans (H2.out.mono (by have := HBW'.out.size; have := H1.out.size; omega)))) _⟩
      · have b1 : decide ((k : Int) < (m : Int)) = false := decide_eq_false (by omega)
        have HV : Aside0 (cmpV p t q u = cmpT t u) := ⟨by
          have e : firstDiff p q m 0 = 0 := by rw [← HF.out, show m - k = 0 by omega]; rfl
          unfold cmpV
          rw [HM.out, e, if_pos rfl]⟩
        by_cases ht0 : t.toList = []
        · obtain rfl := empty_of ht0
          by_cases hu0 : u.toList = []
          · obtain rfl := empty_of hu0
            clear ht0 hu0
            go_wp2_with fail
            refine (cmp_Compare_string.calls _ _ _ _ (cmpS_f _ _)).mono ?_
            rintro e w1 ⟨rfl, hd1⟩
            obtain ⟨n1, rfl⟩ := hd1
            go_wp2
            go_ret
            exact ⟨ret_int (HV.out.trans (cmpT_S Iff.rfl)).symm, pw_below_drewN HBW'.out _⟩
          · have hs := size_pos hu0
            have e1 : u.toList.isEmpty = false := by simpa using hu0
            have HX : Aside0 (cmpV p ⟨#[]⟩ q u = cmpI (u.size : Int) 0) := ⟨by
              rw [HV.out]
              unfold cmpT cmpI
              rw [if_neg (fun h => hu0 (h.symm.trans ht0)), if_pos ht0, if_neg (by omega), if_pos (by omega)]⟩
            go_wp2_with fail
            refine (cmp_Compare_int.calls _ _ _ _ (cmpI_f _ _)).mono ?_
            rintro e w1 ⟨rfl, hd1⟩
            obtain ⟨n1, rfl⟩ := hd1
            go_wp2
            go_ret
            exact ⟨ret_int (HX.out).symm, pw_below_drewN HBW'.out _⟩
        · have hs := size_pos ht0
          have e1 : t.toList.isEmpty = false := by simpa using ht0
          by_cases hu0 : u.toList = []
          · obtain rfl := empty_of hu0
            have HX : Aside0 (cmpV p t q ⟨#[]⟩ = cmpI 0 (t.size : Int)) := ⟨by
              rw [HV.out]
              unfold cmpT cmpI
              rw [if_neg (fun h => ht0 (h.trans hu0)), if_neg ht0, if_pos hu0, if_pos (by omega)]⟩
            go_wp2_with fail
            refine (cmp_Compare_int.calls _ _ _ _ (cmpI_f _ _)).mono ?_
            rintro e w1 ⟨rfl, hd1⟩
            obtain ⟨n1, rfl⟩ := hd1
            go_wp2
            go_ret
            exact ⟨ret_int (HX.out).symm, pw_below_drewN HBW'.out _⟩
          · have hs2 := size_pos hu0
            have e2 : u.toList.isEmpty = false := by simpa using hu0
            go_wp2_with fail
            refine (cmp_Compare_string.calls _ _ _ _ (cmpS_f _ _)).mono ?_
            rintro e w1 ⟨rfl, hd1⟩
            obtain ⟨n1, rfl⟩ := hd1
            go_wp2
            go_ret
            exact ⟨ret_int (HV.out.trans (cmpT_S ⟨fun h => absurd h ht0, fun h => absurd h hu0⟩)).symm, pw_below_drewN HBW'.out _⟩
def fits (p : List Int) (t : ByteArray) (q : List Int) (u : ByteArray) : Bool := decide (p.length ≤ 140737488355328) && decide (q.length ≤ 140737488355328) && decide (t.size ≤ 9223372036854775807) && decide (u.size ≤ 9223372036854775807)
def version_ranked_against.f (l0_0 : List Int) (a0_1 : ByteArray) (l1_0 : List Int) (a1_1 : ByteArray) : Option Int := if fits l0_0 a0_1 l1_0 a1_1 then some (cmpV l0_0 a0_1 l1_0 a1_1) else none
theorem version_ranked_against.calls (A0_0 : Option Addr) (c0_0 : Nat) (l0_0 : List Int) (a0_1 : ByteArray) (A1_0 : Option Addr) (c1_0 : Nat) (l1_0 : List Int) (a1_1 : ByteArray) (r : Int) (w : World) (hr0_0 : Kd.C (Kd.int .i64) w A0_0 l0_0.length l0_0) (hc0_0 : l0_0.length ≤ c0_0) (hr1_0 : Kd.C (Kd.int .i64) w A1_0 l1_0.length l1_0) (hc1_0 : l1_0.length ≤ c1_0) (h : version_ranked_against.f l0_0 a0_1 l1_0 a1_1 = some r) :
    Calls Tryz.prog 58 #[.agg #[.slice A0_0 l0_0.length c0_0, .string a0_1], .agg #[.slice A1_0 l1_0.length c1_0, .string a1_1]] w fun e w' => e = .returned (.int .i64 r) ∧ Below w.heap.size w w' := by
  unfold version_ranked_against.f at h
  split at h
  case isFalse => cases h
  rename_i hf
  obtain rfl := Option.some.inj h
  unfold fits at hf
  simp only [Bool.and_eq_true, decide_eq_true_eq] at hf
  exact against_calls _ _ _ _ _ _ _ _ w hr0_0 hr1_0 hf.1.1.1 hf.1.1.2 hf.1.2 hf.2
end Go.Proofs.YtbikimkmkchkhaaGreatDoor.PAll
end
