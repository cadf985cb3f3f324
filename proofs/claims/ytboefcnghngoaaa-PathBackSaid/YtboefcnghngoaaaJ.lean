/- The law PathBack. -/
import Derived.RangeFuncNested
import Derived.RangeFuncBound
import Derived.RangeFuncCalls
import Derived.RangeFuncLeaves
import Derived.RangeFuncBox
import Derived.Shelf.Abstract
import Derived.Shelf.RegionOpen
import Derived.WalkKit
import Derived.OwnWalkIn
import Derived.TacticsInMore
import Derived.LoopNIn
import Derived.LoopIn
import Derived.Lib.QuietBelow
import Derived.Maps.AppendAt
import Derived.Test.YtboefcnghngoaaaPart
import Derived.Outline
import Derived.Deep.QuietTactic
import Derived.BigQuiet
import Derived.WalkSpells
import Derived.Deep.DeepFit
import Derived.Lib.Hide
import Derived.Lib.IndexBytes
import Derived.Test.YtboefcnghngoaaaShelf
import Derived.Test.YtboefcnghngoaaaSpec
import Derived.Test.YtboefcnghngoaaaI
import Derived.Deep.RegionHeld3
namespace Go.Proofs.Ytboefcnghngoaaa
open Go.RowKit Go.Shelf Go.Lib Sp Go.Proofs.YtboefcnghngoaaaW.PrintWords
attribute [local go_sem] Oper.semAt_some

theorem cell_below {w w1 : World} (h : Below w.heap.size w w1) {a : Addr} {v : Value} (hc : w.cell? a = some v) : w1.cell? a = some v := (h.cell (World.block_lt_of_cell? w a hc)).trans hc

theorem add0 (g j : Nat) : (⟨g, 0, none⟩ : Addr).add j = ⟨g, j, none⟩ := by unfold Addr.add; split <;> simp_all

set_option maxRecDepth 100000 in
set_option maxHeartbeats 4000000 in
theorem back_calls (s : ByteArray) (hs : s.size ≤ 140737488351232) (w : World) : Calls Try.prog 9 #[.string s] w fun e w' => e = .returned (.bool true) ∧ Below w.heap.size w w' := by
  have HB : Below w.heap.size w w := Below.refl _ _
  have hw := fun W => works_calls W
  have hsz := Lib.size_eq s
  have hCk : ∀ W, Calls Try.prog 12 #[.string s] W fun e w' => e = .returned (.int .i64 (if isPath s.data.toList then 0 else 140)) ∧ Below W.heap.size W w' := fun W => check_calls s (by omega) W
  cases hp : isPath s.data.toList with
  | false =>
    simp only [hp] at hCk
    clear hp hsz
    go_enter Try.func9, Try.ntmps9
    go_wp2_with fail
    refine (hw _).mono ?_; rintro e w1 ⟨rfl, hb⟩; replace HB := bl_trans HB hb; clear hb
    go_wp2_with fail
    refine (hCk _).mono ?_; rintro e w2 ⟨rfl, hb⟩; replace HB := bl_trans HB hb; clear hb
    go_wp2
    go_ret
    exact ⟨rfl, HB⟩
  | true =>
  simp only [hp, if_true] at hCk
  by_cases h0 : s.data.toList = []
  · have b0 : s.toList.isEmpty = true := by rw [toList_data, h0]; rfl
    clear hp hsz h0
    go_enter Try.func9, Try.ntmps9
    go_wp2_with fail
    refine (hw _).mono ?_; rintro e w1 ⟨rfl, hb⟩; replace HB := bl_trans HB hb; clear hb
    go_wp2_with fail
    refine (hCk _).mono ?_; rintro e w2 ⟨rfl, hb⟩; replace HB := bl_trans HB hb; clear hb
    go_wp2
    go_ret
    exact ⟨rfl, HB⟩
  have b0 : s.toList.isEmpty = false := by rw [toList_data]; cases h : s.data.toList with | nil => exact absurd h h0 | cons => rfl
  obtain ⟨F1, F2, F3, F4⟩ := back_facts s h0 hp
  have hlen : s.size ≤ 200 := by rw [hsz]; exact ((isPath_iff h0).1 hp).1
  obtain ⟨m, hm⟩ : ∃ m, (texts s.data.toList).length = m + 1 := ⟨(texts s.data.toList).length - 1, by have := List.length_pos_iff.2 (texts_ne s.data.toList); omega⟩
  have hm200 : m ≤ 200 := by have h1 := length_wt (texts s.data.toList); rw [wt_texts] at h1; omega
  rw [hm] at F1 F2 F3
  obtain ⟨P, hP⟩ : ∃ P : Nat → ByteArray, P = upAt s := ⟨_, rfl⟩
  have cK : ∀ j, j ≤ m → ∀ W, Calls Try.prog 12 #[.string (P j)] W fun e w' => e = .returned (.int .i64 0) ∧ Below W.heap.size W w' := fun j hj W => by
    have := check_calls (P j) (by rw [hP]; have := (F1 j (by omega)).2.1; omega) W
    rwa [if_pos (by rw [hP]; exact (F1 j (by omega)).1)] at this
  have cU : ∀ j, j ≤ m → ∀ W, Calls Try.prog 17 #[.string s, .string (P j)] W fun e w' => e = .returned (.bool true) ∧ Below W.heap.size W w' := fun j hj W => under_at s (P j) true (by rw [hP]; exact (F1 j (by omega)).2.2) W
  have cP : ∀ j, j + 1 ≤ m → ∀ W, Calls Try.prog 18 #[.string (P (j + 1))] W fun e w' => e = .returned (.string (P j)) ∧ Below W.heap.size W w' := fun j hj W => by
    obtain ⟨k, hk⟩ := Ev.rounds (parent_f (P (j + 1)) (by rw [hP]; have := (F1 (j + 1) (by omega)).2.1; omega))
    have e : bs (parentL (P (j + 1)).data.toList) = P j := by rw [hP, F2 j (by omega)]; rfl
    rw [e] at hk
    exact PAll.path_Parent.calls k _ _ W hk
  obtain ⟨pa, hpa⟩ : ∃ pa, pa = bs (parentL s.data.toList) := ⟨_, rfl⟩
  obtain ⟨ba, hba⟩ : ∃ ba, ba = bs (baseL s.data.toList) := ⟨_, rfl⟩
  have d1 : ∀ W, Calls Try.prog 18 #[.string s] W fun e w' => e = .returned (.string pa) ∧ Below W.heap.size W w' := fun W => by
    obtain ⟨k, hk⟩ := Ev.rounds (parent_f s (by omega))
    rw [← hpa] at hk
    exact PAll.path_Parent.calls k _ _ W hk
  have d2 : ∀ W, Calls Try.prog 20 #[.string s] W fun e w' => e = .returned (.string ba) ∧ Below W.heap.size W w' := fun W => by
    obtain ⟨k, hk⟩ := Ev.rounds (base_f s (by omega))
    rw [← hba] at hk
    exact (PAll.path_Base.calls k _ _ W hk).mono fun e w' ⟨a, b⟩ => ⟨a, b.below⟩
  have d3 : ∀ W, Calls Try.prog 22 #[.string pa, .string ba] W fun e w' => e = .returned (.string s) ∧ Below W.heap.size W w' := fun W => by
    have h1 := pjoin_f pa ba (by
      rw [hpa, hba, bs_size, bs_size, parentL, baseL, List.length_take, List.length_drop]; omega)
    have e : bs (joinL pa.data.toList ba.data.toList) = s := by rw [hpa, hba]; show bs (joinL (parentL _) (baseL _)) = s; rw [F4]; rfl
    rw [e] at h1
    exact (PAll.path_Join.calls _ _ _ W h1).mono fun e w' ⟨a, b⟩ => ⟨a, b.below⟩
  have hA := fun W => all_calls s (by omega) b0 W
  have hPm : P m = s := by rw [hP]; exact F3
  have HPM := Lib.hid hPm
  have HPU := Lib.hid hP
  have HM := Lib.hid hm
  clear hP hm hp F1 F2 F3 F4 hpa hba h0 hPm
  go_enter Try.func9, Try.ntmps9
  go_wp2_with fail
  refine (hw _).mono ?_; rintro e w1 ⟨rfl, hb⟩; replace HB := bl_trans HB hb; clear hb
  go_wp2_with fail
  refine (hCk _).mono ?_; rintro e w2 ⟨rfl, hb⟩; replace HB := bl_trans HB hb; clear hb
  go_wp2_with fail
  refine (hA _).mono ?_; rintro e w3 ⟨v, ys, rfl, hys, hrow, hb⟩; replace HB := bl_trans HB hb; clear hb
  obtain ⟨hyl, hcs⟩ := back_cells s ys hys
  rw [HM.out] at hyl hcs
  rw [hyl] at hrow
  obtain ⟨g, cap, rfl⟩ := part_succ hrow
  have hcell : ∀ j, j ≤ m → w3.cell? ⟨g, j, none⟩ = some (.string (P j)) := by
    intro j hj
    rw [← add0 g j]
    refine hrow.cells (g := g) rfl j _ ?_
    rw [HPU.out]
    simp [strsOf, hcs j (by omega)]
  have hcm := hcell m (Nat.le_refl _)
  rw [HPM.out] at hcm
  have q1 : IntKind.i64.wrap (((m + 1 : Nat) : Int) - 1) = (m : Int) := by rw [IntWalk.i64_in _ (by omega)]; omega
  have hCE := Lib.hid hcell
  clear hcell hys hyl hcs hrow
  have b1 : decide ((m : Int) + 1 < 1) = false := decide_eq_false (by omega)
  go_wp2_with fail
  refine (d1 _).mono ?_; rintro e w4 ⟨rfl, hb⟩; replace HB := bl_trans HB hb; have HB4 : Below w3.heap.size w3 w4 := hb; clear hb
  go_wp2_with fail
  refine (d2 _).mono ?_; rintro e w5 ⟨rfl, hb⟩; replace HB := bl_trans HB hb; have HB5 : Below w3.heap.size w3 w5 := bl_trans HB4 hb; clear hb HB4
  go_wp2_with fail
  refine (d3 _).mono ?_; rintro e w6 ⟨rfl, hb⟩; replace HB := bl_trans HB hb; have HB6 : Below w3.heap.size w3 w6 := bl_trans HB5 hb; clear hb HB5
  go_wp2_with fail
  clear hw hCk d1 d2 d3 hA hcm
  go_loopw [4] (fun i W => ∃ k : Nat, i = .int .i64 (k : Int) ∧ k ≤ m + 1 ∧ Below w.heap.size w W ∧ Below w3.heap.size w3 W) (fun i _ => m + 1 - (intOf i).toNat)
  case atStart => exact ⟨0, rfl, by omega, HB, HB6⟩
  case round =>
    obtain ⟨k, rfl, hk, HBr, HBc⟩ := hrel
    clear HB HB6
    by_cases hlt : k < m + 1
    · have c1 := cell_below HBc (hCE.out k (by omega))
      have t1 : decide ((k : Int) < (m : Int) + 1) = true := decide_eq_true (by omega)
      have HD1 := below_drew HBc; have HD2 := below_drew HBr
      have hwk : wrap64 ((k : Int) + 1) = ((k + 1 : Nat) : Int) := by unfold wrap64; omega
      cases k with
      | zero =>
        have K0 := cK 0 (by omega)
        have U0 := cU 0 (by omega)
        have t2 : decide ((0 : Int) < ((0 : Nat) : Int)) = false := rfl
        have t3 : decide ((0 : Int) < (m : Int) + 1) = true := decide_eq_true (by omega)
        clear t1 hwk
        go_wp2_with fail
        have k0 := cell_regrown c1
        have r1 : ∀ d os, Calls Try.prog 12 #[.string (P 0)] (Sort.grow (redrawn wr d) os) fun e w'' => e = .returned (.int .i64 0) ∧ ∃ p : Regrown, w'' = Sort.grow (redrawn wr p.d) p.os := fun d os => Calls.regrown_of (K0 _)
        have r2 : ∀ d os, Calls Try.prog 17 #[.string s, .string (P 0)] (Sort.grow (redrawn wr d) os) fun e w'' => e = .returned (.bool true) ∧ ∃ p : Regrown, w'' = Sort.grow (redrawn wr p.d) p.os := fun d os => Calls.regrown_of (U0 _)
        refine wp_region_quiet_below (by kernel_rfl) (by kernel_rfl) ?_
        repeat (
          with_reducible refine wpQuiet_step ?_
          intro K hK
          go_simp
          first
            | (with_reducible refine hK _ ?_; clear hK K)
            | (apply Exists.intro
               refine ⟨fun _ => ?_, hK _ ?_⟩
               (first | with_reducible exact r1 _ _ | with_reducible exact r2 _ _)
               clear hK K))
        refine wpQuiet_nil ?_
        intro _ hw'
        obtain ⟨⟨dq, osq⟩, hw''⟩ := hw'
        subst hw''
        have hq := below_regrown wr dq osq
        go_wp2
        exact ⟨⟨1, rfl, by omega, bl_trans HBr hq, bl_trans HBc hq⟩, by simp [intOf]⟩
      | succ j =>
        have c2 := cell_below HBc (hCE.out j (by omega))
        have K0 := cK (j + 1) (by omega)
        have U0 := cU (j + 1) (by omega)
        have P0 := cP j (by omega)
        have t2 : decide ((0 : Int) < (((j + 1 : Nat)) : Int)) = true := decide_eq_true (by omega)
        have t4 : IntKind.i64.wrap (((j + 1 : Nat) : Int) - 1) = (j : Int) := by rw [IntWalk.i64_in _ (by omega)]; omega
        obtain ⟨q, hq⟩ : ∃ q : Nat, q = j + 1 := ⟨_, rfl⟩
        rw [← hq] at c1 K0 U0 P0 t1 t2 t4 hwk
        have l1 : (q : Int) < (m : Int) + 1 := by omega
        have l2 : (j : Int) < (m : Int) + 1 := by omega
        have l0 : 0 < q := by omega
        have HQ := Lib.hid hq
        rw [← hq]
        clear hq hlt hk
        go_wp2_with fail
        have k0 := cell_regrown c1
        have k1 := cell_regrown c2
        have r1 : ∀ d os, Calls Try.prog 12 #[.string (P q)] (Sort.grow (redrawn wr d) os) fun e w'' => e = .returned (.int .i64 0) ∧ ∃ p : Regrown, w'' = Sort.grow (redrawn wr p.d) p.os := fun d os => Calls.regrown_of (K0 _)
        have r2 : ∀ d os, Calls Try.prog 17 #[.string s, .string (P q)] (Sort.grow (redrawn wr d) os) fun e w'' => e = .returned (.bool true) ∧ ∃ p : Regrown, w'' = Sort.grow (redrawn wr p.d) p.os := fun d os => Calls.regrown_of (U0 _)
        have r3 : ∀ d os, Calls Try.prog 18 #[.string (P q)] (Sort.grow (redrawn wr d) os) fun e w'' => e = .returned (.string (P j)) ∧ ∃ p : Regrown, w'' = Sort.grow (redrawn wr p.d) p.os := fun d os => Calls.regrown_of (P0 _)
        refine wp_region_quiet_below (by kernel_rfl) (by kernel_rfl) ?_
        repeat (
          with_reducible refine wpQuiet_step ?_
          intro K hK
          go_simp
          first
            | (with_reducible refine hK _ ?_; clear hK K)
            | (apply Exists.intro
               refine ⟨fun _ => ?_, hK _ ?_⟩
               (first | with_reducible exact r1 _ _ | with_reducible exact r2 _ _ | with_reducible exact r3 _ _)
               clear hK K))
        refine wpQuiet_nil ?_
        intro _ hw'
        obtain ⟨⟨dq, osq⟩, hw''⟩ := hw'
        subst hw''
        have hq := below_regrown wr dq osq
        go_wp2
        exact ⟨⟨q + 1, rfl, by have := HQ.out; omega, bl_trans HBr hq, bl_trans HBc hq⟩, by simp [intOf]; have := HQ.out; omega⟩
    · have t1 : decide ((k : Int) < (m : Int) + 1) = false := decide_eq_false (by omega)
      go_wp2
      go_ret
      exact ⟨rfl, HBr⟩

#print axioms back_calls
end Go.Proofs.Ytboefcnghngoaaa
