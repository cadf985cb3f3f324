/- Texts of this claim, one behind the other: PAllx64. -/
import Derived.Test.YteblbggmchcijaaDoorMA1
section
-- Written by a tool of the kit (print.py) over the laws of this seat at once; Lean checks it.
namespace Go.Proofs.YteblbggmchcijaaDoor.PAll
open Go.RowKit Go.Proofs.YteblbggmchcijaaDoorW.PrintWords Go.Proofs.YteblbggmchcijaaDoorW.PrintLast Go.Proofs.YteblbggmchcijaaDoorW.PrintMore
attribute [local go_sem] max2_int min2_int max_two min_two max_three min_three max_four min_four   -- for this text's walks alone
set_option linter.unusedVariables false
set_option linter.unusedSimpArgs false

theorem R_len {w : World} {base n c : Nat} {P : Nat → Prop} {A : Option Addr} {xs : List Int} (h : Kd.R (Kd.int .u8) 5 w base P (.slice A n c) xs) : n = xs.length := by
  rcases (Kd.own_of_R h).2 with ⟨h, h2⟩ | ⟨g, cap, cur, h, _⟩
  · injection h with _ h3 _; omega
  · injection h with _ h3 _
/-! ### sutlerref13_Print: function 21 -/
def sutlerref13_Print.j0 : Nat → ByteArray → ByteArray → Bool → ByteArray → ByteArray → Int → Int → Int → Option (List Int × Int)
  | 0, _, _, _, _, _, _, _, _ => none
  | k + 1, x4, x5, x57, x229000, x229001, x229002, x229003, x229004 => if x57 = true then (some (([] : List Int), 2)) else (if 512 ≤ 281474976710656 then ((some (List.replicate 512 0 : List Int)).bind fun y234 => ((sutlerref13_put.f k y234 0 x5).bind fun t237 => ((sutlerref13_octal.f k x229002 7).bind fun t238 => ((sutlerref13_put.f k t237 100 t238).bind fun t239 => ((sutlerref13_octal.f k 0 7).bind fun t240 => ((sutlerref13_put.f k t239 108 t240).bind fun t241 => ((sutlerref13_octal.f k 0 7).bind fun t242 => ((sutlerref13_put.f k t241 116 t242).bind fun t243 => ((sutlerref13_octal.f k x229003 11).bind fun t244 => ((sutlerref13_put.f k t243 124 t244).bind fun t245 => ((sutlerref13_octal.f k 0 11).bind fun t246 => ((sutlerref13_put.f k t245 136 t246).bind fun t247 => (if 156 < (y234.length : Int) then ((sutlerref13_put.f k (t247.set (156 : Int).toNat x229004) 157 x229001).bind fun t249 => ((sutlerref13_put.f k t249 257 (⟨#[117, 115, 116, 97, 114, 0, 48, 48]⟩ : ByteArray)).bind fun t250 => ((sutlerref13_put.f k t250 345 x4).bind fun t251 => ((sutlerref13_Sum.f k t251).bind fun t252 => ((sutlerref13_octal.f k t252 6).bind fun t253 => (if t253.size + 2 ≤ 9223372036854775807 then ((sutlerref13_put.f k t251 148 (t253 ++ (⟨#[0, 32]⟩ : ByteArray))).bind fun t254 => (some (t254, 0))) else (none))))))) else (none)))))))))))))) else (none))
def sutlerref13_Print.f (k : Nat) (a0_0 : ByteArray) (a0_1 : ByteArray) (a0_2 : Int) (a0_3 : Int) (a0_4 : Int) : Option (List Int × Int) := (sutlerref13_parted.f k a0_0).bind fun bt229 => (if bt229.2.2 = true then (if (a0_1.size : Int) > 100 then (sutlerref13_Print.j0 k bt229.1 bt229.2.1 true a0_0 a0_1 a0_2 a0_3 a0_4) else ((sutlerref13_zero.f a0_0).bind fun t232 => (if t232 = true then (sutlerref13_Print.j0 k bt229.1 bt229.2.1 true a0_0 a0_1 a0_2 a0_3 a0_4) else ((sutlerref13_zero.f a0_1).bind fun t233 => (if t233 = true then (sutlerref13_Print.j0 k bt229.1 bt229.2.1 true a0_0 a0_1 a0_2 a0_3 a0_4) else (if a0_2 < 0 then (sutlerref13_Print.j0 k bt229.1 bt229.2.1 true a0_0 a0_1 a0_2 a0_3 a0_4) else (if a0_2 > 4095 then (sutlerref13_Print.j0 k bt229.1 bt229.2.1 true a0_0 a0_1 a0_2 a0_3 a0_4) else (if a0_3 < 0 then (sutlerref13_Print.j0 k bt229.1 bt229.2.1 true a0_0 a0_1 a0_2 a0_3 a0_4) else (if a0_3 > 262144 then (sutlerref13_Print.j0 k bt229.1 bt229.2.1 true a0_0 a0_1 a0_2 a0_3 a0_4) else (sutlerref13_Print.j0 k bt229.1 bt229.2.1 (a0_4 == 0) a0_0 a0_1 a0_2 a0_3 a0_4)))))))))) else (sutlerref13_Print.j0 k bt229.1 bt229.2.1 true a0_0 a0_1 a0_2 a0_3 a0_4))
theorem sutlerref13_Print.mono_l : ∀ k, (∀ y0 y1 y2 y3 y4 y5 y6 y7, LeO (sutlerref13_Print.j0 k y0 y1 y2 y3 y4 y5 y6 y7) (sutlerref13_Print.j0 (k + 1) y0 y1 y2 y3 y4 y5 y6 y7))
  | 0 => fun _ _ _ _ _ _ _ _ r h => by simp [sutlerref13_Print.j0] at h
  | k + 1 => by
    have ih0 := sutlerref13_Print.mono_l k
    · intro y0 y1 y2 y3 y4 y5 y6 y7
      unfold sutlerref13_Print.j0
      repeat' first
      | (with_reducible exact ih0 _ _ _ _ _ _ _ _)
      | (with_reducible exact sutlerref13_Sum.mono _ _)
      | (with_reducible exact sutlerref13_octal.mono _ _ _)
      | (with_reducible exact sutlerref13_parted.mono _ _)
      | (with_reducible exact sutlerref13_put.mono _ _ _ _)
      | (with_reducible exact LeO.refl _)
      | (with_reducible exact LeO.none _)
      | (with_reducible refine LeO.ite ?_ ?_)
      | (with_reducible refine LeO.bind ?_ (fun _ => ?_))
      | exact ih0 _ _ _ _ _ _ _ _
      | exact sutlerref13_Sum.mono _ _
      | exact sutlerref13_octal.mono _ _ _
      | exact sutlerref13_parted.mono _ _
      | exact sutlerref13_put.mono _ _ _ _
      | exact LeO.none _
      | refine LeO.ite ?_ ?_
      | refine LeO.bind ?_ (fun _ => ?_)
theorem sutlerref13_Print.mono : ∀ a0 a1 a2 a3 a4 k, LeO (sutlerref13_Print.f k a0 a1 a2 a3 a4) (sutlerref13_Print.f (k + 1) a0 a1 a2 a3 a4) := by
  intro a0 a1 a2 a3 a4 k
  have ih0 := sutlerref13_Print.mono_l k
  unfold sutlerref13_Print.f
  repeat' first
      | (with_reducible exact ih0 _ _ _ _ _ _ _ _)
      | (with_reducible exact sutlerref13_Sum.mono _ _)
      | (with_reducible exact sutlerref13_octal.mono _ _ _)
      | (with_reducible exact sutlerref13_parted.mono _ _)
      | (with_reducible exact sutlerref13_put.mono _ _ _ _)
      | (with_reducible exact LeO.refl _)
      | (with_reducible exact LeO.none _)
      | (with_reducible refine LeO.ite ?_ ?_)
      | (with_reducible refine LeO.bind ?_ (fun _ => ?_))
      | exact ih0 _ _ _ _ _ _ _ _
      | exact sutlerref13_Sum.mono _ _
      | exact sutlerref13_octal.mono _ _ _
      | exact sutlerref13_parted.mono _ _
      | exact sutlerref13_put.mono _ _ _ _
      | exact LeO.none _
      | refine LeO.ite ?_ ?_
      | refine LeO.bind ?_ (fun _ => ?_)
set_option maxHeartbeats 8000000 in
set_option maxRecDepth 100000 in
theorem sutlerref13_Print.calls (k : Nat) (a0_0 : ByteArray) (a0_1 : ByteArray) (a0_2 : Int) (a0_3 : Int) (a0_4 : Int) (r1 : List Int) (r2 : Int) (w : World) (h : sutlerref13_Print.f k a0_0 a0_1 a0_2 a0_3 a0_4 = some (r1, r2)) :
    Calls Tryd.prog 21 #[.agg #[.string a0_0, .string a0_1, .int .i64 a0_2, .int .i64 a0_3, .int .u8 a0_4]] w fun e w' => ∃ v0_ : Value, e = .returned (.tuple #[v0_, .int .i64 r2]) ∧ Kd.R (Kd.int .u8) 5 w' w.heap.size (fun _ => True) v0_ r1 ∧ Below w.heap.size w w' := by
  have hu25 := Tryd.underlying25
  have HB := Aside0.mk (Below.refl w.heap.size w)
  have H : ((sutlerref13_parted.f k a0_0).bind fun bt229 => (if bt229.2.2 = true then (if (a0_1.size : Int) > 100 then (sutlerref13_Print.j0 k bt229.1 bt229.2.1 true a0_0 a0_1 a0_2 a0_3 a0_4) else ((sutlerref13_zero.f a0_0).bind fun t232 => (if t232 = true then (sutlerref13_Print.j0 k bt229.1 bt229.2.1 true a0_0 a0_1 a0_2 a0_3 a0_4) else ((sutlerref13_zero.f a0_1).bind fun t233 => (if t233 = true then (sutlerref13_Print.j0 k bt229.1 bt229.2.1 true a0_0 a0_1 a0_2 a0_3 a0_4) else (if a0_2 < 0 then (sutlerref13_Print.j0 k bt229.1 bt229.2.1 true a0_0 a0_1 a0_2 a0_3 a0_4) else (if a0_2 > 4095 then (sutlerref13_Print.j0 k bt229.1 bt229.2.1 true a0_0 a0_1 a0_2 a0_3 a0_4) else (if a0_3 < 0 then (sutlerref13_Print.j0 k bt229.1 bt229.2.1 true a0_0 a0_1 a0_2 a0_3 a0_4) else (if a0_3 > 262144 then (sutlerref13_Print.j0 k bt229.1 bt229.2.1 true a0_0 a0_1 a0_2 a0_3 a0_4) else (sutlerref13_Print.j0 k bt229.1 bt229.2.1 (a0_4 == 0) a0_0 a0_1 a0_2 a0_3 a0_4)))))))))) else (sutlerref13_Print.j0 k bt229.1 bt229.2.1 true a0_0 a0_1 a0_2 a0_3 a0_4))) = some (r1, r2) := h
  clear h
  replace H := Option.bind_eq_some_iff.mp H
  obtain ⟨⟨t229, t230, t231⟩, A20, H⟩ := H
  replace H : (if t231 = true then (if (a0_1.size : Int) > 100 then (sutlerref13_Print.j0 k t229 t230 true a0_0 a0_1 a0_2 a0_3 a0_4) else ((sutlerref13_zero.f a0_0).bind fun t232 => (if t232 = true then (sutlerref13_Print.j0 k t229 t230 true a0_0 a0_1 a0_2 a0_3 a0_4) else ((sutlerref13_zero.f a0_1).bind fun t233 => (if t233 = true then (sutlerref13_Print.j0 k t229 t230 true a0_0 a0_1 a0_2 a0_3 a0_4) else (if a0_2 < 0 then (sutlerref13_Print.j0 k t229 t230 true a0_0 a0_1 a0_2 a0_3 a0_4) else (if a0_2 > 4095 then (sutlerref13_Print.j0 k t229 t230 true a0_0 a0_1 a0_2 a0_3 a0_4) else (if a0_3 < 0 then (sutlerref13_Print.j0 k t229 t230 true a0_0 a0_1 a0_2 a0_3 a0_4) else (if a0_3 > 262144 then (sutlerref13_Print.j0 k t229 t230 true a0_0 a0_1 a0_2 a0_3 a0_4) else (sutlerref13_Print.j0 k t229 t230 (a0_4 == 0) a0_0 a0_1 a0_2 a0_3 a0_4)))))))))) else (sutlerref13_Print.j0 k t229 t230 true a0_0 a0_1 a0_2 a0_3 a0_4)) = some (r1, r2) := H
  have A2 := Aside0.mk A20
  clear A20
  have HC3 := Aside0.mk H
  clear H
  go_enter Tryd.func21, Tryd.ntmps21
  go_upto_region 2 with (first | ((with_reducible refine gate_dst (N := 1) rfl ?_); (try (refine gate_guard (by rfl) ?_; dsimp only)); refine box_event ?hg (N := 1) ?hd (cs := #[.string a0_0, .string a0_1, .int .i64 a0_2, .int .i64 a0_3, .int .u8 a0_4]) (t := 25) ?hr ?_; (case hd => rfl); (case hg => rfl); (case hr => first | (go_simp; done) | (go_simp; rfl)); intro gb228 hg w4 hbox hb; have n0_ := Aside0.mk (below_step (by repeat (first | (with_reducible first | exact HB.out | apply below_alloc | apply pw_below_drewN | apply below_drew1) | exact HB.out)) hb); have n1_ := Aside0.mk (hbox); have n2_ := Aside0.mk ((by rw [hg]; exact (below_size (by repeat (first | (with_reducible first | exact HB.out | apply below_alloc | apply pw_below_drewN | apply below_drew1) | exact HB.out))) : w.heap.size ≤ gb228)); have n3_ := Aside0.mk ((by rw [hg]; exact (below_size (by repeat (first | (with_reducible first | exact HB.out | apply below_alloc | apply pw_below_drewN | apply below_drew1) | exact HB.out))) : w.heap.size ≤ gb228)); clear HB; have HB := n0_; have BK228 := n1_; have GW228 := n2_; have GE228 := n3_; clear n0_ n1_ n2_ n3_; clear hb hbox hg; have hcz5_0 : w4.cell? ⟨gb228, 0, none⟩ = some (.string a0_0) := (blk_cell BK228.out 0).trans rfl; have hcz5_1 : w4.cell? ⟨gb228, 1, none⟩ = some (.string a0_1) := (blk_cell BK228.out 1).trans rfl; have hcz5_2 : w4.cell? ⟨gb228, 2, none⟩ = some (.int .i64 a0_2) := (blk_cell BK228.out 2).trans rfl; have hcz5_3 : w4.cell? ⟨gb228, 3, none⟩ = some (.int .i64 a0_3) := (blk_cell BK228.out 3).trans rfl; have hcz5_4 : w4.cell? ⟨gb228, 4, none⟩ = some (.int .u8 a0_4) := (blk_cell BK228.out 4).trans rfl; have hfz5_0 := blk_frozen BK228.out 0; have hfz5_1 := blk_frozen BK228.out 1; have hfz5_2 := blk_frozen BK228.out 2; have hfz5_3 := blk_frozen BK228.out 3; have hfz5_4 := blk_frozen BK228.out 4) | ((with_reducible refine gate_callee (f := 34) rfl ?_); refine goesL_ (some 11) rfl rfl Tryd.func34 (by kernel_rfl) rfl #[.string a0_0] rfl (by (try simp only [List.map_toArray, List.map_cons, List.map_nil]); first | done | rfl | (simp only [List.length_drop, List.length_take]; rfl)) ?_; (with_reducible refine (sutlerref13_parted.calls k a0_0 t229 t230 t231 _ A2.out).mono ?_); rintro e w' ⟨rfl, ⟨nd, rfl⟩⟩; refine ⟨_, rfl, ?_⟩))
  (try simp only [Act.put, List.setIfInBounds_toArray, List.set_cons_zero, List.set_cons_succ])
  go_cut [57] (fun v57 wc => ∃ (kq : Nat) (x57_2 : Bool), v57 = .bool x57_2 ∧ Aside0 (sutlerref13_Print.j0 kq t229 t230 x57_2 a0_0 a0_1 a0_2 a0_3 a0_4 = some (r1, r2)) ∧ Aside0 (kq ≤ k) ∧ Aside0 (wc.heap[gb228]? = some (.cells #[.string a0_0, .string a0_1, .int .i64 a0_2, .int .i64 a0_3, .int .u8 a0_4] 25 (0, 0))) ∧ Aside0 (Below w.heap.size w wc))
  case first =>
    have H := HC3.out
    clear HC3
    by_cases c6 : t231 = true
    · subst c6
      have H1 : (if (a0_1.size : Int) > 100 then (sutlerref13_Print.j0 k t229 t230 true a0_0 a0_1 a0_2 a0_3 a0_4) else ((sutlerref13_zero.f a0_0).bind fun t232 => (if t232 = true then (sutlerref13_Print.j0 k t229 t230 true a0_0 a0_1 a0_2 a0_3 a0_4) else ((sutlerref13_zero.f a0_1).bind fun t233 => (if t233 = true then (sutlerref13_Print.j0 k t229 t230 true a0_0 a0_1 a0_2 a0_3 a0_4) else (if a0_2 < 0 then (sutlerref13_Print.j0 k t229 t230 true a0_0 a0_1 a0_2 a0_3 a0_4) else (if a0_2 > 4095 then (sutlerref13_Print.j0 k t229 t230 true a0_0 a0_1 a0_2 a0_3 a0_4) else (if a0_3 < 0 then (sutlerref13_Print.j0 k t229 t230 true a0_0 a0_1 a0_2 a0_3 a0_4) else (if a0_3 > 262144 then (sutlerref13_Print.j0 k t229 t230 true a0_0 a0_1 a0_2 a0_3 a0_4) else (sutlerref13_Print.j0 k t229 t230 (a0_4 == 0) a0_0 a0_1 a0_2 a0_3 a0_4)))))))))) = some (r1, r2) := by rw [if_pos rfl] at H; exact H
      clear H
      have H := H1
      clear H1
      by_cases c7 : (a0_1.size : Int) > 100
      · rw [if_pos c7] at H
        have c7b0 : decide (100 < (a0_1.size : Int)) = true := decide_eq_true c7
        have c7b1 : decide (100 < a0_1.size) = true := decide_eq_true (by omega)
        clear c7
        (first | rw [c7b0] | (simp only [i64_w, i32_w]; rw [c7b0]) | skip)
        have H' := Aside0.mk H
        clear H
        have hcz8_0 : w4.cell? ⟨gb228, 0, none⟩ = some (.string a0_0) := (blk_cell BK228.out 0).trans rfl
        have hcz8_1 : w4.cell? ⟨gb228, 1, none⟩ = some (.string a0_1) := (blk_cell BK228.out 1).trans rfl
        have hcz8_2 : w4.cell? ⟨gb228, 2, none⟩ = some (.int .i64 a0_2) := (blk_cell BK228.out 2).trans rfl
        have hcz8_3 : w4.cell? ⟨gb228, 3, none⟩ = some (.int .i64 a0_3) := (blk_cell BK228.out 3).trans rfl
        have hcz8_4 : w4.cell? ⟨gb228, 4, none⟩ = some (.int .u8 a0_4) := (blk_cell BK228.out 4).trans rfl
        have hfz8_0 := blk_frozen BK228.out 0
        have hfz8_1 := blk_frozen BK228.out 1
        have hfz8_2 := blk_frozen BK228.out 2
        have hfz8_3 := blk_frozen BK228.out 3
        have hfz8_4 := blk_frozen BK228.out 4
        go_wp2
        go_meet
        case rel => exact ⟨_, (true), (by first | rfl | (simp; done) | (simp [*]; done)), H', ⟨by first | omega | exact Nat.le_refl _⟩, ⟨by (with_reducible repeat (first | refine blk_drewN ?_ _ | refine blk_drew ?_ | refine blk_alloc ?_ _)); exact BK228.out⟩, ⟨by repeat (first | (with_reducible first | exact HB.out | apply below_alloc | apply pw_below_drewN | apply below_drew1 | refine below_set ?_ GE228.out) | exact HB.out)⟩⟩
      · rw [if_neg c7] at H
        have c7b0 : decide (100 < (a0_1.size : Int)) = false := decide_eq_false c7
        have c7b1 : decide (100 < a0_1.size) = false := decide_eq_false (by omega)
        clear c7
        (first | rw [c7b0] | (simp only [i64_w, i32_w]; rw [c7b0]) | skip)
        replace H := Option.bind_eq_some_iff.mp H
        obtain ⟨t232, A90, H⟩ := H
        replace H : (if t232 = true then (sutlerref13_Print.j0 k t229 t230 true a0_0 a0_1 a0_2 a0_3 a0_4) else ((sutlerref13_zero.f a0_1).bind fun t233 => (if t233 = true then (sutlerref13_Print.j0 k t229 t230 true a0_0 a0_1 a0_2 a0_3 a0_4) else (if a0_2 < 0 then (sutlerref13_Print.j0 k t229 t230 true a0_0 a0_1 a0_2 a0_3 a0_4) else (if a0_2 > 4095 then (sutlerref13_Print.j0 k t229 t230 true a0_0 a0_1 a0_2 a0_3 a0_4) else (if a0_3 < 0 then (sutlerref13_Print.j0 k t229 t230 true a0_0 a0_1 a0_2 a0_3 a0_4) else (if a0_3 > 262144 then (sutlerref13_Print.j0 k t229 t230 true a0_0 a0_1 a0_2 a0_3 a0_4) else (sutlerref13_Print.j0 k t229 t230 (a0_4 == 0) a0_0 a0_1 a0_2 a0_3 a0_4)))))))) = some (r1, r2) := H
        have A9 := Aside0.mk A90
        clear A90
        by_cases c10 : t232 = true
        · subst c10
          have H1 : (sutlerref13_Print.j0 k t229 t230 true a0_0 a0_1 a0_2 a0_3 a0_4) = some (r1, r2) := by rw [if_pos rfl] at H; exact H
          clear H
          have H := H1
          clear H1
          have H' := Aside0.mk H
          clear H
          have hcz11_0 : w4.cell? ⟨gb228, 0, none⟩ = some (.string a0_0) := (blk_cell BK228.out 0).trans rfl
          have hcz11_1 : w4.cell? ⟨gb228, 1, none⟩ = some (.string a0_1) := (blk_cell BK228.out 1).trans rfl
          have hcz11_2 : w4.cell? ⟨gb228, 2, none⟩ = some (.int .i64 a0_2) := (blk_cell BK228.out 2).trans rfl
          have hcz11_3 : w4.cell? ⟨gb228, 3, none⟩ = some (.int .i64 a0_3) := (blk_cell BK228.out 3).trans rfl
          have hcz11_4 : w4.cell? ⟨gb228, 4, none⟩ = some (.int .u8 a0_4) := (blk_cell BK228.out 4).trans rfl
          have hfz11_0 := blk_frozen BK228.out 0
          have hfz11_1 := blk_frozen BK228.out 1
          have hfz11_2 := blk_frozen BK228.out 2
          have hfz11_3 := blk_frozen BK228.out 3
          have hfz11_4 := blk_frozen BK228.out 4
          go_wp2_with (first | (go_at_call 35; (with_reducible refine (sutlerref13_zero.calls a0_0 true _ A9.out).mono ?_); rintro e w12 ⟨rfl, hb⟩; have n0_ := Aside0.mk (blk_below (g := gb228) (o := .cells #[.string a0_0, .string a0_1, .int .i64 a0_2, .int .i64 a0_3, .int .u8 a0_4] 25 (0, 0)) (by (with_reducible repeat (first | refine blk_drewN ?_ _ | refine blk_drew ?_ | refine blk_alloc ?_ _)); exact BK228.out) hb); have n1_ := Aside0.mk (below_step (by repeat (first | (with_reducible first | exact HB.out | apply below_alloc | apply pw_below_drewN | apply below_drew1 | refine below_set ?_ GE228.out) | exact HB.out)) hb); clear BK228; clear HB; have BK228 := n0_; have HB := n1_; clear n0_ n1_; (try clear hb); (try clear hb2); (try clear hk); (try clear hi)))
          go_meet
          case rel => exact ⟨_, (true), (by first | rfl | (simp; done) | (simp [*]; done)), H', ⟨by first | omega | exact Nat.le_refl _⟩, ⟨by (with_reducible repeat (first | refine blk_drewN ?_ _ | refine blk_drew ?_ | refine blk_alloc ?_ _)); exact BK228.out⟩, ⟨by repeat (first | (with_reducible first | exact HB.out | apply below_alloc | apply pw_below_drewN | apply below_drew1 | refine below_set ?_ GE228.out) | exact HB.out)⟩⟩
        · replace c10 := Bool.eq_false_iff.mpr c10
          subst c10
          have H1 : ((sutlerref13_zero.f a0_1).bind fun t233 => (if t233 = true then (sutlerref13_Print.j0 k t229 t230 true a0_0 a0_1 a0_2 a0_3 a0_4) else (if a0_2 < 0 then (sutlerref13_Print.j0 k t229 t230 true a0_0 a0_1 a0_2 a0_3 a0_4) else (if a0_2 > 4095 then (sutlerref13_Print.j0 k t229 t230 true a0_0 a0_1 a0_2 a0_3 a0_4) else (if a0_3 < 0 then (sutlerref13_Print.j0 k t229 t230 true a0_0 a0_1 a0_2 a0_3 a0_4) else (if a0_3 > 262144 then (sutlerref13_Print.j0 k t229 t230 true a0_0 a0_1 a0_2 a0_3 a0_4) else (sutlerref13_Print.j0 k t229 t230 (a0_4 == 0) a0_0 a0_1 a0_2 a0_3 a0_4))))))) = some (r1, r2) := by rw [if_neg (show ¬ (false = true) by decide)] at H; exact H
          clear H
          have H := H1
          clear H1
          replace H := Option.bind_eq_some_iff.mp H
          obtain ⟨t233, A130, H⟩ := H
          replace H : (if t233 = true then (sutlerref13_Print.j0 k t229 t230 true a0_0 a0_1 a0_2 a0_3 a0_4) else (if a0_2 < 0 then (sutlerref13_Print.j0 k t229 t230 true a0_0 a0_1 a0_2 a0_3 a0_4) else (if a0_2 > 4095 then (sutlerref13_Print.j0 k t229 t230 true a0_0 a0_1 a0_2 a0_3 a0_4) else (if a0_3 < 0 then (sutlerref13_Print.j0 k t229 t230 true a0_0 a0_1 a0_2 a0_3 a0_4) else (if a0_3 > 262144 then (sutlerref13_Print.j0 k t229 t230 true a0_0 a0_1 a0_2 a0_3 a0_4) else (sutlerref13_Print.j0 k t229 t230 (a0_4 == 0) a0_0 a0_1 a0_2 a0_3 a0_4)))))) = some (r1, r2) := H
          have A13 := Aside0.mk A130
          clear A130
          by_cases c14 : t233 = true
          · subst c14
            have H1 : (sutlerref13_Print.j0 k t229 t230 true a0_0 a0_1 a0_2 a0_3 a0_4) = some (r1, r2) := by rw [if_pos rfl] at H; exact H
            clear H
            have H := H1
            clear H1
            have H' := Aside0.mk H
            clear H
            have hcz15_0 : w4.cell? ⟨gb228, 0, none⟩ = some (.string a0_0) := (blk_cell BK228.out 0).trans rfl
            have hcz15_1 : w4.cell? ⟨gb228, 1, none⟩ = some (.string a0_1) := (blk_cell BK228.out 1).trans rfl
            have hcz15_2 : w4.cell? ⟨gb228, 2, none⟩ = some (.int .i64 a0_2) := (blk_cell BK228.out 2).trans rfl
            have hcz15_3 : w4.cell? ⟨gb228, 3, none⟩ = some (.int .i64 a0_3) := (blk_cell BK228.out 3).trans rfl
            have hcz15_4 : w4.cell? ⟨gb228, 4, none⟩ = some (.int .u8 a0_4) := (blk_cell BK228.out 4).trans rfl
            have hfz15_0 := blk_frozen BK228.out 0
            have hfz15_1 := blk_frozen BK228.out 1
            have hfz15_2 := blk_frozen BK228.out 2
            have hfz15_3 := blk_frozen BK228.out 3
            have hfz15_4 := blk_frozen BK228.out 4
            go_wp2_with (first | (go_at_call 35; (with_reducible refine (sutlerref13_zero.calls a0_0 false _ A9.out).mono ?_); rintro e w16 ⟨rfl, hb⟩; have n0_ := Aside0.mk (blk_below (g := gb228) (o := .cells #[.string a0_0, .string a0_1, .int .i64 a0_2, .int .i64 a0_3, .int .u8 a0_4] 25 (0, 0)) (by (with_reducible repeat (first | refine blk_drewN ?_ _ | refine blk_drew ?_ | refine blk_alloc ?_ _)); exact BK228.out) hb); have n1_ := Aside0.mk (below_step (by repeat (first | (with_reducible first | exact HB.out | apply below_alloc | apply pw_below_drewN | apply below_drew1 | refine below_set ?_ GE228.out) | exact HB.out)) hb); clear BK228; clear HB; have BK228 := n0_; have HB := n1_; clear n0_ n1_; (try clear hb); (try clear hb2); (try clear hk); (try clear hi); have hcz17_0 : w16.cell? ⟨gb228, 0, none⟩ = some (.string a0_0) := (blk_cell BK228.out 0).trans rfl; have hcz17_1 : w16.cell? ⟨gb228, 1, none⟩ = some (.string a0_1) := (blk_cell BK228.out 1).trans rfl; have hcz17_2 : w16.cell? ⟨gb228, 2, none⟩ = some (.int .i64 a0_2) := (blk_cell BK228.out 2).trans rfl; have hcz17_3 : w16.cell? ⟨gb228, 3, none⟩ = some (.int .i64 a0_3) := (blk_cell BK228.out 3).trans rfl; have hcz17_4 : w16.cell? ⟨gb228, 4, none⟩ = some (.int .u8 a0_4) := (blk_cell BK228.out 4).trans rfl; have hfz17_0 := blk_frozen BK228.out 0; have hfz17_1 := blk_frozen BK228.out 1; have hfz17_2 := blk_frozen BK228.out 2; have hfz17_3 := blk_frozen BK228.out 3; have hfz17_4 := blk_frozen BK228.out 4) | (go_at_call 35; (with_reducible refine (sutlerref13_zero.calls a0_1 true _ A13.out).mono ?_); rintro e w18 ⟨rfl, hb⟩; have n0_ := Aside0.mk (blk_below (g := gb228) (o := .cells #[.string a0_0, .string a0_1, .int .i64 a0_2, .int .i64 a0_3, .int .u8 a0_4] 25 (0, 0)) (by (with_reducible repeat (first | refine blk_drewN ?_ _ | refine blk_drew ?_ | refine blk_alloc ?_ _)); exact BK228.out) hb); have n1_ := Aside0.mk (below_step (by repeat (first | (with_reducible first | exact HB.out | apply below_alloc | apply pw_below_drewN | apply below_drew1 | refine below_set ?_ GE228.out) | exact HB.out)) hb); clear BK228; clear HB; have BK228 := n0_; have HB := n1_; clear n0_ n1_; (try clear hb); (try clear hb2); (try clear hk); (try clear hi)))
            go_meet
            case rel => exact ⟨_, (true), (by first | rfl | (simp; done) | (simp [*]; done)), H', ⟨by first | omega | exact Nat.le_refl _⟩, ⟨by (with_reducible repeat (first | refine blk_drewN ?_ _ | refine blk_drew ?_ | refine blk_alloc ?_ _)); exact BK228.out⟩, ⟨by repeat (first | (with_reducible first | exact HB.out | apply below_alloc | apply pw_below_drewN | apply below_drew1 | refine below_set ?_ GE228.out) | exact HB.out)⟩⟩
          · replace c14 := Bool.eq_false_iff.mpr c14
            subst c14
            have H1 : (if a0_2 < 0 then (sutlerref13_Print.j0 k t229 t230 true a0_0 a0_1 a0_2 a0_3 a0_4) else (if a0_2 > 4095 then (sutlerref13_Print.j0 k t229 t230 true a0_0 a0_1 a0_2 a0_3 a0_4) else (if a0_3 < 0 then (sutlerref13_Print.j0 k t229 t230 true a0_0 a0_1 a0_2 a0_3 a0_4) else (if a0_3 > 262144 then (sutlerref13_Print.j0 k t229 t230 true a0_0 a0_1 a0_2 a0_3 a0_4) else (sutlerref13_Print.j0 k t229 t230 (a0_4 == 0) a0_0 a0_1 a0_2 a0_3 a0_4))))) = some (r1, r2) := by rw [if_neg (show ¬ (false = true) by decide)] at H; exact H
            clear H
            have H := H1
            clear H1
            by_cases c19 : a0_2 < 0
            · rw [if_pos c19] at H
              have c19b0 : decide (a0_2 < 0) = true := decide_eq_true c19
              clear c19
              have H' := Aside0.mk H
              clear H
              have hcz20_0 : w4.cell? ⟨gb228, 0, none⟩ = some (.string a0_0) := (blk_cell BK228.out 0).trans rfl
              have hcz20_1 : w4.cell? ⟨gb228, 1, none⟩ = some (.string a0_1) := (blk_cell BK228.out 1).trans rfl
              have hcz20_2 : w4.cell? ⟨gb228, 2, none⟩ = some (.int .i64 a0_2) := (blk_cell BK228.out 2).trans rfl
              have hcz20_3 : w4.cell? ⟨gb228, 3, none⟩ = some (.int .i64 a0_3) := (blk_cell BK228.out 3).trans rfl
              have hcz20_4 : w4.cell? ⟨gb228, 4, none⟩ = some (.int .u8 a0_4) := (blk_cell BK228.out 4).trans rfl
              have hfz20_0 := blk_frozen BK228.out 0
              have hfz20_1 := blk_frozen BK228.out 1
              have hfz20_2 := blk_frozen BK228.out 2
              have hfz20_3 := blk_frozen BK228.out 3
              have hfz20_4 := blk_frozen BK228.out 4
              go_wp2_with (first | (go_at_call 35; (with_reducible refine (sutlerref13_zero.calls a0_0 false _ A9.out).mono ?_); rintro e w21 ⟨rfl, hb⟩; have n0_ := Aside0.mk (blk_below (g := gb228) (o := .cells #[.string a0_0, .string a0_1, .int .i64 a0_2, .int .i64 a0_3, .int .u8 a0_4] 25 (0, 0)) (by (with_reducible repeat (first | refine blk_drewN ?_ _ | refine blk_drew ?_ | refine blk_alloc ?_ _)); exact BK228.out) hb); have n1_ := Aside0.mk (below_step (by repeat (first | (with_reducible first | exact HB.out | apply below_alloc | apply pw_below_drewN | apply below_drew1 | refine below_set ?_ GE228.out) | exact HB.out)) hb); clear BK228; clear HB; have BK228 := n0_; have HB := n1_; clear n0_ n1_; (try clear hb); (try clear hb2); (try clear hk); (try clear hi); have hcz22_0 : w21.cell? ⟨gb228, 0, none⟩ = some (.string a0_0) := (blk_cell BK228.out 0).trans rfl; have hcz22_1 : w21.cell? ⟨gb228, 1, none⟩ = some (.string a0_1) := (blk_cell BK228.out 1).trans rfl; have hcz22_2 : w21.cell? ⟨gb228, 2, none⟩ = some (.int .i64 a0_2) := (blk_cell BK228.out 2).trans rfl; have hcz22_3 : w21.cell? ⟨gb228, 3, none⟩ = some (.int .i64 a0_3) := (blk_cell BK228.out 3).trans rfl; have hcz22_4 : w21.cell? ⟨gb228, 4, none⟩ = some (.int .u8 a0_4) := (blk_cell BK228.out 4).trans rfl; have hfz22_0 := blk_frozen BK228.out 0; have hfz22_1 := blk_frozen BK228.out 1; have hfz22_2 := blk_frozen BK228.out 2; have hfz22_3 := blk_frozen BK228.out 3; have hfz22_4 := blk_frozen BK228.out 4) | (go_at_call 35; (with_reducible refine (sutlerref13_zero.calls a0_1 false _ A13.out).mono ?_); rintro e w23 ⟨rfl, hb⟩; have n0_ := Aside0.mk (blk_below (g := gb228) (o := .cells #[.string a0_0, .string a0_1, .int .i64 a0_2, .int .i64 a0_3, .int .u8 a0_4] 25 (0, 0)) (by (with_reducible repeat (first | refine blk_drewN ?_ _ | refine blk_drew ?_ | refine blk_alloc ?_ _)); exact BK228.out) hb); have n1_ := Aside0.mk (below_step (by repeat (first | (with_reducible first | exact HB.out | apply below_alloc | apply pw_below_drewN | apply below_drew1 | refine below_set ?_ GE228.out) | exact HB.out)) hb); clear BK228; clear HB; have BK228 := n0_; have HB := n1_; clear n0_ n1_; (try clear hb); (try clear hb2); (try clear hk); (try clear hi); have hcz24_0 : w23.cell? ⟨gb228, 0, none⟩ = some (.string a0_0) := (blk_cell BK228.out 0).trans rfl; have hcz24_1 : w23.cell? ⟨gb228, 1, none⟩ = some (.string a0_1) := (blk_cell BK228.out 1).trans rfl; have hcz24_2 : w23.cell? ⟨gb228, 2, none⟩ = some (.int .i64 a0_2) := (blk_cell BK228.out 2).trans rfl; have hcz24_3 : w23.cell? ⟨gb228, 3, none⟩ = some (.int .i64 a0_3) := (blk_cell BK228.out 3).trans rfl; have hcz24_4 : w23.cell? ⟨gb228, 4, none⟩ = some (.int .u8 a0_4) := (blk_cell BK228.out 4).trans rfl; have hfz24_0 := blk_frozen BK228.out 0; have hfz24_1 := blk_frozen BK228.out 1; have hfz24_2 := blk_frozen BK228.out 2; have hfz24_3 := blk_frozen BK228.out 3; have hfz24_4 := blk_frozen BK228.out 4))
              go_meet
              case rel => exact ⟨_, (true), (by first | rfl | (simp; done) | (simp [*]; done)), H', ⟨by first | omega | exact Nat.le_refl _⟩, ⟨by (with_reducible repeat (first | refine blk_drewN ?_ _ | refine blk_drew ?_ | refine blk_alloc ?_ _)); exact BK228.out⟩, ⟨by repeat (first | (with_reducible first | exact HB.out | apply below_alloc | apply pw_below_drewN | apply below_drew1 | refine below_set ?_ GE228.out) | exact HB.out)⟩⟩
            · rw [if_neg c19] at H
              have c19b0 : decide (a0_2 < 0) = false := decide_eq_false c19
              clear c19
              by_cases c25 : a0_2 > 4095
              · rw [if_pos c25] at H
                have c25b0 : decide (4095 < a0_2) = true := decide_eq_true c25
                clear c25
                have H' := Aside0.mk H
                clear H
                have hcz26_0 : w4.cell? ⟨gb228, 0, none⟩ = some (.string a0_0) := (blk_cell BK228.out 0).trans rfl
                have hcz26_1 : w4.cell? ⟨gb228, 1, none⟩ = some (.string a0_1) := (blk_cell BK228.out 1).trans rfl
                have hcz26_2 : w4.cell? ⟨gb228, 2, none⟩ = some (.int .i64 a0_2) := (blk_cell BK228.out 2).trans rfl
                have hcz26_3 : w4.cell? ⟨gb228, 3, none⟩ = some (.int .i64 a0_3) := (blk_cell BK228.out 3).trans rfl
                have hcz26_4 : w4.cell? ⟨gb228, 4, none⟩ = some (.int .u8 a0_4) := (blk_cell BK228.out 4).trans rfl
                have hfz26_0 := blk_frozen BK228.out 0
                have hfz26_1 := blk_frozen BK228.out 1
                have hfz26_2 := blk_frozen BK228.out 2
                have hfz26_3 := blk_frozen BK228.out 3
                have hfz26_4 := blk_frozen BK228.out 4
                go_wp2_with (first | (go_at_call 35; (with_reducible refine (sutlerref13_zero.calls a0_0 false _ A9.out).mono ?_); rintro e w27 ⟨rfl, hb⟩; have n0_ := Aside0.mk (blk_below (g := gb228) (o := .cells #[.string a0_0, .string a0_1, .int .i64 a0_2, .int .i64 a0_3, .int .u8 a0_4] 25 (0, 0)) (by (with_reducible repeat (first | refine blk_drewN ?_ _ | refine blk_drew ?_ | refine blk_alloc ?_ _)); exact BK228.out) hb); have n1_ := Aside0.mk (below_step (by repeat (first | (with_reducible first | exact HB.out | apply below_alloc | apply pw_below_drewN | apply below_drew1 | refine below_set ?_ GE228.out) | exact HB.out)) hb); clear BK228; clear HB; have BK228 := n0_; have HB := n1_; clear n0_ n1_; (try clear hb); (try clear hb2); (try clear hk); (try clear hi); have hcz28_0 : w27.cell? ⟨gb228, 0, none⟩ = some (.string a0_0) := (blk_cell BK228.out 0).trans rfl; have hcz28_1 : w27.cell? ⟨gb228, 1, none⟩ = some (.string a0_1) := (blk_cell BK228.out 1).trans rfl; have hcz28_2 : w27.cell? ⟨gb228, 2, none⟩ = some (.int .i64 a0_2) := (blk_cell BK228.out 2).trans rfl; have hcz28_3 : w27.cell? ⟨gb228, 3, none⟩ = some (.int .i64 a0_3) := (blk_cell BK228.out 3).trans rfl; have hcz28_4 : w27.cell? ⟨gb228, 4, none⟩ = some (.int .u8 a0_4) := (blk_cell BK228.out 4).trans rfl; have hfz28_0 := blk_frozen BK228.out 0; have hfz28_1 := blk_frozen BK228.out 1; have hfz28_2 := blk_frozen BK228.out 2; have hfz28_3 := blk_frozen BK228.out 3; have hfz28_4 := blk_frozen BK228.out 4) | (go_at_call 35; (with_reducible refine (sutlerref13_zero.calls a0_1 false _ A13.out).mono ?_); rintro e w29 ⟨rfl, hb⟩; have n0_ := Aside0.mk (blk_below (g := gb228) (o := .cells #[.string a0_0, .string a0_1, .int .i64 a0_2, .int .i64 a0_3, .int .u8 a0_4] 25 (0, 0)) (by (with_reducible repeat (first | refine blk_drewN ?_ _ | refine blk_drew ?_ | refine blk_alloc ?_ _)); exact BK228.out) hb); have n1_ := Aside0.mk (below_step (by repeat (first | (with_reducible first | exact HB.out | apply below_alloc | apply pw_below_drewN | apply below_drew1 | refine below_set ?_ GE228.out) | exact HB.out)) hb); clear BK228; clear HB; have BK228 := n0_; have HB := n1_; clear n0_ n1_; (try clear hb); (try clear hb2); (try clear hk); (try clear hi); have hcz30_0 : w29.cell? ⟨gb228, 0, none⟩ = some (.string a0_0) := (blk_cell BK228.out 0).trans rfl; have hcz30_1 : w29.cell? ⟨gb228, 1, none⟩ = some (.string a0_1) := (blk_cell BK228.out 1).trans rfl; have hcz30_2 : w29.cell? ⟨gb228, 2, none⟩ = some (.int .i64 a0_2) := (blk_cell BK228.out 2).trans rfl; have hcz30_3 : w29.cell? ⟨gb228, 3, none⟩ = some (.int .i64 a0_3) := (blk_cell BK228.out 3).trans rfl; have hcz30_4 : w29.cell? ⟨gb228, 4, none⟩ = some (.int .u8 a0_4) := (blk_cell BK228.out 4).trans rfl; have hfz30_0 := blk_frozen BK228.out 0; have hfz30_1 := blk_frozen BK228.out 1; have hfz30_2 := blk_frozen BK228.out 2; have hfz30_3 := blk_frozen BK228.out 3; have hfz30_4 := blk_frozen BK228.out 4))
                go_meet
                case rel => exact ⟨_, (true), (by first | rfl | (simp; done) | (simp [*]; done)), H', ⟨by first | omega | exact Nat.le_refl _⟩, ⟨by (with_reducible repeat (first | refine blk_drewN ?_ _ | refine blk_drew ?_ | refine blk_alloc ?_ _)); exact BK228.out⟩, ⟨by repeat (first | (with_reducible first | exact HB.out | apply below_alloc | apply pw_below_drewN | apply below_drew1 | refine below_set ?_ GE228.out) | exact HB.out)⟩⟩
              · rw [if_neg c25] at H
                have c25b0 : decide (4095 < a0_2) = false := decide_eq_false c25
                clear c25
                by_cases c31 : a0_3 < 0
                · rw [if_pos c31] at H
                  have c31b0 : decide (a0_3 < 0) = true := decide_eq_true c31
                  clear c31
                  have H' := Aside0.mk H
                  clear H
                  have hcz32_0 : w4.cell? ⟨gb228, 0, none⟩ = some (.string a0_0) := (blk_cell BK228.out 0).trans rfl
                  have hcz32_1 : w4.cell? ⟨gb228, 1, none⟩ = some (.string a0_1) := (blk_cell BK228.out 1).trans rfl
                  have hcz32_2 : w4.cell? ⟨gb228, 2, none⟩ = some (.int .i64 a0_2) := (blk_cell BK228.out 2).trans rfl
                  have hcz32_3 : w4.cell? ⟨gb228, 3, none⟩ = some (.int .i64 a0_3) := (blk_cell BK228.out 3).trans rfl
                  have hcz32_4 : w4.cell? ⟨gb228, 4, none⟩ = some (.int .u8 a0_4) := (blk_cell BK228.out 4).trans rfl
                  have hfz32_0 := blk_frozen BK228.out 0
                  have hfz32_1 := blk_frozen BK228.out 1
                  have hfz32_2 := blk_frozen BK228.out 2
                  have hfz32_3 := blk_frozen BK228.out 3
                  have hfz32_4 := blk_frozen BK228.out 4
                  go_wp2_with (first | (go_at_call 35; (with_reducible refine (sutlerref13_zero.calls a0_0 false _ A9.out).mono ?_); rintro e w33 ⟨rfl, hb⟩; have n0_ := Aside0.mk (blk_below (g := gb228) (o := .cells #[.string a0_0, .string a0_1, .int .i64 a0_2, .int .i64 a0_3, .int .u8 a0_4] 25 (0, 0)) (by (with_reducible repeat (first | refine blk_drewN ?_ _ | refine blk_drew ?_ | refine blk_alloc ?_ _)); exact BK228.out) hb); have n1_ := Aside0.mk (below_step (by repeat (first | (with_reducible first | exact HB.out | apply below_alloc | apply pw_below_drewN | apply below_drew1 | refine below_set ?_ GE228.out) | exact HB.out)) hb); clear BK228; clear HB; have BK228 := n0_; have HB := n1_; clear n0_ n1_; (try clear hb); (try clear hb2); (try clear hk); (try clear hi); have hcz34_0 : w33.cell? ⟨gb228, 0, none⟩ = some (.string a0_0) := (blk_cell BK228.out 0).trans rfl; have hcz34_1 : w33.cell? ⟨gb228, 1, none⟩ = some (.string a0_1) := (blk_cell BK228.out 1).trans rfl; have hcz34_2 : w33.cell? ⟨gb228, 2, none⟩ = some (.int .i64 a0_2) := (blk_cell BK228.out 2).trans rfl; have hcz34_3 : w33.cell? ⟨gb228, 3, none⟩ = some (.int .i64 a0_3) := (blk_cell BK228.out 3).trans rfl; have hcz34_4 : w33.cell? ⟨gb228, 4, none⟩ = some (.int .u8 a0_4) := (blk_cell BK228.out 4).trans rfl; have hfz34_0 := blk_frozen BK228.out 0; have hfz34_1 := blk_frozen BK228.out 1; have hfz34_2 := blk_frozen BK228.out 2; have hfz34_3 := blk_frozen BK228.out 3; have hfz34_4 := blk_frozen BK228.out 4) | (go_at_call 35; (with_reducible refine (sutlerref13_zero.calls a0_1 false _ A13.out).mono ?_); rintro e w35 ⟨rfl, hb⟩; have n0_ := Aside0.mk (blk_below (g := gb228) (o := .cells #[.string a0_0, .string a0_1, .int .i64 a0_2, .int .i64 a0_3, .int .u8 a0_4] 25 (0, 0)) (by (with_reducible repeat (first | refine blk_drewN ?_ _ | refine blk_drew ?_ | refine blk_alloc ?_ _)); exact BK228.out) hb); have n1_ := Aside0.mk (below_step (by repeat (first | (with_reducible first | exact HB.out | apply below_alloc | apply pw_below_drewN | apply below_drew1 | refine below_set ?_ GE228.out) | exact HB.out)) hb); clear BK228; clear HB; have BK228 := n0_; have HB := n1_; clear n0_ n1_; (try clear hb); (try clear hb2); (try clear hk); (try clear hi); have hcz36_0 : w35.cell? ⟨gb228, 0, none⟩ = some (.string a0_0) := (blk_cell BK228.out 0).trans rfl; have hcz36_1 : w35.cell? ⟨gb228, 1, none⟩ = some (.string a0_1) := (blk_cell BK228.out 1).trans rfl; have hcz36_2 : w35.cell? ⟨gb228, 2, none⟩ = some (.int .i64 a0_2) := (blk_cell BK228.out 2).trans rfl; have hcz36_3 : w35.cell? ⟨gb228, 3, none⟩ = some (.int .i64 a0_3) := (blk_cell BK228.out 3).trans rfl; have hcz36_4 : w35.cell? ⟨gb228, 4, none⟩ = some (.int .u8 a0_4) := (blk_cell BK228.out 4).trans rfl; have hfz36_0 := blk_frozen BK228.out 0; have hfz36_1 := blk_frozen BK228.out 1; have hfz36_2 := blk_frozen BK228.out 2; have hfz36_3 := blk_frozen BK228.out 3; have hfz36_4 := blk_frozen BK228.out 4))
                  go_meet
                  case rel => exact ⟨_, (true), (by first | rfl | (simp; done) | (simp [*]; done)), H', ⟨by first | omega | exact Nat.le_refl _⟩, ⟨by (with_reducible repeat (first | refine blk_drewN ?_ _ | refine blk_drew ?_ | refine blk_alloc ?_ _)); exact BK228.out⟩, ⟨by repeat (first | (with_reducible first | exact HB.out | apply below_alloc | apply pw_below_drewN | apply below_drew1 | refine below_set ?_ GE228.out) | exact HB.out)⟩⟩
                · rw [if_neg c31] at H
                  have c31b0 : decide (a0_3 < 0) = false := decide_eq_false c31
                  clear c31
                  by_cases c37 : a0_3 > 262144
                  · rw [if_pos c37] at H
                    have c37b0 : decide (262144 < a0_3) = true := decide_eq_true c37
                    clear c37
                    have H' := Aside0.mk H
                    clear H
                    have hcz38_0 : w4.cell? ⟨gb228, 0, none⟩ = some (.string a0_0) := (blk_cell BK228.out 0).trans rfl
                    have hcz38_1 : w4.cell? ⟨gb228, 1, none⟩ = some (.string a0_1) := (blk_cell BK228.out 1).trans rfl
                    have hcz38_2 : w4.cell? ⟨gb228, 2, none⟩ = some (.int .i64 a0_2) := (blk_cell BK228.out 2).trans rfl
                    have hcz38_3 : w4.cell? ⟨gb228, 3, none⟩ = some (.int .i64 a0_3) := (blk_cell BK228.out 3).trans rfl
                    have hcz38_4 : w4.cell? ⟨gb228, 4, none⟩ = some (.int .u8 a0_4) := (blk_cell BK228.out 4).trans rfl
                    have hfz38_0 := blk_frozen BK228.out 0
                    have hfz38_1 := blk_frozen BK228.out 1
                    have hfz38_2 := blk_frozen BK228.out 2
                    have hfz38_3 := blk_frozen BK228.out 3
                    have hfz38_4 := blk_frozen BK228.out 4
                    go_wp2_with (first | (go_at_call 35; (with_reducible refine (sutlerref13_zero.calls a0_0 false _ A9.out).mono ?_); rintro e w39 ⟨rfl, hb⟩; have n0_ := Aside0.mk (blk_below (g := gb228) (o := .cells #[.string a0_0, .string a0_1, .int .i64 a0_2, .int .i64 a0_3, .int .u8 a0_4] 25 (0, 0)) (by (with_reducible repeat (first | refine blk_drewN ?_ _ | refine blk_drew ?_ | refine blk_alloc ?_ _)); exact BK228.out) hb); have n1_ := Aside0.mk (below_step (by repeat (first | (with_reducible first | exact HB.out | apply below_alloc | apply pw_below_drewN | apply below_drew1 | refine below_set ?_ GE228.out) | exact HB.out)) hb); clear BK228; clear HB; have BK228 := n0_; have HB := n1_; clear n0_ n1_; (try clear hb); (try clear hb2); (try clear hk); (try clear hi); have hcz40_0 : w39.cell? ⟨gb228, 0, none⟩ = some (.string a0_0) := (blk_cell BK228.out 0).trans rfl; have hcz40_1 : w39.cell? ⟨gb228, 1, none⟩ = some (.string a0_1) := (blk_cell BK228.out 1).trans rfl; have hcz40_2 : w39.cell? ⟨gb228, 2, none⟩ = some (.int .i64 a0_2) := (blk_cell BK228.out 2).trans rfl; have hcz40_3 : w39.cell? ⟨gb228, 3, none⟩ = some (.int .i64 a0_3) := (blk_cell BK228.out 3).trans rfl; have hcz40_4 : w39.cell? ⟨gb228, 4, none⟩ = some (.int .u8 a0_4) := (blk_cell BK228.out 4).trans rfl; have hfz40_0 := blk_frozen BK228.out 0; have hfz40_1 := blk_frozen BK228.out 1; have hfz40_2 := blk_frozen BK228.out 2; have hfz40_3 := blk_frozen BK228.out 3; have hfz40_4 := blk_frozen BK228.out 4) | (go_at_call 35; (with_reducible refine (sutlerref13_zero.calls a0_1 false _ A13.out).mono ?_); rintro e w41 ⟨rfl, hb⟩; have n0_ := Aside0.mk (blk_below (g := gb228) (o := .cells #[.string a0_0, .string a0_1, .int .i64 a0_2, .int .i64 a0_3, .int .u8 a0_4] 25 (0, 0)) (by (with_reducible repeat (first | refine blk_drewN ?_ _ | refine blk_drew ?_ | refine blk_alloc ?_ _)); exact BK228.out) hb); have n1_ := Aside0.mk (below_step (by repeat (first | (with_reducible first | exact HB.out | apply below_alloc | apply pw_below_drewN | apply below_drew1 | refine below_set ?_ GE228.out) | exact HB.out)) hb); clear BK228; clear HB; have BK228 := n0_; have HB := n1_; clear n0_ n1_; (try clear hb); (try clear hb2); (try clear hk); (try clear hi); have hcz42_0 : w41.cell? ⟨gb228, 0, none⟩ = some (.string a0_0) := (blk_cell BK228.out 0).trans rfl; have hcz42_1 : w41.cell? ⟨gb228, 1, none⟩ = some (.string a0_1) := (blk_cell BK228.out 1).trans rfl; have hcz42_2 : w41.cell? ⟨gb228, 2, none⟩ = some (.int .i64 a0_2) := (blk_cell BK228.out 2).trans rfl; have hcz42_3 : w41.cell? ⟨gb228, 3, none⟩ = some (.int .i64 a0_3) := (blk_cell BK228.out 3).trans rfl; have hcz42_4 : w41.cell? ⟨gb228, 4, none⟩ = some (.int .u8 a0_4) := (blk_cell BK228.out 4).trans rfl; have hfz42_0 := blk_frozen BK228.out 0; have hfz42_1 := blk_frozen BK228.out 1; have hfz42_2 := blk_frozen BK228.out 2; have hfz42_3 := blk_frozen BK228.out 3; have hfz42_4 := blk_frozen BK228.out 4))
                    go_meet
                    case rel => exact ⟨_, (true), (by first | rfl | (simp; done) | (simp [*]; done)), H', ⟨by first | omega | exact Nat.le_refl _⟩, ⟨by (with_reducible repeat (first | refine blk_drewN ?_ _ | refine blk_drew ?_ | refine blk_alloc ?_ _)); exact BK228.out⟩, ⟨by repeat (first | (with_reducible first | exact HB.out | apply below_alloc | apply pw_below_drewN | apply below_drew1 | refine below_set ?_ GE228.out) | exact HB.out)⟩⟩
                  · rw [if_neg c37] at H
                    have c37b0 : decide (262144 < a0_3) = false := decide_eq_false c37
                    clear c37
                    have H' := Aside0.mk H
                    clear H
                    have hcz43_0 : w4.cell? ⟨gb228, 0, none⟩ = some (.string a0_0) := (blk_cell BK228.out 0).trans rfl
                    have hcz43_1 : w4.cell? ⟨gb228, 1, none⟩ = some (.string a0_1) := (blk_cell BK228.out 1).trans rfl
                    have hcz43_2 : w4.cell? ⟨gb228, 2, none⟩ = some (.int .i64 a0_2) := (blk_cell BK228.out 2).trans rfl
                    have hcz43_3 : w4.cell? ⟨gb228, 3, none⟩ = some (.int .i64 a0_3) := (blk_cell BK228.out 3).trans rfl
                    have hcz43_4 : w4.cell? ⟨gb228, 4, none⟩ = some (.int .u8 a0_4) := (blk_cell BK228.out 4).trans rfl
                    have hfz43_0 := blk_frozen BK228.out 0
                    have hfz43_1 := blk_frozen BK228.out 1
                    have hfz43_2 := blk_frozen BK228.out 2
                    have hfz43_3 := blk_frozen BK228.out 3
                    have hfz43_4 := blk_frozen BK228.out 4
                    go_wp2_with (first | (go_at_call 35; (with_reducible refine (sutlerref13_zero.calls a0_0 false _ A9.out).mono ?_); rintro e w44 ⟨rfl, hb⟩; have n0_ := Aside0.mk (blk_below (g := gb228) (o := .cells #[.string a0_0, .string a0_1, .int .i64 a0_2, .int .i64 a0_3, .int .u8 a0_4] 25 (0, 0)) (by (with_reducible repeat (first | refine blk_drewN ?_ _ | refine blk_drew ?_ | refine blk_alloc ?_ _)); exact BK228.out) hb); have n1_ := Aside0.mk (below_step (by repeat (first | (with_reducible first | exact HB.out | apply below_alloc | apply pw_below_drewN | apply below_drew1 | refine below_set ?_ GE228.out) | exact HB.out)) hb); clear BK228; clear HB; have BK228 := n0_; have HB := n1_; clear n0_ n1_; (try clear hb); (try clear hb2); (try clear hk); (try clear hi); have hcz45_0 : w44.cell? ⟨gb228, 0, none⟩ = some (.string a0_0) := (blk_cell BK228.out 0).trans rfl; have hcz45_1 : w44.cell? ⟨gb228, 1, none⟩ = some (.string a0_1) := (blk_cell BK228.out 1).trans rfl; have hcz45_2 : w44.cell? ⟨gb228, 2, none⟩ = some (.int .i64 a0_2) := (blk_cell BK228.out 2).trans rfl; have hcz45_3 : w44.cell? ⟨gb228, 3, none⟩ = some (.int .i64 a0_3) := (blk_cell BK228.out 3).trans rfl; have hcz45_4 : w44.cell? ⟨gb228, 4, none⟩ = some (.int .u8 a0_4) := (blk_cell BK228.out 4).trans rfl; have hfz45_0 := blk_frozen BK228.out 0; have hfz45_1 := blk_frozen BK228.out 1; have hfz45_2 := blk_frozen BK228.out 2; have hfz45_3 := blk_frozen BK228.out 3; have hfz45_4 := blk_frozen BK228.out 4) | (go_at_call 35; (with_reducible refine (sutlerref13_zero.calls a0_1 false _ A13.out).mono ?_); rintro e w46 ⟨rfl, hb⟩; have n0_ := Aside0.mk (blk_below (g := gb228) (o := .cells #[.string a0_0, .string a0_1, .int .i64 a0_2, .int .i64 a0_3, .int .u8 a0_4] 25 (0, 0)) (by (with_reducible repeat (first | refine blk_drewN ?_ _ | refine blk_drew ?_ | refine blk_alloc ?_ _)); exact BK228.out) hb); have n1_ := Aside0.mk (below_step (by repeat (first | (with_reducible first | exact HB.out | apply below_alloc | apply pw_below_drewN | apply below_drew1 | refine below_set ?_ GE228.out) | exact HB.out)) hb); clear BK228; clear HB; have BK228 := n0_; have HB := n1_; clear n0_ n1_; (try clear hb); (try clear hb2); (try clear hk); (try clear hi); have hcz47_0 : w46.cell? ⟨gb228, 0, none⟩ = some (.string a0_0) := (blk_cell BK228.out 0).trans rfl; have hcz47_1 : w46.cell? ⟨gb228, 1, none⟩ = some (.string a0_1) := (blk_cell BK228.out 1).trans rfl; have hcz47_2 : w46.cell? ⟨gb228, 2, none⟩ = some (.int .i64 a0_2) := (blk_cell BK228.out 2).trans rfl; have hcz47_3 : w46.cell? ⟨gb228, 3, none⟩ = some (.int .i64 a0_3) := (blk_cell BK228.out 3).trans rfl; have hcz47_4 : w46.cell? ⟨gb228, 4, none⟩ = some (.int .u8 a0_4) := (blk_cell BK228.out 4).trans rfl; have hfz47_0 := blk_frozen BK228.out 0; have hfz47_1 := blk_frozen BK228.out 1; have hfz47_2 := blk_frozen BK228.out 2; have hfz47_3 := blk_frozen BK228.out 3; have hfz47_4 := blk_frozen BK228.out 4))
                    go_meet
                    case rel => exact ⟨_, ((a0_4 == 0)), (by first | rfl | (simp; done) | (simp [*]; done)), H', ⟨by first | omega | exact Nat.le_refl _⟩, ⟨by (with_reducible repeat (first | refine blk_drewN ?_ _ | refine blk_drew ?_ | refine blk_alloc ?_ _)); exact BK228.out⟩, ⟨by repeat (first | (with_reducible first | exact HB.out | apply below_alloc | apply pw_below_drewN | apply below_drew1 | refine below_set ?_ GE228.out) | exact HB.out)⟩⟩
    · replace c6 := Bool.eq_false_iff.mpr c6
      subst c6
      have H1 : (sutlerref13_Print.j0 k t229 t230 true a0_0 a0_1 a0_2 a0_3 a0_4) = some (r1, r2) := by rw [if_neg (show ¬ (false = true) by decide)] at H; exact H
      clear H
      have H := H1
      clear H1
      have H' := Aside0.mk H
      clear H
      go_wp2
      go_meet
      case rel => exact ⟨_, (true), (by first | rfl | (simp; done) | (simp [*]; done)), H', ⟨by first | omega | exact Nat.le_refl _⟩, ⟨by (with_reducible repeat (first | refine blk_drewN ?_ _ | refine blk_drew ?_ | refine blk_alloc ?_ _)); exact BK228.out⟩, ⟨by repeat (first | (with_reducible first | exact HB.out | apply below_alloc | apply pw_below_drewN | apply below_drew1 | refine below_set ?_ GE228.out) | exact HB.out)⟩⟩
  case rest =>
    clear HC3
    try clear c1
    try clear c2
    try clear p2
    try clear c3
    try clear c6
    try clear c7
    try clear c7b0
    try clear c7b1
    try clear c10
    try clear c14
    try clear c19
    try clear c19b0
    try clear c21
    try clear c25
    try clear c25b0
    try clear c31
    try clear c31b0
    try clear c34
    try clear c37
    try clear c37b0
    try clear hcz11_0
    try clear hcz11_1
    try clear hcz11_2
    try clear hcz11_3
    try clear hcz11_4
    try clear hcz15_0
    try clear hcz15_1
    try clear hcz15_2
    try clear hcz15_3
    try clear hcz15_4
    try clear hcz17_0
    try clear hcz17_1
    try clear hcz17_2
    try clear hcz17_3
    try clear hcz17_4
    try clear hcz20_0
    try clear hcz20_1
    try clear hcz20_2
    try clear hcz20_3
    try clear hcz20_4
    try clear hcz22_0
    try clear hcz22_1
    try clear hcz22_2
    try clear hcz22_3
    try clear hcz22_4
    try clear hcz24_0
    try clear hcz24_1
    try clear hcz24_2
    try clear hcz24_3
    try clear hcz24_4
    try clear hcz26_0
    try clear hcz26_1
    try clear hcz26_2
    try clear hcz26_3
    try clear hcz26_4
    try clear hcz28_0
    try clear hcz28_1
    try clear hcz28_2
    try clear hcz28_3
    try clear hcz28_4
    try clear hcz30_0
    try clear hcz30_1
    try clear hcz30_2
    try clear hcz30_3
    try clear hcz30_4
    try clear hcz32_0
    try clear hcz32_1
    try clear hcz32_2
    try clear hcz32_3
    try clear hcz32_4
    try clear hcz34_0
    try clear hcz34_1
    try clear hcz34_2
    try clear hcz34_3
    try clear hcz34_4
    try clear hcz36_0
    try clear hcz36_1
    try clear hcz36_2
    try clear hcz36_3
    try clear hcz36_4
    try clear hcz38_0
    try clear hcz38_1
    try clear hcz38_2
    try clear hcz38_3
    try clear hcz38_4
    try clear hcz40_0
    try clear hcz40_1
    try clear hcz40_2
    try clear hcz40_3
    try clear hcz40_4
    try clear hcz42_0
    try clear hcz42_1
    try clear hcz42_2
    try clear hcz42_3
    try clear hcz42_4
    try clear hcz43_0
    try clear hcz43_1
    try clear hcz43_2
    try clear hcz43_3
    try clear hcz43_4
    try clear hcz45_0
    try clear hcz45_1
    try clear hcz45_2
    try clear hcz45_3
    try clear hcz45_4
    try clear hcz47_0
    try clear hcz47_1
    try clear hcz47_2
    try clear hcz47_3
    try clear hcz47_4
    try clear hcz5_0
    try clear hcz5_1
    try clear hcz5_2
    try clear hcz5_3
    try clear hcz5_4
    try clear hcz8_0
    try clear hcz8_1
    try clear hcz8_2
    try clear hcz8_3
    try clear hcz8_4
    try clear hfz11_0
    try clear hfz11_1
    try clear hfz11_2
    try clear hfz11_3
    try clear hfz11_4
    try clear hfz15_0
    try clear hfz15_1
    try clear hfz15_2
    try clear hfz15_3
    try clear hfz15_4
    try clear hfz17_0
    try clear hfz17_1
    try clear hfz17_2
    try clear hfz17_3
    try clear hfz17_4
    try clear hfz20_0
    try clear hfz20_1
    try clear hfz20_2
    try clear hfz20_3
    try clear hfz20_4
    try clear hfz22_0
    try clear hfz22_1
    try clear hfz22_2
    try clear hfz22_3
    try clear hfz22_4
    try clear hfz24_0
    try clear hfz24_1
    try clear hfz24_2
    try clear hfz24_3
    try clear hfz24_4
    try clear hfz26_0
    try clear hfz26_1
    try clear hfz26_2
    try clear hfz26_3
    try clear hfz26_4
    try clear hfz28_0
    try clear hfz28_1
    try clear hfz28_2
    try clear hfz28_3
    try clear hfz28_4
    try clear hfz30_0
    try clear hfz30_1
    try clear hfz30_2
    try clear hfz30_3
    try clear hfz30_4
    try clear hfz32_0
    try clear hfz32_1
    try clear hfz32_2
    try clear hfz32_3
    try clear hfz32_4
    try clear hfz34_0
    try clear hfz34_1
    try clear hfz34_2
    try clear hfz34_3
    try clear hfz34_4
    try clear hfz36_0
    try clear hfz36_1
    try clear hfz36_2
    try clear hfz36_3
    try clear hfz36_4
    try clear hfz38_0
    try clear hfz38_1
    try clear hfz38_2
    try clear hfz38_3
    try clear hfz38_4
    try clear hfz40_0
    try clear hfz40_1
    try clear hfz40_2
    try clear hfz40_3
    try clear hfz40_4
    try clear hfz42_0
    try clear hfz42_1
    try clear hfz42_2
    try clear hfz42_3
    try clear hfz42_4
    try clear hfz43_0
    try clear hfz43_1
    try clear hfz43_2
    try clear hfz43_3
    try clear hfz43_4
    try clear hfz45_0
    try clear hfz45_1
    try clear hfz45_2
    try clear hfz45_3
    try clear hfz45_4
    try clear hfz47_0
    try clear hfz47_1
    try clear hfz47_2
    try clear hfz47_3
    try clear hfz47_4
    try clear hfz5_0
    try clear hfz5_1
    try clear hfz5_2
    try clear hfz5_3
    try clear hfz5_4
    try clear hfz8_0
    try clear hfz8_1
    try clear hfz8_2
    try clear hfz8_3
    try clear hfz8_4
    obtain ⟨kq, x57_2, rfl, HA, HJ2, BK228, HB⟩ := hcut
    cases kq with
    | zero => exact absurd HA.out (by simp [sutlerref13_Print.j0])
    | succ kj2 =>
      have H := HA.out
      clear HA
      simp only [sutlerref13_Print.j0] at H
      by_cases c48 : x57_2 = true
      · subst c48
        have H1 : (some (([] : List Int), 2)) = some (r1, r2) := by rw [if_pos rfl] at H; exact H
        clear H
        have H := H1
        clear H1
        simp only [Option.some.injEq, Prod.mk.injEq] at H
        obtain ⟨rfl, rfl⟩ := H
        go_wp2
        go_ret2
        exact ⟨_, by first | rfl | (simp [errW_none, errW_some] <;> rfl) | (simp [*, errW_none, errW_some] <;> rfl), by first | exact Kd.R_nil _ _ _ _ _ | exact Kd.N_nil _ _ _ _ _ | exact Kd.V_nil _ _ _ _ _ | exact Kd.Q_nil _ _ _ _ _ | exact Kd.S_nil _ _ _ _ _, by repeat (first | (with_reducible first | exact HB.out | apply below_alloc | apply pw_below_drewN | apply below_drew1 | refine below_set ?_ GE228.out) | exact HB.out)⟩
      · replace c48 := Bool.eq_false_iff.mpr c48
        subst c48
        have H1 : (if 512 ≤ 281474976710656 then ((some (List.replicate 512 0 : List Int)).bind fun y234 => ((sutlerref13_put.f kj2 y234 0 t230).bind fun t237 => ((sutlerref13_octal.f kj2 a0_2 7).bind fun t238 => ((sutlerref13_put.f kj2 t237 100 t238).bind fun t239 => ((sutlerref13_octal.f kj2 0 7).bind fun t240 => ((sutlerref13_put.f kj2 t239 108 t240).bind fun t241 => ((sutlerref13_octal.f kj2 0 7).bind fun t242 => ((sutlerref13_put.f kj2 t241 116 t242).bind fun t243 => ((sutlerref13_octal.f kj2 a0_3 11).bind fun t244 => ((sutlerref13_put.f kj2 t243 124 t244).bind fun t245 => ((sutlerref13_octal.f kj2 0 11).bind fun t246 => ((sutlerref13_put.f kj2 t245 136 t246).bind fun t247 => (if 156 < (y234.length : Int) then ((sutlerref13_put.f kj2 (t247.set (156 : Int).toNat a0_4) 157 a0_1).bind fun t249 => ((sutlerref13_put.f kj2 t249 257 (⟨#[117, 115, 116, 97, 114, 0, 48, 48]⟩ : ByteArray)).bind fun t250 => ((sutlerref13_put.f kj2 t250 345 t229).bind fun t251 => ((sutlerref13_Sum.f kj2 t251).bind fun t252 => ((sutlerref13_octal.f kj2 t252 6).bind fun t253 => (if t253.size + 2 ≤ 9223372036854775807 then ((sutlerref13_put.f kj2 t251 148 (t253 ++ (⟨#[0, 32]⟩ : ByteArray))).bind fun t254 => (some (t254, 0))) else (none))))))) else (none)))))))))))))) else (none)) = some (r1, r2) := by rw [if_neg (show ¬ (false = true) by decide)] at H; exact H
        clear H
        have H := H1
        clear H1
        by_cases c49 : 512 ≤ 281474976710656
        · rw [if_pos c49] at H
          have c49b0 := eq_true c49
          have c49b1 : decide (512 ≤ 281474976710656) = true := decide_eq_true c49
          clear c49
          obtain ⟨y234, hy234⟩ : ∃ y_ : List Int, y_ = (List.replicate 512 0) := ⟨_, rfl⟩
          replace H : ((sutlerref13_put.f kj2 y234 0 t230).bind fun t237 => ((sutlerref13_octal.f kj2 a0_2 7).bind fun t238 => ((sutlerref13_put.f kj2 t237 100 t238).bind fun t239 => ((sutlerref13_octal.f kj2 0 7).bind fun t240 => ((sutlerref13_put.f kj2 t239 108 t240).bind fun t241 => ((sutlerref13_octal.f kj2 0 7).bind fun t242 => ((sutlerref13_put.f kj2 t241 116 t242).bind fun t243 => ((sutlerref13_octal.f kj2 a0_3 11).bind fun t244 => ((sutlerref13_put.f kj2 t243 124 t244).bind fun t245 => ((sutlerref13_octal.f kj2 0 11).bind fun t246 => ((sutlerref13_put.f kj2 t245 136 t246).bind fun t247 => (if 156 < (y234.length : Int) then ((sutlerref13_put.f kj2 (t247.set (156 : Int).toNat a0_4) 157 a0_1).bind fun t249 => ((sutlerref13_put.f kj2 t249 257 (⟨#[117, 115, 116, 97, 114, 0, 48, 48]⟩ : ByteArray)).bind fun t250 => ((sutlerref13_put.f kj2 t250 345 t229).bind fun t251 => ((sutlerref13_Sum.f kj2 t251).bind fun t252 => ((sutlerref13_octal.f kj2 t252 6).bind fun t253 => (if t253.size + 2 ≤ 9223372036854775807 then ((sutlerref13_put.f kj2 t251 148 (t253 ++ (⟨#[0, 32]⟩ : ByteArray))).bind fun t254 => (some (t254, 0))) else (none))))))) else (none))))))))))))) = some (r1, r2) := by first | (rw [hy234]; with_reducible exact H) | (have H2_ := (Option.bind_some _ _).symm.trans H; rw [hy234]; with_reducible exact H2_) | (have H2_ := (Option.bind_some _ _).symm.trans H; with_reducible exact H2_) | with_reducible exact H | (rw [hy234]; exact H) | exact H
          have Ny234 := Aside0.mk hy234
          clear hy234
          replace H := Option.bind_eq_some_iff.mp H
          obtain ⟨t237, A500, H⟩ := H
          replace H : ((sutlerref13_octal.f kj2 a0_2 7).bind fun t238 => ((sutlerref13_put.f kj2 t237 100 t238).bind fun t239 => ((sutlerref13_octal.f kj2 0 7).bind fun t240 => ((sutlerref13_put.f kj2 t239 108 t240).bind fun t241 => ((sutlerref13_octal.f kj2 0 7).bind fun t242 => ((sutlerref13_put.f kj2 t241 116 t242).bind fun t243 => ((sutlerref13_octal.f kj2 a0_3 11).bind fun t244 => ((sutlerref13_put.f kj2 t243 124 t244).bind fun t245 => ((sutlerref13_octal.f kj2 0 11).bind fun t246 => ((sutlerref13_put.f kj2 t245 136 t246).bind fun t247 => (if 156 < (y234.length : Int) then ((sutlerref13_put.f kj2 (t247.set (156 : Int).toNat a0_4) 157 a0_1).bind fun t249 => ((sutlerref13_put.f kj2 t249 257 (⟨#[117, 115, 116, 97, 114, 0, 48, 48]⟩ : ByteArray)).bind fun t250 => ((sutlerref13_put.f kj2 t250 345 t229).bind fun t251 => ((sutlerref13_Sum.f kj2 t251).bind fun t252 => ((sutlerref13_octal.f kj2 t252 6).bind fun t253 => (if t253.size + 2 ≤ 9223372036854775807 then ((sutlerref13_put.f kj2 t251 148 (t253 ++ (⟨#[0, 32]⟩ : ByteArray))).bind fun t254 => (some (t254, 0))) else (none))))))) else (none)))))))))))) = some (r1, r2) := H
          have A50 := Aside0.mk A500
          clear A500
          replace H := Option.bind_eq_some_iff.mp H
          obtain ⟨t238, A510, H⟩ := H
          replace H : ((sutlerref13_put.f kj2 t237 100 t238).bind fun t239 => ((sutlerref13_octal.f kj2 0 7).bind fun t240 => ((sutlerref13_put.f kj2 t239 108 t240).bind fun t241 => ((sutlerref13_octal.f kj2 0 7).bind fun t242 => ((sutlerref13_put.f kj2 t241 116 t242).bind fun t243 => ((sutlerref13_octal.f kj2 a0_3 11).bind fun t244 => ((sutlerref13_put.f kj2 t243 124 t244).bind fun t245 => ((sutlerref13_octal.f kj2 0 11).bind fun t246 => ((sutlerref13_put.f kj2 t245 136 t246).bind fun t247 => (if 156 < (y234.length : Int) then ((sutlerref13_put.f kj2 (t247.set (156 : Int).toNat a0_4) 157 a0_1).bind fun t249 => ((sutlerref13_put.f kj2 t249 257 (⟨#[117, 115, 116, 97, 114, 0, 48, 48]⟩ : ByteArray)).bind fun t250 => ((sutlerref13_put.f kj2 t250 345 t229).bind fun t251 => ((sutlerref13_Sum.f kj2 t251).bind fun t252 => ((sutlerref13_octal.f kj2 t252 6).bind fun t253 => (if t253.size + 2 ≤ 9223372036854775807 then ((sutlerref13_put.f kj2 t251 148 (t253 ++ (⟨#[0, 32]⟩ : ByteArray))).bind fun t254 => (some (t254, 0))) else (none))))))) else (none))))))))))) = some (r1, r2) := H
          have A51 := Aside0.mk A510
          clear A510
          replace H := Option.bind_eq_some_iff.mp H
          obtain ⟨t239, A520, H⟩ := H
          replace H : ((sutlerref13_octal.f kj2 0 7).bind fun t240 => ((sutlerref13_put.f kj2 t239 108 t240).bind fun t241 => ((sutlerref13_octal.f kj2 0 7).bind fun t242 => ((sutlerref13_put.f kj2 t241 116 t242).bind fun t243 => ((sutlerref13_octal.f kj2 a0_3 11).bind fun t244 => ((sutlerref13_put.f kj2 t243 124 t244).bind fun t245 => ((sutlerref13_octal.f kj2 0 11).bind fun t246 => ((sutlerref13_put.f kj2 t245 136 t246).bind fun t247 => (if 156 < (y234.length : Int) then ((sutlerref13_put.f kj2 (t247.set (156 : Int).toNat a0_4) 157 a0_1).bind fun t249 => ((sutlerref13_put.f kj2 t249 257 (⟨#[117, 115, 116, 97, 114, 0, 48, 48]⟩ : ByteArray)).bind fun t250 => ((sutlerref13_put.f kj2 t250 345 t229).bind fun t251 => ((sutlerref13_Sum.f kj2 t251).bind fun t252 => ((sutlerref13_octal.f kj2 t252 6).bind fun t253 => (if t253.size + 2 ≤ 9223372036854775807 then ((sutlerref13_put.f kj2 t251 148 (t253 ++ (⟨#[0, 32]⟩ : ByteArray))).bind fun t254 => (some (t254, 0))) else (none))))))) else (none)))))))))) = some (r1, r2) := H
          have A52 := Aside0.mk A520
          clear A520
          replace H := Option.bind_eq_some_iff.mp H
          obtain ⟨t240, A530, H⟩ := H
          replace H : ((sutlerref13_put.f kj2 t239 108 t240).bind fun t241 => ((sutlerref13_octal.f kj2 0 7).bind fun t242 => ((sutlerref13_put.f kj2 t241 116 t242).bind fun t243 => ((sutlerref13_octal.f kj2 a0_3 11).bind fun t244 => ((sutlerref13_put.f kj2 t243 124 t244).bind fun t245 => ((sutlerref13_octal.f kj2 0 11).bind fun t246 => ((sutlerref13_put.f kj2 t245 136 t246).bind fun t247 => (if 156 < (y234.length : Int) then ((sutlerref13_put.f kj2 (t247.set (156 : Int).toNat a0_4) 157 a0_1).bind fun t249 => ((sutlerref13_put.f kj2 t249 257 (⟨#[117, 115, 116, 97, 114, 0, 48, 48]⟩ : ByteArray)).bind fun t250 => ((sutlerref13_put.f kj2 t250 345 t229).bind fun t251 => ((sutlerref13_Sum.f kj2 t251).bind fun t252 => ((sutlerref13_octal.f kj2 t252 6).bind fun t253 => (if t253.size + 2 ≤ 9223372036854775807 then ((sutlerref13_put.f kj2 t251 148 (t253 ++ (⟨#[0, 32]⟩ : ByteArray))).bind fun t254 => (some (t254, 0))) else (none))))))) else (none))))))))) = some (r1, r2) := H
          have A53 := Aside0.mk A530
          clear A530
          replace H := Option.bind_eq_some_iff.mp H
          obtain ⟨t241, A540, H⟩ := H
          replace H : ((sutlerref13_octal.f kj2 0 7).bind fun t242 => ((sutlerref13_put.f kj2 t241 116 t242).bind fun t243 => ((sutlerref13_octal.f kj2 a0_3 11).bind fun t244 => ((sutlerref13_put.f kj2 t243 124 t244).bind fun t245 => ((sutlerref13_octal.f kj2 0 11).bind fun t246 => ((sutlerref13_put.f kj2 t245 136 t246).bind fun t247 => (if 156 < (y234.length : Int) then ((sutlerref13_put.f kj2 (t247.set (156 : Int).toNat a0_4) 157 a0_1).bind fun t249 => ((sutlerref13_put.f kj2 t249 257 (⟨#[117, 115, 116, 97, 114, 0, 48, 48]⟩ : ByteArray)).bind fun t250 => ((sutlerref13_put.f kj2 t250 345 t229).bind fun t251 => ((sutlerref13_Sum.f kj2 t251).bind fun t252 => ((sutlerref13_octal.f kj2 t252 6).bind fun t253 => (if t253.size + 2 ≤ 9223372036854775807 then ((sutlerref13_put.f kj2 t251 148 (t253 ++ (⟨#[0, 32]⟩ : ByteArray))).bind fun t254 => (some (t254, 0))) else (none))))))) else (none)))))))) = some (r1, r2) := H
          have A54 := Aside0.mk A540
          clear A540
          replace H := Option.bind_eq_some_iff.mp H
          obtain ⟨t242, A550, H⟩ := H
          replace H : ((sutlerref13_put.f kj2 t241 116 t242).bind fun t243 => ((sutlerref13_octal.f kj2 a0_3 11).bind fun t244 => ((sutlerref13_put.f kj2 t243 124 t244).bind fun t245 => ((sutlerref13_octal.f kj2 0 11).bind fun t246 => ((sutlerref13_put.f kj2 t245 136 t246).bind fun t247 => (if 156 < (y234.length : Int) then ((sutlerref13_put.f kj2 (t247.set (156 : Int).toNat a0_4) 157 a0_1).bind fun t249 => ((sutlerref13_put.f kj2 t249 257 (⟨#[117, 115, 116, 97, 114, 0, 48, 48]⟩ : ByteArray)).bind fun t250 => ((sutlerref13_put.f kj2 t250 345 t229).bind fun t251 => ((sutlerref13_Sum.f kj2 t251).bind fun t252 => ((sutlerref13_octal.f kj2 t252 6).bind fun t253 => (if t253.size + 2 ≤ 9223372036854775807 then ((sutlerref13_put.f kj2 t251 148 (t253 ++ (⟨#[0, 32]⟩ : ByteArray))).bind fun t254 => (some (t254, 0))) else (none))))))) else (none))))))) = some (r1, r2) := H
          have A55 := Aside0.mk A550
          clear A550
          replace H := Option.bind_eq_some_iff.mp H
          obtain ⟨t243, A560, H⟩ := H
          replace H : ((sutlerref13_octal.f kj2 a0_3 11).bind fun t244 => ((sutlerref13_put.f kj2 t243 124 t244).bind fun t245 => ((sutlerref13_octal.f kj2 0 11).bind fun t246 => ((sutlerref13_put.f kj2 t245 136 t246).bind fun t247 => (if 156 < (y234.length : Int) then ((sutlerref13_put.f kj2 (t247.set (156 : Int).toNat a0_4) 157 a0_1).bind fun t249 => ((sutlerref13_put.f kj2 t249 257 (⟨#[117, 115, 116, 97, 114, 0, 48, 48]⟩ : ByteArray)).bind fun t250 => ((sutlerref13_put.f kj2 t250 345 t229).bind fun t251 => ((sutlerref13_Sum.f kj2 t251).bind fun t252 => ((sutlerref13_octal.f kj2 t252 6).bind fun t253 => (if t253.size + 2 ≤ 9223372036854775807 then ((sutlerref13_put.f kj2 t251 148 (t253 ++ (⟨#[0, 32]⟩ : ByteArray))).bind fun t254 => (some (t254, 0))) else (none))))))) else (none)))))) = some (r1, r2) := H
          have A56 := Aside0.mk A560
          clear A560
          replace H := Option.bind_eq_some_iff.mp H
          obtain ⟨t244, A570, H⟩ := H
          replace H : ((sutlerref13_put.f kj2 t243 124 t244).bind fun t245 => ((sutlerref13_octal.f kj2 0 11).bind fun t246 => ((sutlerref13_put.f kj2 t245 136 t246).bind fun t247 => (if 156 < (y234.length : Int) then ((sutlerref13_put.f kj2 (t247.set (156 : Int).toNat a0_4) 157 a0_1).bind fun t249 => ((sutlerref13_put.f kj2 t249 257 (⟨#[117, 115, 116, 97, 114, 0, 48, 48]⟩ : ByteArray)).bind fun t250 => ((sutlerref13_put.f kj2 t250 345 t229).bind fun t251 => ((sutlerref13_Sum.f kj2 t251).bind fun t252 => ((sutlerref13_octal.f kj2 t252 6).bind fun t253 => (if t253.size + 2 ≤ 9223372036854775807 then ((sutlerref13_put.f kj2 t251 148 (t253 ++ (⟨#[0, 32]⟩ : ByteArray))).bind fun t254 => (some (t254, 0))) else (none))))))) else (none))))) = some (r1, r2) := H
          have A57 := Aside0.mk A570
          clear A570
          replace H := Option.bind_eq_some_iff.mp H
          obtain ⟨t245, A580, H⟩ := H
          replace H : ((sutlerref13_octal.f kj2 0 11).bind fun t246 => ((sutlerref13_put.f kj2 t245 136 t246).bind fun t247 => (if 156 < (y234.length : Int) then ((sutlerref13_put.f kj2 (t247.set (156 : Int).toNat a0_4) 157 a0_1).bind fun t249 => ((sutlerref13_put.f kj2 t249 257 (⟨#[117, 115, 116, 97, 114, 0, 48, 48]⟩ : ByteArray)).bind fun t250 => ((sutlerref13_put.f kj2 t250 345 t229).bind fun t251 => ((sutlerref13_Sum.f kj2 t251).bind fun t252 => ((sutlerref13_octal.f kj2 t252 6).bind fun t253 => (if t253.size + 2 ≤ 9223372036854775807 then ((sutlerref13_put.f kj2 t251 148 (t253 ++ (⟨#[0, 32]⟩ : ByteArray))).bind fun t254 => (some (t254, 0))) else (none))))))) else (none)))) = some (r1, r2) := H
          have A58 := Aside0.mk A580
          clear A580
          replace H := Option.bind_eq_some_iff.mp H
          obtain ⟨t246, A590, H⟩ := H
          replace H : ((sutlerref13_put.f kj2 t245 136 t246).bind fun t247 => (if 156 < (y234.length : Int) then ((sutlerref13_put.f kj2 (t247.set (156 : Int).toNat a0_4) 157 a0_1).bind fun t249 => ((sutlerref13_put.f kj2 t249 257 (⟨#[117, 115, 116, 97, 114, 0, 48, 48]⟩ : ByteArray)).bind fun t250 => ((sutlerref13_put.f kj2 t250 345 t229).bind fun t251 => ((sutlerref13_Sum.f kj2 t251).bind fun t252 => ((sutlerref13_octal.f kj2 t252 6).bind fun t253 => (if t253.size + 2 ≤ 9223372036854775807 then ((sutlerref13_put.f kj2 t251 148 (t253 ++ (⟨#[0, 32]⟩ : ByteArray))).bind fun t254 => (some (t254, 0))) else (none))))))) else (none))) = some (r1, r2) := H
          have A59 := Aside0.mk A590
          clear A590
          replace H := Option.bind_eq_some_iff.mp H
          obtain ⟨t247, A600, H⟩ := H
          replace H : (if 156 < (y234.length : Int) then ((sutlerref13_put.f kj2 (t247.set (156 : Int).toNat a0_4) 157 a0_1).bind fun t249 => ((sutlerref13_put.f kj2 t249 257 (⟨#[117, 115, 116, 97, 114, 0, 48, 48]⟩ : ByteArray)).bind fun t250 => ((sutlerref13_put.f kj2 t250 345 t229).bind fun t251 => ((sutlerref13_Sum.f kj2 t251).bind fun t252 => ((sutlerref13_octal.f kj2 t252 6).bind fun t253 => (if t253.size + 2 ≤ 9223372036854775807 then ((sutlerref13_put.f kj2 t251 148 (t253 ++ (⟨#[0, 32]⟩ : ByteArray))).bind fun t254 => (some (t254, 0))) else (none))))))) else (none)) = some (r1, r2) := H
          have A60 := Aside0.mk A600
          clear A600
          by_cases c61 : 156 < (y234.length : Int)
          · rw [if_pos c61] at H
            have c61b0 : decide (156 < (y234.length : Int)) = true := decide_eq_true c61
            have c61b1 : decide (156 < y234.length) = true := decide_eq_true (by omega)
            clear c61
            obtain ⟨y248, hy248⟩ : ∃ y_ : List Int, y_ = (t247.set (156 : Int).toNat a0_4) := ⟨_, rfl⟩
            replace H : ((sutlerref13_put.f kj2 y248 157 a0_1).bind fun t249 => ((sutlerref13_put.f kj2 t249 257 (⟨#[117, 115, 116, 97, 114, 0, 48, 48]⟩ : ByteArray)).bind fun t250 => ((sutlerref13_put.f kj2 t250 345 t229).bind fun t251 => ((sutlerref13_Sum.f kj2 t251).bind fun t252 => ((sutlerref13_octal.f kj2 t252 6).bind fun t253 => (if t253.size + 2 ≤ 9223372036854775807 then ((sutlerref13_put.f kj2 t251 148 (t253 ++ (⟨#[0, 32]⟩ : ByteArray))).bind fun t254 => (some (t254, 0))) else (none))))))) = some (r1, r2) := by first | (rw [hy248]; with_reducible exact H) | (have H2_ := (Option.bind_some _ _).symm.trans H; rw [hy248]; with_reducible exact H2_) | (have H2_ := (Option.bind_some _ _).symm.trans H; with_reducible exact H2_) | with_reducible exact H | (rw [hy248]; exact H) | exact H
            have Ny248 := Aside0.mk hy248
            clear hy248
            replace H := Option.bind_eq_some_iff.mp H
            obtain ⟨t249, A630, H⟩ := H
            replace H : ((sutlerref13_put.f kj2 t249 257 (⟨#[117, 115, 116, 97, 114, 0, 48, 48]⟩ : ByteArray)).bind fun t250 => ((sutlerref13_put.f kj2 t250 345 t229).bind fun t251 => ((sutlerref13_Sum.f kj2 t251).bind fun t252 => ((sutlerref13_octal.f kj2 t252 6).bind fun t253 => (if t253.size + 2 ≤ 9223372036854775807 then ((sutlerref13_put.f kj2 t251 148 (t253 ++ (⟨#[0, 32]⟩ : ByteArray))).bind fun t254 => (some (t254, 0))) else (none)))))) = some (r1, r2) := H
            have A63 := Aside0.mk A630
            clear A630
            replace H := Option.bind_eq_some_iff.mp H
            obtain ⟨t250, A640, H⟩ := H
            replace H : ((sutlerref13_put.f kj2 t250 345 t229).bind fun t251 => ((sutlerref13_Sum.f kj2 t251).bind fun t252 => ((sutlerref13_octal.f kj2 t252 6).bind fun t253 => (if t253.size + 2 ≤ 9223372036854775807 then ((sutlerref13_put.f kj2 t251 148 (t253 ++ (⟨#[0, 32]⟩ : ByteArray))).bind fun t254 => (some (t254, 0))) else (none))))) = some (r1, r2) := H
            have A64 := Aside0.mk A640
            clear A640
            replace H := Option.bind_eq_some_iff.mp H
            obtain ⟨t251, A650, H⟩ := H
            replace H : ((sutlerref13_Sum.f kj2 t251).bind fun t252 => ((sutlerref13_octal.f kj2 t252 6).bind fun t253 => (if t253.size + 2 ≤ 9223372036854775807 then ((sutlerref13_put.f kj2 t251 148 (t253 ++ (⟨#[0, 32]⟩ : ByteArray))).bind fun t254 => (some (t254, 0))) else (none)))) = some (r1, r2) := H
            have A65 := Aside0.mk A650
            clear A650
            replace H := Option.bind_eq_some_iff.mp H
            obtain ⟨t252, A660, H⟩ := H
            replace H : ((sutlerref13_octal.f kj2 t252 6).bind fun t253 => (if t253.size + 2 ≤ 9223372036854775807 then ((sutlerref13_put.f kj2 t251 148 (t253 ++ (⟨#[0, 32]⟩ : ByteArray))).bind fun t254 => (some (t254, 0))) else (none))) = some (r1, r2) := H
            have A66 := Aside0.mk A660
            clear A660
            replace H := Option.bind_eq_some_iff.mp H
            obtain ⟨t253, A670, H⟩ := H
            replace H : (if t253.size + 2 ≤ 9223372036854775807 then ((sutlerref13_put.f kj2 t251 148 (t253 ++ (⟨#[0, 32]⟩ : ByteArray))).bind fun t254 => (some (t254, 0))) else (none)) = some (r1, r2) := H
            have A67 := Aside0.mk A670
            clear A670
            by_cases c68 : t253.size + 2 ≤ 9223372036854775807
            · rw [if_pos c68] at H
              have c68b0 := eq_true c68
              have c68b1 : decide (t253.size + 2 ≤ 9223372036854775807) = true := decide_eq_true c68
              try have c68b2 : (9223372036854775807 < t253.size + 2) = False := eq_false (Nat.not_lt.2 c68)
              replace H := Option.bind_eq_some_iff.mp H
              obtain ⟨t254, A690, H⟩ := H
              replace H : (some (t254, 0)) = some (r1, r2) := H
              have A69 := Aside0.mk A690
              clear A690
              simp only [Option.some.injEq, Prod.mk.injEq] at H
              obtain ⟨rfl, rfl⟩ := H
              go_wp2_with (first | ((with_reducible refine gate_dst (N := 58) rfl ?_); (try (refine gate_guard (by rfl) ?_; dsimp only)); refine Kd.R_make (Kd.int .u8) _ 5 rfl (N := 58) rfl 22 _ _ rfl 512 rfl rfl Tryd.underlying22 (.int .u8 0) 1 info5 rfl (by decide) (by omega) 0 (ok := fun _ => True) (okp := fun _ => True) rfl (fun _ hk => hk) trivial (by omega) (by omega) (Below.refl _ _) (Nat.le_refl _) ?_; intro v235 w70 ho71 hb hg_ hnew_; clear hg_ hnew_; (first | rw [← Ny234.out] at ho71 | (simp only [Int.reduceToNat] at ho71; rw [← Ny234.out] at ho71)); have n0_ := Aside0.mk (Kd.R_lower ho71 (below_size (by repeat (first | (with_reducible first | exact HB.out | apply below_alloc | apply pw_below_drewN | apply below_drew1 | refine below_set ?_ GE228.out) | exact HB.out)))); have n1_ := Aside0.mk (blk_below (g := gb228) (o := .cells #[.string a0_0, .string a0_1, .int .i64 a0_2, .int .i64 a0_3, .int .u8 a0_4] 25 (0, 0)) (by (with_reducible repeat (first | refine blk_drewN ?_ _ | refine blk_drew ?_ | refine blk_alloc ?_ _)); exact BK228.out) hb); have n2_ := Aside0.mk (below_step (by repeat (first | (with_reducible first | exact HB.out | apply below_alloc | apply pw_below_drewN | apply below_drew1 | refine below_set ?_ GE228.out) | exact HB.out)) hb); clear BK228; clear HB; have HO236 := n0_; have BK228 := n1_; have HB := n2_; clear n0_ n1_ n2_; clear hb ho71; obtain ⟨Ao72, co72, eo72⟩ := Kd.R_slice HO236.out; subst eo72) | ((with_reducible refine gate_callee (f := 36) rfl ?_); refine goesL_ (some 61) rfl rfl Tryd.func36 (by kernel_rfl) rfl #[.slice Ao72 y234.length co72, .int .i64 0, .string t230] rfl (by (try simp only [List.map_toArray, List.map_cons, List.map_nil]); first | done | rfl | (simp only [List.length_drop, List.length_take]; rfl)) ?_; (with_reducible refine (sutlerref13_put.calls kj2 (fun k_ => some k_ = (.slice Ao72 y234.length co72 : Value).ownBlock) (.slice Ao72 y234.length co72) y234 0 t230 t237 w _ ?side1 ?side2 A50.out).mono ?_); (case side1 => repeat (first | (with_reducible first | exact HB.out | apply below_alloc | apply pw_below_drewN | apply below_drew1 | refine below_set ?_ GE228.out) | exact HB.out)); (case side2 => exact Kd.R_tight rfl HO236.out); rintro e w73 ⟨rfl, hy0, hb, hkp⟩; refine ⟨_, rfl, ?_⟩; have n0_ := Aside0.mk (blk_kept (by (with_reducible repeat (first | refine blk_drewN ?_ _ | refine blk_drew ?_ | refine blk_alloc ?_ _)); exact BK228.out) hkp (fun hs_ => (fun e_ => (Kd.R_ne HO236.out BK228.out (by decide)) e_) hs_)); have n1_ := Aside0.mk (Kd.R_reok rfl hy0 (fun k_ e_ => HO236.out.1 k_ e_)); have n2_ := Aside0.mk (hb); clear BK228; clear HO236; clear HB; have BK228 := n0_; have HO236 := n1_; have HB := n2_; clear n0_ n1_ n2_; (try clear hb); (try clear hkp); (try clear hy0); have hcz74_0 : w73.cell? ⟨gb228, 0, none⟩ = some (.string a0_0) := (blk_cell BK228.out 0).trans rfl; have hcz74_1 : w73.cell? ⟨gb228, 1, none⟩ = some (.string a0_1) := (blk_cell BK228.out 1).trans rfl; have hcz74_2 : w73.cell? ⟨gb228, 2, none⟩ = some (.int .i64 a0_2) := (blk_cell BK228.out 2).trans rfl; have hcz74_3 : w73.cell? ⟨gb228, 3, none⟩ = some (.int .i64 a0_3) := (blk_cell BK228.out 3).trans rfl; have hcz74_4 : w73.cell? ⟨gb228, 4, none⟩ = some (.int .u8 a0_4) := (blk_cell BK228.out 4).trans rfl; have hfz74_0 := blk_frozen BK228.out 0; have hfz74_1 := blk_frozen BK228.out 1; have hfz74_2 := blk_frozen BK228.out 2; have hfz74_3 := blk_frozen BK228.out 3; have hfz74_4 := blk_frozen BK228.out 4) | ((with_reducible refine gate_callee (f := 37) rfl ?_); refine goesL_ (some 65) rfl rfl Tryd.func37 (by kernel_rfl) rfl #[.int .i64 a0_2, .int .i64 7] rfl (by (try simp only [List.map_toArray, List.map_cons, List.map_nil]); first | done | rfl | (simp only [List.length_drop, List.length_take]; rfl)) ?_; (with_reducible refine (sutlerref13_octal.calls kj2 a0_2 7 t238 _ A51.out).mono ?_); rintro e w75 ⟨rfl, hb⟩; refine ⟨_, rfl, ?_⟩; have n0_ := Aside0.mk (Kd.R_below (by (with_reducible repeat (first | apply Kd.R_alloc | apply Kd.R_drewN | apply Kd.R_drew)); exact HO236.out) hb); have n1_ := Aside0.mk (blk_below (g := gb228) (o := .cells #[.string a0_0, .string a0_1, .int .i64 a0_2, .int .i64 a0_3, .int .u8 a0_4] 25 (0, 0)) (by (with_reducible repeat (first | refine blk_drewN ?_ _ | refine blk_drew ?_ | refine blk_alloc ?_ _)); exact BK228.out) hb); have n2_ := Aside0.mk (below_step (by repeat (first | (with_reducible first | exact HB.out | apply below_alloc | apply pw_below_drewN | apply below_drew1 | refine below_set ?_ GE228.out) | exact HB.out)) hb); clear HO236; clear BK228; clear HB; have HO236 := n0_; have BK228 := n1_; have HB := n2_; clear n0_ n1_ n2_; (try clear hb); (try clear hb2); (try clear hk); (try clear hi)) | ((with_reducible refine gate_callee (f := 36) rfl ?_); refine goesL_ (some 66) rfl rfl Tryd.func36 (by kernel_rfl) rfl #[.slice Ao72 y234.length co72, .int .i64 100, .string t238] rfl (by (try simp only [List.map_toArray, List.map_cons, List.map_nil]); first | done | rfl | (simp only [List.length_drop, List.length_take]; rfl)) ?_; (with_reducible refine (sutlerref13_put.calls kj2 (fun k_ => some k_ = (.slice Ao72 y234.length co72 : Value).ownBlock) (.slice Ao72 y234.length co72) t237 100 t238 t239 w _ ?side1 ?side2 A52.out).mono ?_); (case side1 => repeat (first | (with_reducible first | exact HB.out | apply below_alloc | apply pw_below_drewN | apply below_drew1 | refine below_set ?_ GE228.out) | exact HB.out)); (case side2 => exact Kd.R_tight rfl HO236.out); rintro e w76 ⟨rfl, hy0, hb, hkp⟩; refine ⟨_, rfl, ?_⟩; have n0_ := Aside0.mk (blk_kept (by (with_reducible repeat (first | refine blk_drewN ?_ _ | refine blk_drew ?_ | refine blk_alloc ?_ _)); exact BK228.out) hkp (fun hs_ => (fun e_ => (Kd.R_ne HO236.out BK228.out (by decide)) e_) hs_)); have n1_ := Aside0.mk (Kd.R_reok rfl hy0 (fun k_ e_ => HO236.out.1 k_ e_)); have n2_ := Aside0.mk (hb); clear BK228; clear HO236; clear HB; have BK228 := n0_; have HO236 := n1_; have HB := n2_; clear n0_ n1_ n2_; (try clear hb); (try clear hkp); (try clear hy0)) | ((with_reducible refine gate_callee (f := 37) rfl ?_); refine goesL_ (some 68) rfl rfl Tryd.func37 (by kernel_rfl) rfl #[.int .i64 0, .int .i64 7] rfl (by (try simp only [List.map_toArray, List.map_cons, List.map_nil]); first | done | rfl | (simp only [List.length_drop, List.length_take]; rfl)) ?_; (with_reducible refine (sutlerref13_octal.calls kj2 0 7 t240 _ A53.out).mono ?_); rintro e w77 ⟨rfl, hb⟩; refine ⟨_, rfl, ?_⟩; have n0_ := Aside0.mk (Kd.R_below (by (with_reducible repeat (first | apply Kd.R_alloc | apply Kd.R_drewN | apply Kd.R_drew)); exact HO236.out) hb); have n1_ := Aside0.mk (blk_below (g := gb228) (o := .cells #[.string a0_0, .string a0_1, .int .i64 a0_2, .int .i64 a0_3, .int .u8 a0_4] 25 (0, 0)) (by (with_reducible repeat (first | refine blk_drewN ?_ _ | refine blk_drew ?_ | refine blk_alloc ?_ _)); exact BK228.out) hb); have n2_ := Aside0.mk (below_step (by repeat (first | (with_reducible first | exact HB.out | apply below_alloc | apply pw_below_drewN | apply below_drew1 | refine below_set ?_ GE228.out) | exact HB.out)) hb); clear HO236; clear BK228; clear HB; have HO236 := n0_; have BK228 := n1_; have HB := n2_; clear n0_ n1_ n2_; (try clear hb); (try clear hb2); (try clear hk); (try clear hi)) | ((with_reducible refine gate_callee (f := 36) rfl ?_); refine goesL_ (some 69) rfl rfl Tryd.func36 (by kernel_rfl) rfl #[.slice Ao72 y234.length co72, .int .i64 108, .string t240] rfl (by (try simp only [List.map_toArray, List.map_cons, List.map_nil]); first | done | rfl | (simp only [List.length_drop, List.length_take]; rfl)) ?_; (with_reducible refine (sutlerref13_put.calls kj2 (fun k_ => some k_ = (.slice Ao72 y234.length co72 : Value).ownBlock) (.slice Ao72 y234.length co72) t239 108 t240 t241 w _ ?side1 ?side2 A54.out).mono ?_); (case side1 => repeat (first | (with_reducible first | exact HB.out | apply below_alloc | apply pw_below_drewN | apply below_drew1 | refine below_set ?_ GE228.out) | exact HB.out)); (case side2 => exact Kd.R_tight rfl HO236.out); rintro e w78 ⟨rfl, hy0, hb, hkp⟩; refine ⟨_, rfl, ?_⟩; have n0_ := Aside0.mk (blk_kept (by (with_reducible repeat (first | refine blk_drewN ?_ _ | refine blk_drew ?_ | refine blk_alloc ?_ _)); exact BK228.out) hkp (fun hs_ => (fun e_ => (Kd.R_ne HO236.out BK228.out (by decide)) e_) hs_)); have n1_ := Aside0.mk (Kd.R_reok rfl hy0 (fun k_ e_ => HO236.out.1 k_ e_)); have n2_ := Aside0.mk (hb); clear BK228; clear HO236; clear HB; have BK228 := n0_; have HO236 := n1_; have HB := n2_; clear n0_ n1_ n2_; (try clear hb); (try clear hkp); (try clear hy0)) | ((with_reducible refine gate_callee (f := 37) rfl ?_); refine goesL_ (some 71) rfl rfl Tryd.func37 (by kernel_rfl) rfl #[.int .i64 0, .int .i64 7] rfl (by (try simp only [List.map_toArray, List.map_cons, List.map_nil]); first | done | rfl | (simp only [List.length_drop, List.length_take]; rfl)) ?_; (with_reducible refine (sutlerref13_octal.calls kj2 0 7 t242 _ A55.out).mono ?_); rintro e w79 ⟨rfl, hb⟩; refine ⟨_, rfl, ?_⟩; have n0_ := Aside0.mk (Kd.R_below (by (with_reducible repeat (first | apply Kd.R_alloc | apply Kd.R_drewN | apply Kd.R_drew)); exact HO236.out) hb); have n1_ := Aside0.mk (blk_below (g := gb228) (o := .cells #[.string a0_0, .string a0_1, .int .i64 a0_2, .int .i64 a0_3, .int .u8 a0_4] 25 (0, 0)) (by (with_reducible repeat (first | refine blk_drewN ?_ _ | refine blk_drew ?_ | refine blk_alloc ?_ _)); exact BK228.out) hb); have n2_ := Aside0.mk (below_step (by repeat (first | (with_reducible first | exact HB.out | apply below_alloc | apply pw_below_drewN | apply below_drew1 | refine below_set ?_ GE228.out) | exact HB.out)) hb); clear HO236; clear BK228; clear HB; have HO236 := n0_; have BK228 := n1_; have HB := n2_; clear n0_ n1_ n2_; (try clear hb); (try clear hb2); (try clear hk); (try clear hi)) | ((with_reducible refine gate_callee (f := 36) rfl ?_); refine goesL_ (some 72) rfl rfl Tryd.func36 (by kernel_rfl) rfl #[.slice Ao72 y234.length co72, .int .i64 116, .string t242] rfl (by (try simp only [List.map_toArray, List.map_cons, List.map_nil]); first | done | rfl | (simp only [List.length_drop, List.length_take]; rfl)) ?_; (with_reducible refine (sutlerref13_put.calls kj2 (fun k_ => some k_ = (.slice Ao72 y234.length co72 : Value).ownBlock) (.slice Ao72 y234.length co72) t241 116 t242 t243 w _ ?side1 ?side2 A56.out).mono ?_); (case side1 => repeat (first | (with_reducible first | exact HB.out | apply below_alloc | apply pw_below_drewN | apply below_drew1 | refine below_set ?_ GE228.out) | exact HB.out)); (case side2 => exact Kd.R_tight rfl HO236.out); rintro e w80 ⟨rfl, hy0, hb, hkp⟩; refine ⟨_, rfl, ?_⟩; have n0_ := Aside0.mk (blk_kept (by (with_reducible repeat (first | refine blk_drewN ?_ _ | refine blk_drew ?_ | refine blk_alloc ?_ _)); exact BK228.out) hkp (fun hs_ => (fun e_ => (Kd.R_ne HO236.out BK228.out (by decide)) e_) hs_)); have n1_ := Aside0.mk (Kd.R_reok rfl hy0 (fun k_ e_ => HO236.out.1 k_ e_)); have n2_ := Aside0.mk (hb); clear BK228; clear HO236; clear HB; have BK228 := n0_; have HO236 := n1_; have HB := n2_; clear n0_ n1_ n2_; (try clear hb); (try clear hkp); (try clear hy0); have hcz81_0 : w80.cell? ⟨gb228, 0, none⟩ = some (.string a0_0) := (blk_cell BK228.out 0).trans rfl; have hcz81_1 : w80.cell? ⟨gb228, 1, none⟩ = some (.string a0_1) := (blk_cell BK228.out 1).trans rfl; have hcz81_2 : w80.cell? ⟨gb228, 2, none⟩ = some (.int .i64 a0_2) := (blk_cell BK228.out 2).trans rfl; have hcz81_3 : w80.cell? ⟨gb228, 3, none⟩ = some (.int .i64 a0_3) := (blk_cell BK228.out 3).trans rfl; have hcz81_4 : w80.cell? ⟨gb228, 4, none⟩ = some (.int .u8 a0_4) := (blk_cell BK228.out 4).trans rfl; have hfz81_0 := blk_frozen BK228.out 0; have hfz81_1 := blk_frozen BK228.out 1; have hfz81_2 := blk_frozen BK228.out 2; have hfz81_3 := blk_frozen BK228.out 3; have hfz81_4 := blk_frozen BK228.out 4) | ((with_reducible refine gate_callee (f := 37) rfl ?_); refine goesL_ (some 76) rfl rfl Tryd.func37 (by kernel_rfl) rfl #[.int .i64 a0_3, .int .i64 11] rfl (by (try simp only [List.map_toArray, List.map_cons, List.map_nil]); first | done | rfl | (simp only [List.length_drop, List.length_take]; rfl)) ?_; (with_reducible refine (sutlerref13_octal.calls kj2 a0_3 11 t244 _ A57.out).mono ?_); rintro e w82 ⟨rfl, hb⟩; refine ⟨_, rfl, ?_⟩; have n0_ := Aside0.mk (Kd.R_below (by (with_reducible repeat (first | apply Kd.R_alloc | apply Kd.R_drewN | apply Kd.R_drew)); exact HO236.out) hb); have n1_ := Aside0.mk (blk_below (g := gb228) (o := .cells #[.string a0_0, .string a0_1, .int .i64 a0_2, .int .i64 a0_3, .int .u8 a0_4] 25 (0, 0)) (by (with_reducible repeat (first | refine blk_drewN ?_ _ | refine blk_drew ?_ | refine blk_alloc ?_ _)); exact BK228.out) hb); have n2_ := Aside0.mk (below_step (by repeat (first | (with_reducible first | exact HB.out | apply below_alloc | apply pw_below_drewN | apply below_drew1 | refine below_set ?_ GE228.out) | exact HB.out)) hb); clear HO236; clear BK228; clear HB; have HO236 := n0_; have BK228 := n1_; have HB := n2_; clear n0_ n1_ n2_; (try clear hb); (try clear hb2); (try clear hk); (try clear hi)) | ((with_reducible refine gate_callee (f := 36) rfl ?_); refine goesL_ (some 77) rfl rfl Tryd.func36 (by kernel_rfl) rfl #[.slice Ao72 y234.length co72, .int .i64 124, .string t244] rfl (by (try simp only [List.map_toArray, List.map_cons, List.map_nil]); first | done | rfl | (simp only [List.length_drop, List.length_take]; rfl)) ?_; (with_reducible refine (sutlerref13_put.calls kj2 (fun k_ => some k_ = (.slice Ao72 y234.length co72 : Value).ownBlock) (.slice Ao72 y234.length co72) t243 124 t244 t245 w _ ?side1 ?side2 A58.out).mono ?_); (case side1 => repeat (first | (with_reducible first | exact HB.out | apply below_alloc | apply pw_below_drewN | apply below_drew1 | refine below_set ?_ GE228.out) | exact HB.out)); (case side2 => exact Kd.R_tight rfl HO236.out); rintro e w83 ⟨rfl, hy0, hb, hkp⟩; refine ⟨_, rfl, ?_⟩; have n0_ := Aside0.mk (blk_kept (by (with_reducible repeat (first | refine blk_drewN ?_ _ | refine blk_drew ?_ | refine blk_alloc ?_ _)); exact BK228.out) hkp (fun hs_ => (fun e_ => (Kd.R_ne HO236.out BK228.out (by decide)) e_) hs_)); have n1_ := Aside0.mk (Kd.R_reok rfl hy0 (fun k_ e_ => HO236.out.1 k_ e_)); have n2_ := Aside0.mk (hb); clear BK228; clear HO236; clear HB; have BK228 := n0_; have HO236 := n1_; have HB := n2_; clear n0_ n1_ n2_; (try clear hb); (try clear hkp); (try clear hy0)) | ((with_reducible refine gate_callee (f := 37) rfl ?_); refine goesL_ (some 79) rfl rfl Tryd.func37 (by kernel_rfl) rfl #[.int .i64 0, .int .i64 11] rfl (by (try simp only [List.map_toArray, List.map_cons, List.map_nil]); first | done | rfl | (simp only [List.length_drop, List.length_take]; rfl)) ?_; (with_reducible refine (sutlerref13_octal.calls kj2 0 11 t246 _ A59.out).mono ?_); rintro e w84 ⟨rfl, hb⟩; refine ⟨_, rfl, ?_⟩; have n0_ := Aside0.mk (Kd.R_below (by (with_reducible repeat (first | apply Kd.R_alloc | apply Kd.R_drewN | apply Kd.R_drew)); exact HO236.out) hb); have n1_ := Aside0.mk (blk_below (g := gb228) (o := .cells #[.string a0_0, .string a0_1, .int .i64 a0_2, .int .i64 a0_3, .int .u8 a0_4] 25 (0, 0)) (by (with_reducible repeat (first | refine blk_drewN ?_ _ | refine blk_drew ?_ | refine blk_alloc ?_ _)); exact BK228.out) hb); have n2_ := Aside0.mk (below_step (by repeat (first | (with_reducible first | exact HB.out | apply below_alloc | apply pw_below_drewN | apply below_drew1 | refine below_set ?_ GE228.out) | exact HB.out)) hb); clear HO236; clear BK228; clear HB; have HO236 := n0_; have BK228 := n1_; have HB := n2_; clear n0_ n1_ n2_; (try clear hb); (try clear hb2); (try clear hk); (try clear hi)) | ((with_reducible refine gate_callee (f := 36) rfl ?_); refine goesL_ (some 80) rfl rfl Tryd.func36 (by kernel_rfl) rfl #[.slice Ao72 y234.length co72, .int .i64 136, .string t246] rfl (by (try simp only [List.map_toArray, List.map_cons, List.map_nil]); first | done | rfl | (simp only [List.length_drop, List.length_take]; rfl)) ?_; (with_reducible refine (sutlerref13_put.calls kj2 (fun k_ => some k_ = (.slice Ao72 y234.length co72 : Value).ownBlock) (.slice Ao72 y234.length co72) t245 136 t246 t247 w _ ?side1 ?side2 A60.out).mono ?_); (case side1 => repeat (first | (with_reducible first | exact HB.out | apply below_alloc | apply pw_below_drewN | apply below_drew1 | refine below_set ?_ GE228.out) | exact HB.out)); (case side2 => exact Kd.R_tight rfl HO236.out); rintro e w85 ⟨rfl, hy0, hb, hkp⟩; refine ⟨_, rfl, ?_⟩; have n0_ := Aside0.mk (blk_kept (by (with_reducible repeat (first | refine blk_drewN ?_ _ | refine blk_drew ?_ | refine blk_alloc ?_ _)); exact BK228.out) hkp (fun hs_ => (fun e_ => (Kd.R_ne HO236.out BK228.out (by decide)) e_) hs_)); have n1_ := Aside0.mk (Kd.R_reok rfl hy0 (fun k_ e_ => HO236.out.1 k_ e_)); have n2_ := Aside0.mk (hb); clear BK228; clear HO236; clear HB; have BK228 := n0_; have HO236 := n1_; have HB := n2_; clear n0_ n1_ n2_; (try clear hb); (try clear hkp); (try clear hy0); have hcz86_0 : w85.cell? ⟨gb228, 0, none⟩ = some (.string a0_0) := (blk_cell BK228.out 0).trans rfl; have hcz86_1 : w85.cell? ⟨gb228, 1, none⟩ = some (.string a0_1) := (blk_cell BK228.out 1).trans rfl; have hcz86_2 : w85.cell? ⟨gb228, 2, none⟩ = some (.int .i64 a0_2) := (blk_cell BK228.out 2).trans rfl; have hcz86_3 : w85.cell? ⟨gb228, 3, none⟩ = some (.int .i64 a0_3) := (blk_cell BK228.out 3).trans rfl; have hcz86_4 : w85.cell? ⟨gb228, 4, none⟩ = some (.int .u8 a0_4) := (blk_cell BK228.out 4).trans rfl; have hfz86_0 := blk_frozen BK228.out 0; have hfz86_1 := blk_frozen BK228.out 1; have hfz86_2 := blk_frozen BK228.out 2; have hfz86_3 := blk_frozen BK228.out 3; have hfz86_4 := blk_frozen BK228.out 4; have p62 : 0 ≤ (156 : Int) := (by omega); have q62 : (156 : Int) < ((y234.length : Int) : Int) := of_decide_eq_true (by first | (with_reducible assumption) | assumption); have qi62 : (156 < y234.length) = True := eq_true (by omega); obtain ⟨go62, co62, eo62, gb62, gl62, cl62, HG62⟩ := Kd.R_form HO236.out (by have hl_ := R_len HO236.out; omega); (first | cases eo62 | (injection eo62 with ea_ en_ ec_; (first | subst ea_ | (injection ea_ with ea_; subst ea_)); subst ec_; clear en_)); have GB62 := Aside0.mk gb62; have GG62 := Aside0.mk HG62; clear gb62 gl62 HG62; obtain ⟨hx62_0, hf62_0⟩ := Kd.R_celln 0 HO236.out (156 : Int) p62 q62; (try rw [show ((156 : Int)).toNat = 156 from rfl] at hx62_0); (try simp only [Nat.reduceMul, Nat.zero_mul, Nat.zero_add, Nat.reduceAdd] at hx62_0); (try rw [show ((156 : Int)).toNat = 156 from rfl] at hf62_0); (try simp only [Nat.reduceMul, Nat.zero_mul, Nat.zero_add, Nat.reduceAdd] at hf62_0); replace p62 := eq_true p62; replace q62 := eq_true q62; obtain ⟨hy87_, hz87_⟩ := Kd.R_celln 0 HO236.out (156 : Int) (by omega) (of_decide_eq_true (by first | (with_reducible assumption) | assumption)); (try simp only [Int.reduceToNat, Int.toNat_zero, Int.toNat_ofNat, Nat.reduceMul, Nat.zero_mul, Nat.zero_add] at hy87_ hz87_); (try rw [show ((156 : Int)).toNat = 156 from rfl] at hy87_); (try rw [show ((156 : Int)).toNat = 156 from rfl] at hz87_); have HP87 := Kd.R_putg HO236.out (156 : Int) a0_4) | ((with_reducible refine gate_store (t := 5) (p := 84) rfl ?_); refine store_event (t := 5) (p := 84) (v := ?vo_w88) (w1 := (w85.setCell ⟨go62, (156 : Int).toNat, none⟩ (.int .u8 a0_4))) ?hg ?ho ?hn ?hr ?_; (case ho => rfl); (case hg => rfl); (case hn => rfl); (case hr => first | (go_simp; done) | (go_simp; rfl)); intro w88 hw; have hg : w85.grownBy w88 (some go62) := (by rw [hw]; exact HP87.2); have hp_ : Kd.R (Kd.int .u8) 5 w88 w.heap.size (fun _ => True) (.slice (some ⟨go62, 0, none⟩) y234.length co72) y248 := (by rw [hw, Ny248.out]; exact HP87.1); clear HP87; have n0_ := Aside0.mk (blk_grown (g := gb228) (o := .cells #[.string a0_0, .string a0_1, .int .i64 a0_2, .int .i64 a0_3, .int .u8 a0_4] 25 (0, 0)) (by (with_reducible repeat (first | refine blk_drewN ?_ _ | refine blk_drew ?_ | refine blk_alloc ?_ _)); exact BK228.out) hg (Kd.R_ne HO236.out BK228.out (by decide))); have n1_ := Aside0.mk (hp_); have n2_ := Aside0.mk ((by rw [hw]; exact below_set (HB.out) GB62.out : Below w.heap.size w w88)); clear BK228; clear HO236; clear HB; have BK228 := n0_; have HO236 := n1_; have HB := n2_; clear n0_ n1_ n2_; clear hg hw hp_; have hcz89_0 : w88.cell? ⟨gb228, 0, none⟩ = some (.string a0_0) := (blk_cell BK228.out 0).trans rfl; have hcz89_1 : w88.cell? ⟨gb228, 1, none⟩ = some (.string a0_1) := (blk_cell BK228.out 1).trans rfl; have hcz89_2 : w88.cell? ⟨gb228, 2, none⟩ = some (.int .i64 a0_2) := (blk_cell BK228.out 2).trans rfl; have hcz89_3 : w88.cell? ⟨gb228, 3, none⟩ = some (.int .i64 a0_3) := (blk_cell BK228.out 3).trans rfl; have hcz89_4 : w88.cell? ⟨gb228, 4, none⟩ = some (.int .u8 a0_4) := (blk_cell BK228.out 4).trans rfl; have hfz89_0 := blk_frozen BK228.out 0; have hfz89_1 := blk_frozen BK228.out 1; have hfz89_2 := blk_frozen BK228.out 2; have hfz89_3 := blk_frozen BK228.out 3; have hfz89_4 := blk_frozen BK228.out 4) | ((with_reducible refine gate_callee (f := 36) rfl ?_); refine goesL_ (some 88) rfl rfl Tryd.func36 (by kernel_rfl) rfl #[.slice (some ⟨go62, 0, none⟩) y234.length co72, .int .i64 157, .string a0_1] rfl (by (try simp only [List.map_toArray, List.map_cons, List.map_nil]); first | done | rfl | (simp only [List.length_drop, List.length_take]; rfl)) ?_; (with_reducible refine (sutlerref13_put.calls kj2 (fun k_ => some k_ = (.slice (some ⟨go62, 0, none⟩) y234.length co72 : Value).ownBlock) (.slice (some ⟨go62, 0, none⟩) y234.length co72) y248 157 a0_1 t249 w _ ?side1 ?side2 A63.out).mono ?_); (case side1 => repeat (first | (with_reducible first | exact HB.out | apply below_alloc | apply pw_below_drewN | apply below_drew1 | refine below_set ?_ GE228.out) | exact HB.out)); (case side2 => exact Kd.R_tight rfl HO236.out); rintro e w90 ⟨rfl, hy0, hb, hkp⟩; refine ⟨_, rfl, ?_⟩; have n0_ := Aside0.mk (blk_kept (by (with_reducible repeat (first | refine blk_drewN ?_ _ | refine blk_drew ?_ | refine blk_alloc ?_ _)); exact BK228.out) hkp (fun hs_ => (fun e_ => (Kd.R_ne HO236.out BK228.out (by decide)) e_) hs_)); have n1_ := Aside0.mk (Kd.R_reok rfl hy0 (fun k_ e_ => HO236.out.1 k_ e_)); have n2_ := Aside0.mk (hb); clear BK228; clear HO236; clear HB; have BK228 := n0_; have HO236 := n1_; have HB := n2_; clear n0_ n1_ n2_; (try clear hb); (try clear hkp); (try clear hy0)) | ((with_reducible refine gate_callee (f := 36) rfl ?_); refine goesL_ (some 90) rfl rfl Tryd.func36 (by kernel_rfl) rfl #[.slice (some ⟨go62, 0, none⟩) y234.length co72, .int .i64 257, .string (⟨#[117, 115, 116, 97, 114, 0, 48, 48]⟩ : ByteArray)] rfl (by (try simp only [List.map_toArray, List.map_cons, List.map_nil]); first | done | rfl | (simp only [List.length_drop, List.length_take]; rfl)) ?_; (with_reducible refine (sutlerref13_put.calls kj2 (fun k_ => some k_ = (.slice (some ⟨go62, 0, none⟩) y234.length co72 : Value).ownBlock) (.slice (some ⟨go62, 0, none⟩) y234.length co72) t249 257 (⟨#[117, 115, 116, 97, 114, 0, 48, 48]⟩ : ByteArray) t250 w _ ?side1 ?side2 A64.out).mono ?_); (case side1 => repeat (first | (with_reducible first | exact HB.out | apply below_alloc | apply pw_below_drewN | apply below_drew1 | refine below_set ?_ GE228.out) | exact HB.out)); (case side2 => exact Kd.R_tight rfl HO236.out); rintro e w91 ⟨rfl, hy0, hb, hkp⟩; refine ⟨_, rfl, ?_⟩; have n0_ := Aside0.mk (blk_kept (by (with_reducible repeat (first | refine blk_drewN ?_ _ | refine blk_drew ?_ | refine blk_alloc ?_ _)); exact BK228.out) hkp (fun hs_ => (fun e_ => (Kd.R_ne HO236.out BK228.out (by decide)) e_) hs_)); have n1_ := Aside0.mk (Kd.R_reok rfl hy0 (fun k_ e_ => HO236.out.1 k_ e_)); have n2_ := Aside0.mk (hb); clear BK228; clear HO236; clear HB; have BK228 := n0_; have HO236 := n1_; have HB := n2_; clear n0_ n1_ n2_; (try clear hb); (try clear hkp); (try clear hy0)) | ((with_reducible refine gate_callee (f := 36) rfl ?_); refine goesL_ (some 93) rfl rfl Tryd.func36 (by kernel_rfl) rfl #[.slice (some ⟨go62, 0, none⟩) y234.length co72, .int .i64 345, .string t229] rfl (by (try simp only [List.map_toArray, List.map_cons, List.map_nil]); first | done | rfl | (simp only [List.length_drop, List.length_take]; rfl)) ?_; (with_reducible refine (sutlerref13_put.calls kj2 (fun k_ => some k_ = (.slice (some ⟨go62, 0, none⟩) y234.length co72 : Value).ownBlock) (.slice (some ⟨go62, 0, none⟩) y234.length co72) t250 345 t229 t251 w _ ?side1 ?side2 A65.out).mono ?_); (case side1 => repeat (first | (with_reducible first | exact HB.out | apply below_alloc | apply pw_below_drewN | apply below_drew1 | refine below_set ?_ GE228.out) | exact HB.out)); (case side2 => exact Kd.R_tight rfl HO236.out); rintro e w92 ⟨rfl, hy0, hb, hkp⟩; refine ⟨_, rfl, ?_⟩; have n0_ := Aside0.mk (blk_kept (by (with_reducible repeat (first | refine blk_drewN ?_ _ | refine blk_drew ?_ | refine blk_alloc ?_ _)); exact BK228.out) hkp (fun hs_ => (fun e_ => (Kd.R_ne HO236.out BK228.out (by decide)) e_) hs_)); have n1_ := Aside0.mk (Kd.R_reok rfl hy0 (fun k_ e_ => HO236.out.1 k_ e_)); have n2_ := Aside0.mk (hb); clear BK228; clear HO236; clear HB; have BK228 := n0_; have HO236 := n1_; have HB := n2_; clear n0_ n1_ n2_; (try clear hb); (try clear hkp); (try clear hy0)) | ((with_reducible refine gate_callee (f := 13) rfl ?_); refine goesL_ (some 96) rfl rfl Tryd.func13 (by kernel_rfl) rfl #[.slice (some ⟨go62, 0, none⟩) t251.length co72] rfl (by (try simp only [List.map_toArray, List.map_cons, List.map_nil]); first | done | (rw [show t251.length = y234.length from (Kd.R_reads' HO236.out).1.symm] <;> rfl) | rfl | (simp only [List.length_drop, List.length_take]; rfl)) ?_; (with_reducible refine (sutlerref13_Sum.calls kj2 _ _ t251 t252 _ ?side1 ?side2 A66.out).mono ?_); (case side1 => repeat (first | exact (Kd.R_reads' HO236.out).2.2 | (with_reducible refine Kd.C_alloc ?_ _) | (with_reducible refine Kd.C_drewN ?_ _) | (with_reducible refine Kd.C_drew ?_))); (case side2 => rw [show t251.length = y234.length from (Kd.R_reads' HO236.out).1.symm]; exact (Kd.R_reads' HO236.out).2.1); rintro e w' ⟨rfl, ⟨nd, rfl⟩⟩; refine ⟨_, rfl, ?_⟩) | ((with_reducible refine gate_callee (f := 37) rfl ?_); refine goesL_ (some 97) rfl rfl Tryd.func37 (by kernel_rfl) rfl #[.int .i64 t252, .int .i64 6] rfl (by (try simp only [List.map_toArray, List.map_cons, List.map_nil]); first | done | rfl | (simp only [List.length_drop, List.length_take]; rfl)) ?_; (with_reducible refine (sutlerref13_octal.calls kj2 t252 6 t253 _ A67.out).mono ?_); rintro e w93 ⟨rfl, hb⟩; refine ⟨_, rfl, ?_⟩; have n0_ := Aside0.mk (Kd.R_below (by (with_reducible repeat (first | apply Kd.R_alloc | apply Kd.R_drewN | apply Kd.R_drew)); exact HO236.out) hb); have n1_ := Aside0.mk (blk_below (g := gb228) (o := .cells #[.string a0_0, .string a0_1, .int .i64 a0_2, .int .i64 a0_3, .int .u8 a0_4] 25 (0, 0)) (by (with_reducible repeat (first | refine blk_drewN ?_ _ | refine blk_drew ?_ | refine blk_alloc ?_ _)); exact BK228.out) hb); have n2_ := Aside0.mk (below_step (by repeat (first | (with_reducible first | exact HB.out | apply below_alloc | apply pw_below_drewN | apply below_drew1 | refine below_set ?_ GE228.out) | exact HB.out)) hb); clear HO236; clear BK228; clear HB; have HO236 := n0_; have BK228 := n1_; have HB := n2_; clear n0_ n1_ n2_; (try clear hb); (try clear hb2); (try clear hk); (try clear hi)) | ((with_reducible refine gate_callee (f := 36) rfl ?_); refine goesL_ (some 99) rfl rfl Tryd.func36 (by kernel_rfl) rfl #[.slice (some ⟨go62, 0, none⟩) y234.length co72, .int .i64 148, .string (t253 ++ (⟨#[0, 32]⟩ : ByteArray))] rfl (by (try simp only [List.map_toArray, List.map_cons, List.map_nil]); first | done | rfl | (simp only [List.length_drop, List.length_take]; rfl)) ?_; (with_reducible refine (sutlerref13_put.calls kj2 (fun k_ => some k_ = (.slice (some ⟨go62, 0, none⟩) y234.length co72 : Value).ownBlock) (.slice (some ⟨go62, 0, none⟩) y234.length co72) t251 148 (t253 ++ (⟨#[0, 32]⟩ : ByteArray)) t254 w _ ?side1 ?side2 A69.out).mono ?_); (case side1 => repeat (first | (with_reducible first | exact HB.out | apply below_alloc | apply pw_below_drewN | apply below_drew1 | refine below_set ?_ GE228.out) | exact HB.out)); (case side2 => exact Kd.R_tight rfl HO236.out); rintro e w94 ⟨rfl, hy0, hb, hkp⟩; refine ⟨_, rfl, ?_⟩; have n0_ := Aside0.mk (blk_kept (by (with_reducible repeat (first | refine blk_drewN ?_ _ | refine blk_drew ?_ | refine blk_alloc ?_ _)); exact BK228.out) hkp (fun hs_ => (fun e_ => (Kd.R_ne HO236.out BK228.out (by decide)) e_) hs_)); have n1_ := Aside0.mk (Kd.R_reok rfl hy0 (fun k_ e_ => HO236.out.1 k_ e_)); have n2_ := Aside0.mk (hb); clear BK228; clear HO236; clear HB; have BK228 := n0_; have HO236 := n1_; have HB := n2_; clear n0_ n1_ n2_; (try clear hb); (try clear hkp); (try clear hy0)))
              go_ret2
              exact ⟨_, by first | rfl | (simp [errW_none, errW_some] <;> rfl) | (simp [*, errW_none, errW_some] <;> rfl), by (with_reducible repeat (first | apply Kd.R_alloc | apply Kd.R_drewN | apply Kd.R_drew)); exact HO236.out, by repeat (first | (with_reducible first | exact HB.out | apply below_alloc | apply pw_below_drewN | apply below_drew1 | refine below_set ?_ GE228.out) | exact HB.out)⟩
            · rw [if_neg c68] at H
              exact absurd H (by simp)
          · rw [if_neg c61] at H
            exact absurd H (by simp)
        · rw [if_neg c49] at H
          exact absurd H (by simp)

end Go.Proofs.YteblbggmchcijaaDoor.PAll
end
