/- Texts of this claim, one behind the other: PAllx40, Pure7, Pure8, Pure9, PAllx20, Pure1, HBytes2, HRPrint, PAllx24, PAllx33. -/
import Derived.Test.YtcklpecjcebekaaGR1
import Derived.Test.YtcklpecjcebekaaGR2
import Derived.Laws.BitsLemmas
import Derived.Laws.BytesArg
import Derived.Maps.AppendAt
section
-- Written by a tool of the kit (print.py) over the laws of this seat at once; Lean checks it.
namespace Go.Proofs.Ytcklpecjcebekaa.PAll
open Go.RowKit Go.Proofs.YtcklpecjcebekaaW.PrintWords Go.Proofs.YtcklpecjcebekaaW.PrintLast Go.Proofs.YtcklpecjcebekaaW.PrintMore
attribute [local go_sem] max2_int min2_int max_two min_two max_three min_three max_four min_four   -- for this text's walks alone
set_option linter.unusedVariables false
set_option linter.unusedSimpArgs false

/-! ### sutlerref07_Parse: function 20 -/
def sutlerref07_Parse.l0 : Nat → List Int → List (S37) → Int → Option ((List (S37)) × Int)
  | 0, _, _, _ => none
  | k + 1, x0, x4, x5 => if x5 < (x0.length : Int) then (if 0 ≤ x5 then (if (wrap64 ((wrap64 ((wrap64 (x5 + 1)) + (wrap64 (rd x0 x5)))) + 2)) > (x0.length : Int) then (some (([] : List (S37)), 70)) else (if (x4.length : Int) > 256 then (some (([] : List (S37)), 70)) else ((sutlerref03_Get.f k x0 (wrap64 ((wrap64 (x5 + 1)) + (wrap64 (rd x0 x5)))) 2).bind fun bt342 => (if 0 ≤ (wrap64 (x5 + 1)) then (if (wrap64 (x5 + 1)) ≤ (wrap64 ((wrap64 (x5 + 1)) + (wrap64 (rd x0 x5)))) then (if (wrap64 ((wrap64 (x5 + 1)) + (wrap64 (rd x0 x5)))) ≤ (x0.length : Int) then (if x4.length < 5864062014805 then (sutlerref07_Parse.l0 k x0 (x4 ++ [(⟨strOfNums ((x0.take ((wrap64 ((wrap64 (x5 + 1)) + (wrap64 (rd x0 x5)))) : Int).toNat).drop ((wrap64 (x5 + 1)) : Int).toNat), bt342.1⟩ : S37)]) (wrap64 (x5 + (wrap64 ((wrap64 (1 + (wrap64 (rd x0 x5)))) + 2))))) else (none)) else (none)) else (none)) else (none))))) else (none)) else ((sutlerref07_right.f k x4).bind fun t348 => (if t348 = true then (some (x4, 0)) else (some (([] : List (S37)), 70))))
def sutlerref07_Parse.f (k : Nat) (l0 : List Int) : Option ((List (S37)) × Int) := sutlerref07_Parse.l0 k l0 (([] : List (S37))) 0
theorem sutlerref07_Parse.mono_l : ∀ k, (∀ y0 y1 y2, LeO (sutlerref07_Parse.l0 k y0 y1 y2) (sutlerref07_Parse.l0 (k + 1) y0 y1 y2))
  | 0 => fun _ _ _ r h => by simp [sutlerref07_Parse.l0] at h
  | k + 1 => by
    have ih0 := sutlerref07_Parse.mono_l k
    · intro y0 y1 y2
      unfold sutlerref07_Parse.l0
      repeat' first
      | (with_reducible exact ih0 _ _ _)
      | (with_reducible exact sutlerref03_Get.mono _ _ _ _)
      | (with_reducible exact sutlerref07_right.mono _ _)
      | (with_reducible exact LeO.refl _)
      | (with_reducible exact LeO.none _)
      | (with_reducible refine LeO.ite ?_ ?_)
      | (with_reducible refine LeO.bind ?_ (fun _ => ?_))
      | exact ih0 _ _ _
      | exact sutlerref03_Get.mono _ _ _ _
      | exact sutlerref07_right.mono _ _
      | exact LeO.none _
      | refine LeO.ite ?_ ?_
      | refine LeO.bind ?_ (fun _ => ?_)
theorem sutlerref07_Parse.mono : ∀ a0 k, LeO (sutlerref07_Parse.f k a0) (sutlerref07_Parse.f (k + 1) a0) := by
  intro a0 k
  have ih0 := sutlerref07_Parse.mono_l k
  unfold sutlerref07_Parse.f
  repeat' first
      | (with_reducible exact ih0 _ _ _)
      | (with_reducible exact sutlerref03_Get.mono _ _ _ _)
      | (with_reducible exact sutlerref07_right.mono _ _)
      | (with_reducible exact LeO.refl _)
      | (with_reducible exact LeO.none _)
      | (with_reducible refine LeO.ite ?_ ?_)
      | (with_reducible refine LeO.bind ?_ (fun _ => ?_))
      | exact ih0 _ _ _
      | exact sutlerref03_Get.mono _ _ _ _
      | exact sutlerref07_right.mono _ _
      | exact LeO.none _
      | refine LeO.ite ?_ ?_
      | refine LeO.bind ?_ (fun _ => ?_)
set_option maxHeartbeats 8000000 in
set_option maxRecDepth 100000 in
theorem sutlerref07_Parse.calls (k : Nat) (A0 : Option Addr) (c0 : Nat) (l0 : List Int) (r1 : List (S37)) (r2 : Int) (w : World) (hr0 : Kd.C (Kd.int .u8) w A0 l0.length l0) (hc0 : l0.length ≤ c0) (h : sutlerref07_Parse.f k l0 = some (r1, r2)) :
    Calls Try.prog 20 #[.slice A0 l0.length c0] w fun e w' => ∃ v0_ : Value, e = .returned (.tuple #[v0_, .int .i64 r2]) ∧ Kd.R k37 37 w' w.heap.size (fun _ => True) v0_ r1 ∧ Below w.heap.size w w' := by
  have hu37 := Try.underlying37
  have HR0 := Aside0.mk hr0
  have HC0 := Aside0.mk hc0
  clear hr0 hc0
  have HB := Aside0.mk (Below.refl w.heap.size w)
  have H : (sutlerref07_Parse.l0 k l0 (([] : List (S37))) 0) = some (r1, r2) := h
  clear h
  obtain ⟨y338, hy338⟩ : ∃ y_ : List (S37), y_ = (([] : List (S37))) := ⟨_, rfl⟩
  replace H : (sutlerref07_Parse.l0 k l0 y338 0) = some (r1, r2) := by first | (rw [hy338]; with_reducible exact H) | (have H2_ := (Option.bind_some _ _).symm.trans H; rw [hy338]; with_reducible exact H2_) | (have H2_ := (Option.bind_some _ _).symm.trans H; with_reducible exact H2_) | with_reducible exact H | (rw [hy338]; exact H) | exact H
  have Ny338 := Aside0.mk hy338
  clear hy338
  have H' := Aside0.mk H
  clear H
  go_enter Try.func20, Try.ntmps20
  go_wp2_with (first | ((with_reducible refine gate_dst (N := 9) rfl ?_); (try (refine gate_guard (by rfl) ?_; dsimp only)); refine Kd.R_lit k37 _ 37 ?hg (N := 9) ?hd (xs := ([] : List (S37))) (inner := []) (ok := fun _ => True) (okp := fun _ => True) ?hr ?hp (fun _ hk => hk) trivial (Below.refl _ _) (Nat.le_refl _) (by simp) ?_; (case hd => rfl); (case hg => rfl); (case hr => first | (go_simp; done) | (go_simp; rfl)); (case hp => exact (Reps.none _ _)); intro v339 w2 ho3 hb hg_ hnew_; clear hg_ hnew_; (first | rw [← Ny338.out] at ho3 | (simp only [Int.reduceToNat] at ho3; rw [← Ny338.out] at ho3)); have n0_ := Aside0.mk (Kd.R_lower ho3 (below_size (by repeat (first | (with_reducible first | exact HB.out | apply below_alloc | apply pw_below_drewN | apply below_drew1) | exact HB.out)))); have n1_ := Aside0.mk (below_step (by repeat (first | (with_reducible first | exact HB.out | apply below_alloc | apply pw_below_drewN | apply below_drew1) | exact HB.out)) hb); clear HB; have HO340 := n0_; have HB := n1_; clear n0_ n1_; clear hb ho3))
  go_loopg [4, 5] k (fun kq v4 v5 w' => ∃ (x4_1 : List (S37)) (x5_1 : Int), v5 = .int .i64 x5_1 ∧ Aside0 (sutlerref07_Parse.l0 kq l0 x4_1 x5_1 = some (r1, r2)) ∧ Aside0 (kq ≤ k) ∧ Aside0 (Kd.R k37 37 w' w.heap.size (fun _ => True) v4 x4_1) ∧ Aside0 (Below w.heap.size w w'))
  case atStart => exact ⟨(y338), (0), (by first | rfl | (simp; done) | (simp [*]; done)), H', ⟨Nat.le_refl _⟩, ⟨by (with_reducible repeat (first | apply Kd.R_alloc | apply Kd.R_drewN | apply Kd.R_drew)); exact HO340.out⟩, ⟨by repeat (first | (with_reducible first | exact HB.out | apply below_alloc | apply pw_below_drewN | apply below_drew1) | exact HB.out)⟩⟩
  case round =>
    clear H'
    try clear c2
    try clear p2
    obtain ⟨x4_1, x5_1, rfl, HA, HK1, HO_4, HB⟩ := hrel
    cases gk with
    | zero => exact absurd HA.out (by simp [sutlerref07_Parse.l0])
    | succ k1 =>
      have H := HA.out
      clear HA
      simp only [sutlerref07_Parse.l0] at H
      by_cases c4 : x5_1 < (l0.length : Int)
      · rw [if_pos c4] at H
        have c4b0 : decide (x5_1 < (l0.length : Int)) = true := decide_eq_true c4
        clear c4
        by_cases c5 : 0 ≤ x5_1
        · rw [if_pos c5] at H
          have c5b0 : decide (0 ≤ x5_1) = true := decide_eq_true c5
          clear c5
          by_cases c6 : (wrap64 ((wrap64 ((wrap64 (x5_1 + 1)) + (wrap64 (rd l0 x5_1)))) + 2)) > (l0.length : Int)
          · rw [if_pos c6] at H
            have c6b0 : decide ((l0.length : Int) < (wrap64 ((wrap64 ((wrap64 (x5_1 + 1)) + (wrap64 (rd l0 x5_1)))) + 2))) = true := decide_eq_true c6
            clear c6
            simp only [Option.some.injEq, Prod.mk.injEq] at H
            obtain ⟨rfl, rfl⟩ := H
            have p341 : 0 ≤ (x5_1 : Int) := of_decide_eq_true (by first | (with_reducible assumption) | assumption)
            have q341 : x5_1 < (l0.length : Int) := of_decide_eq_true (by first | (with_reducible assumption) | assumption)
            obtain ⟨ad341, e341, hx341_0⟩ := Kd.at_int HR0.out x5_1 p341 q341
            cases e341
            replace hx341_0 := (HB.out.cell (World.block_lt_of_cell? w _ hx341_0)).trans hx341_0
            replace p341 := eq_true p341
            replace q341 := eq_true q341
            go_wp2
            go_ret2
            exact ⟨_, by first | rfl | (simp [errW_none, errW_some] <;> rfl) | (simp [*, errW_none, errW_some] <;> rfl), by first | exact Kd.R_nil _ _ _ _ _ | exact Kd.N_nil _ _ _ _ _ | exact Kd.V_nil _ _ _ _ _ | exact Kd.Q_nil _ _ _ _ _ | exact Kd.S_nil _ _ _ _ _, by repeat (first | (with_reducible first | exact HB.out | apply below_alloc | apply pw_below_drewN | apply below_drew1) | exact HB.out)⟩
          · rw [if_neg c6] at H
            have c6b0 : decide ((l0.length : Int) < (wrap64 ((wrap64 ((wrap64 (x5_1 + 1)) + (wrap64 (rd l0 x5_1)))) + 2))) = false := decide_eq_false c6
            clear c6
            by_cases c7 : (x4_1.length : Int) > 256
            · rw [if_pos c7] at H
              have c7b0 : decide (256 < (x4_1.length : Int)) = true := decide_eq_true c7
              have c7b1 : decide (256 < x4_1.length) = true := decide_eq_true (by omega)
              clear c7
              simp only [Option.some.injEq, Prod.mk.injEq] at H
              obtain ⟨rfl, rfl⟩ := H
              have p341 : 0 ≤ (x5_1 : Int) := of_decide_eq_true (by first | (with_reducible assumption) | assumption)
              have q341 : x5_1 < (l0.length : Int) := of_decide_eq_true (by first | (with_reducible assumption) | assumption)
              obtain ⟨ad341, e341, hx341_0⟩ := Kd.at_int HR0.out x5_1 p341 q341
              cases e341
              replace hx341_0 := (HB.out.cell (World.block_lt_of_cell? w _ hx341_0)).trans hx341_0
              replace p341 := eq_true p341
              replace q341 := eq_true q341
              obtain ⟨Ao8, co8, eo8⟩ := Kd.R_slice HO_4.out
              subst eo8
              go_wp2
              go_ret2
              exact ⟨_, by first | rfl | (simp [errW_none, errW_some] <;> rfl) | (simp [*, errW_none, errW_some] <;> rfl), by first | exact Kd.R_nil _ _ _ _ _ | exact Kd.N_nil _ _ _ _ _ | exact Kd.V_nil _ _ _ _ _ | exact Kd.Q_nil _ _ _ _ _ | exact Kd.S_nil _ _ _ _ _, by repeat (first | (with_reducible first | exact HB.out | apply below_alloc | apply pw_below_drewN | apply below_drew1) | exact HB.out)⟩
            · rw [if_neg c7] at H
              have c7b0 : decide (256 < (x4_1.length : Int)) = false := decide_eq_false c7
              have c7b1 : decide (256 < x4_1.length) = false := decide_eq_false (by omega)
              clear c7
              replace H := Option.bind_eq_some_iff.mp H
              obtain ⟨⟨t342, t343⟩, A90, H⟩ := H
              replace H : (if 0 ≤ (wrap64 (x5_1 + 1)) then (if (wrap64 (x5_1 + 1)) ≤ (wrap64 ((wrap64 (x5_1 + 1)) + (wrap64 (rd l0 x5_1)))) then (if (wrap64 ((wrap64 (x5_1 + 1)) + (wrap64 (rd l0 x5_1)))) ≤ (l0.length : Int) then (if x4_1.length < 5864062014805 then (sutlerref07_Parse.l0 k1 l0 (x4_1 ++ [(⟨strOfNums ((l0.take ((wrap64 ((wrap64 (x5_1 + 1)) + (wrap64 (rd l0 x5_1)))) : Int).toNat).drop ((wrap64 (x5_1 + 1)) : Int).toNat), t342⟩ : S37)]) (wrap64 (x5_1 + (wrap64 ((wrap64 (1 + (wrap64 (rd l0 x5_1)))) + 2))))) else (none)) else (none)) else (none)) else (none)) = some (r1, r2) := H
              have A9 := Aside0.mk A90
              clear A90
              obtain ⟨ji10, hji10⟩ : ∃ j_ : Int, (wrap64 (x5_1 + 1)) = j_ := ⟨_, rfl⟩
              replace H : (if 0 ≤ (ji10) then (if (ji10) ≤ (wrap64 ((ji10) + (wrap64 (rd l0 x5_1)))) then (if (wrap64 ((ji10) + (wrap64 (rd l0 x5_1)))) ≤ (l0.length : Int) then (if x4_1.length < 5864062014805 then (sutlerref07_Parse.l0 k1 l0 (x4_1 ++ [(⟨strOfNums ((l0.take ((wrap64 ((ji10) + (wrap64 (rd l0 x5_1)))) : Int).toNat).drop ((ji10) : Int).toNat), t342⟩ : S37)]) (wrap64 (x5_1 + (wrap64 ((wrap64 (1 + (wrap64 (rd l0 x5_1)))) + 2))))) else (none)) else (none)) else (none)) else (none)) = some (r1, r2) := by first | (rw [hji10] at H; exact H) | (simp only [hji10] at H ⊢; exact H)
              (try rw [hji10] at c6b0)
              (try rw [hji10] at A9)
              have hji10w : (IntKind.i64.wrap (x5_1 + 1)) = ji10 := (i64_w _).trans hji10
              by_cases c11 : 0 ≤ (ji10)
              · rw [if_pos c11] at H
                have c11b0 := eq_true c11
                have c11b1 : decide (0 ≤ (ji10)) = true := decide_eq_true c11
                clear c11
                by_cases c12 : (ji10) ≤ (wrap64 ((ji10) + (wrap64 (rd l0 x5_1))))
                · rw [if_pos c12] at H
                  have c12b0 := eq_true c12
                  have c12b1 : decide ((ji10) ≤ (wrap64 ((ji10) + (wrap64 (rd l0 x5_1))))) = true := decide_eq_true c12
                  by_cases c13 : (wrap64 ((ji10) + (wrap64 (rd l0 x5_1)))) ≤ (l0.length : Int)
                  · rw [if_pos c13] at H
                    have c13b0 := eq_true c13
                    have c13b1 : decide ((wrap64 ((ji10) + (wrap64 (rd l0 x5_1)))) ≤ (l0.length : Int)) = true := decide_eq_true c13
                    by_cases c14 : x4_1.length < 5864062014805
                    · rw [if_pos c14] at H
                      have LMc14 := Aside0.mk c14
                      clear c14
                      obtain ⟨y345, hy345⟩ : ∃ y_ : List (S37), y_ = (x4_1 ++ [(⟨strOfNums ((l0.take ((wrap64 ((ji10) + (wrap64 (rd l0 x5_1)))) : Int).toNat).drop ((ji10) : Int).toNat), t342⟩ : S37)]) := ⟨_, rfl⟩
                      replace H : (sutlerref07_Parse.l0 k1 l0 y345 (wrap64 (x5_1 + (wrap64 ((wrap64 (1 + (wrap64 (rd l0 x5_1)))) + 2))))) = some (r1, r2) := by first | (rw [hy345]; with_reducible exact H) | (have H2_ := (Option.bind_some _ _).symm.trans H; rw [hy345]; with_reducible exact H2_) | (have H2_ := (Option.bind_some _ _).symm.trans H; with_reducible exact H2_) | with_reducible exact H | (rw [hy345]; exact H) | exact H
                      have Ny345 := Aside0.mk hy345
                      clear hy345
                      have H' := Aside0.mk H
                      clear H
                      have p341 : 0 ≤ (x5_1 : Int) := of_decide_eq_true (by first | (with_reducible assumption) | assumption)
                      have q341 : x5_1 < (l0.length : Int) := of_decide_eq_true (by first | (with_reducible assumption) | assumption)
                      obtain ⟨ad341, e341, hx341_0⟩ := Kd.at_int HR0.out x5_1 p341 q341
                      cases e341
                      replace hx341_0 := (HB.out.cell (World.block_lt_of_cell? w _ hx341_0)).trans hx341_0
                      replace p341 := eq_true p341
                      replace q341 := eq_true q341
                      obtain ⟨Ao15, co15, eo15⟩ := Kd.R_slice HO_4.out
                      subst eo15
                      go_wp2_with (first | ((with_reducible refine gate_callee (f := 35) rfl ?_); refine goesL_ (some 38) rfl rfl Try.func35 (by kernel_rfl) rfl #[.slice (some ad341) l0.length c0, .int .i64 (wrap64 ((ji10) + (wrap64 (rd l0 x5_1)))), .int .i64 2] rfl (by (try simp only [List.map_toArray, List.map_cons, List.map_nil]); first | done | (simp only [hji10]; rfl) | rfl | (simp only [List.length_drop, List.length_take]; rfl)) ?_; (with_reducible refine (sutlerref03_Get.calls k1 _ _ l0 (wrap64 ((ji10) + (wrap64 (rd l0 x5_1)))) 2 t342 t343 _ ?side1 ?side2 A9.out).mono ?_); (case side1 => repeat (first | exact (Kd.C_below HR0.out HB.out) | (with_reducible refine Kd.C_alloc ?_ _) | (with_reducible refine Kd.C_drewN ?_ _) | (with_reducible refine Kd.C_drew ?_))); (case side2 => exact HC0.out); rintro e w' ⟨rfl, ⟨nd, rfl⟩⟩; refine ⟨_, rfl, ?_⟩; obtain ⟨i016, hi016, _, hsz16, _⟩ := info_parts info5; obtain ⟨A16, hcut16, hA16, hC16⟩ := print_mid_of (P := Try.prog) (Value.int .u8) 0 24 5 .i64 .i64 Try.underlying24 hi016 hsz16 (some ad341) c0 l0 (ji10) (wrap64 ((ji10) + (wrap64 (rd l0 x5_1)))) (of_decide_eq_true (by first | (with_reducible assumption) | assumption)) (by first | omega | exact of_decide_eq_true (by first | (with_reducible assumption) | assumption)) (of_decide_eq_true (by first | (with_reducible assumption) | assumption)) HC0.out; have HR344 := Aside0.mk (Kd.C_of_reads (h1 := fun _ => rfl) (hA16 _ (Kd.reads_of_C HR0.out))); have HC344 := Aside0.mk hC16; clear hA16 hC16 hi016 hsz16; have hcv17 := Kd.C_string (P := Try.prog) (A := A16) (c := (c0 - (ji10).toNat)) Try.underlying24 Try.underlying5 Try.underlying9 (Kd.C_drewN (Kd.C_below HR344.out HB.out) nd); rw [List.length_drop, List.length_take, Nat.min_eq_left (by omega)] at hcv17) | ((with_reducible refine gate_builtin (b := .append) (xs := #[.tmp 41, .tmp 53]) rfl ?_); (try (refine gate_guard (by rfl) ?_; dsimp only)); at_builtin; refine Kd.R_append k37 (w0 := w) w.heap.size rfl (.tmp 41) (.tmp 53) 22 37 (.agg #[(.string ⟨#[]⟩), (.int .i64 0)]) 24 rfl Try.underlying22 info37 rfl (by decide) (by omega) (.slice Ao15 x4_1.length co15) x4_1 (⟨strOfNums ((l0.take ((wrap64 ((ji10) + (wrap64 (rd l0 x5_1)))) : Int).toNat).drop ((ji10) : Int).toNat), t342⟩ : S37) [.string (strOfNums ((l0.take ((wrap64 ((ji10) + (wrap64 (rd l0 x5_1)))) : Int).toNat).drop ((ji10) : Int).toNat)), .int .i64 t342] (fun _ => True) (fun _ => False) rfl rfl ?aP (fun _ hk => hk.elim) ?aF ?aO ?aB ?aS ?aL ?_; (case aP => exact k37_mkM _ _ _ (⟨strOfNums ((l0.take ((wrap64 ((ji10) + (wrap64 (rd l0 x5_1)))) : Int).toNat).drop ((ji10) : Int).toNat), t342⟩ : S37)); (case aB => exact (by repeat (first | (with_reducible first | exact HB.out | apply below_alloc | apply pw_below_drewN | apply below_drew1) | exact HB.out))); (case aF => exact (fun _ _ => trivial)); (case aO => exact (by (with_reducible repeat (first | apply Kd.R_alloc | apply Kd.R_drewN | apply Kd.R_drew)); exact HO_4.out)); (case aS => exact (below_size (by repeat (first | (with_reducible first | exact HB.out | apply below_alloc | apply pw_below_drewN | apply below_drew1) | exact HB.out)))); (case aL => have := LMc14.out; omega); intro v346 w18 ho hb hg hat; rw [← Ny345.out] at ho; have n0_ := Aside0.mk (hb); have n1_ := Aside0.mk (ho); clear HB; clear HO_4; have HB := n0_; have HO347 := n1_; clear n0_ n1_; clear ho hb hg hat))
                      go_roundg k1
                      case measure => have := HK1.out; omega
                      case rel => exact ⟨(y345), (wrap64 (x5_1 + (wrap64 ((wrap64 (1 + (wrap64 (rd l0 x5_1)))) + 2)))), (by first | rfl | (simp; done) | (simp [*]; done)), H', ⟨by have := HK1.out; omega⟩, ⟨by (with_reducible repeat (first | apply Kd.R_alloc | apply Kd.R_drewN | apply Kd.R_drew)); exact HO347.out⟩, ⟨by repeat (first | (with_reducible first | exact HB.out | apply below_alloc | apply pw_below_drewN | apply below_drew1) | exact HB.out)⟩⟩
                    · rw [if_neg c14] at H
                      exact absurd H (by simp)
                  · rw [if_neg c13] at H
                    exact absurd H (by simp)
                · rw [if_neg c12] at H
                  exact absurd H (by simp)
              · rw [if_neg c11] at H
                exact absurd H (by simp)
        · rw [if_neg c5] at H
          exact absurd H (by simp)
      · rw [if_neg c4] at H
        have c4b0 : decide (x5_1 < (l0.length : Int)) = false := decide_eq_false c4
        clear c4
        replace H := Option.bind_eq_some_iff.mp H
        obtain ⟨t348, A190, H⟩ := H
        replace H : (if t348 = true then (some (x4_1, 0)) else (some (([] : List (S37)), 70))) = some (r1, r2) := H
        have A19 := Aside0.mk A190
        clear A190
        by_cases c20 : t348 = true
        · subst c20
          have H1 : (some (x4_1, 0)) = some (r1, r2) := by rw [if_pos rfl] at H; exact H
          clear H
          have H := H1
          clear H1
          simp only [Option.some.injEq, Prod.mk.injEq] at H
          obtain ⟨rfl, rfl⟩ := H
          obtain ⟨Ao21, co21, eo21⟩ := Kd.R_slice HO_4.out
          subst eo21
          go_wp2_with (first | ((with_reducible refine gate_callee (f := 36) rfl ?_); refine goesL_ (some 61) rfl rfl Try.func36 (by kernel_rfl) rfl #[.slice Ao21 x4_1.length co21] rfl (by (try simp only [List.map_toArray, List.map_cons, List.map_nil]); first | done | rfl | (simp only [List.length_drop, List.length_take]; rfl)) ?_; (with_reducible refine (sutlerref07_right.calls k1 _ _ x4_1 true _ ?side1 ?side2 A19.out).mono ?_); (case side1 => repeat (first | exact (Kd.R_reads' HO_4.out).2.2 | (with_reducible refine Kd.C_alloc ?_ _) | (with_reducible refine Kd.C_drewN ?_ _) | (with_reducible refine Kd.C_drew ?_))); (case side2 => exact (Kd.R_reads' HO_4.out).2.1); rintro e w22 ⟨rfl, hb⟩; refine ⟨_, rfl, ?_⟩; have n0_ := Aside0.mk (Kd.R_below (by (with_reducible repeat (first | apply Kd.R_alloc | apply Kd.R_drewN | apply Kd.R_drew)); exact HO_4.out) hb); have n1_ := Aside0.mk (below_step (by repeat (first | (with_reducible first | exact HB.out | apply below_alloc | apply pw_below_drewN | apply below_drew1) | exact HB.out)) hb); clear HO_4; clear HB; have HO_4 := n0_; have HB := n1_; clear n0_ n1_; (try clear hb); (try clear hb2); (try clear hk); (try clear hi)))
          go_ret2
          exact ⟨_, by first | rfl | (simp [errW_none, errW_some] <;> rfl) | (simp [*, errW_none, errW_some] <;> rfl), by (with_reducible repeat (first | apply Kd.R_alloc | apply Kd.R_drewN | apply Kd.R_drew)); exact HO_4.out, by repeat (first | (with_reducible first | exact HB.out | apply below_alloc | apply pw_below_drewN | apply below_drew1) | exact HB.out)⟩
        · replace c20 := Bool.eq_false_iff.mpr c20
          subst c20
          have H1 : (some (([] : List (S37)), 70)) = some (r1, r2) := by rw [if_neg (show ¬ (false = true) by decide)] at H; exact H
          clear H
          have H := H1
          clear H1
          simp only [Option.some.injEq, Prod.mk.injEq] at H
          obtain ⟨rfl, rfl⟩ := H
          obtain ⟨Ao23, co23, eo23⟩ := Kd.R_slice HO_4.out
          subst eo23
          go_wp2_with (first | ((with_reducible refine gate_callee (f := 36) rfl ?_); refine goesL_ (some 61) rfl rfl Try.func36 (by kernel_rfl) rfl #[.slice Ao23 x4_1.length co23] rfl (by (try simp only [List.map_toArray, List.map_cons, List.map_nil]); first | done | rfl | (simp only [List.length_drop, List.length_take]; rfl)) ?_; (with_reducible refine (sutlerref07_right.calls k1 _ _ x4_1 false _ ?side1 ?side2 A19.out).mono ?_); (case side1 => repeat (first | exact (Kd.R_reads' HO_4.out).2.2 | (with_reducible refine Kd.C_alloc ?_ _) | (with_reducible refine Kd.C_drewN ?_ _) | (with_reducible refine Kd.C_drew ?_))); (case side2 => exact (Kd.R_reads' HO_4.out).2.1); rintro e w24 ⟨rfl, hb⟩; refine ⟨_, rfl, ?_⟩; have n0_ := Aside0.mk (Kd.R_below (by (with_reducible repeat (first | apply Kd.R_alloc | apply Kd.R_drewN | apply Kd.R_drew)); exact HO_4.out) hb); have n1_ := Aside0.mk (below_step (by repeat (first | (with_reducible first | exact HB.out | apply below_alloc | apply pw_below_drewN | apply below_drew1) | exact HB.out)) hb); clear HO_4; clear HB; have HO_4 := n0_; have HB := n1_; clear n0_ n1_; (try clear hb); (try clear hb2); (try clear hk); (try clear hi)))
          go_ret2
          exact ⟨_, by first | rfl | (simp [errW_none, errW_some] <;> rfl) | (simp [*, errW_none, errW_some] <;> rfl), by first | exact Kd.R_nil _ _ _ _ _ | exact Kd.N_nil _ _ _ _ _ | exact Kd.V_nil _ _ _ _ _ | exact Kd.Q_nil _ _ _ _ _ | exact Kd.S_nil _ _ _ _ _, by repeat (first | (with_reducible first | exact HB.out | apply below_alloc | apply pw_below_drewN | apply below_drew1) | exact HB.out)⟩

end Go.Proofs.Ytcklpecjcebekaa.PAll
end
section
/- Bytes read as a directory: the program and the reference come to the same, and what they tell is what was told (plain Lean). -/
namespace Go.Proofs.Ytcklpecjcebekaa.PAll
open Go.RowKit Go.Lib Go.Proofs.YtcklpecjcebekaaW.PrintWords Go.Proofs.YtcklpecjcebekaaW.PrintLast Go.Proofs.YtcklpecjcebekaaW.PrintMore Go.Proofs.Ytcklpecjcebekaa Go.Proofs.Ytcklpecjcebekaa.Sp
set_option linter.unusedVariables false
set_option linter.unusedSimpArgs false

def AreBytes (x : List Int) : Prop := ∀ b ∈ x, 0 ≤ b ∧ b ≤ 255
theorem rd_elem (x : List Int) (i : Nat) (h : i < x.length) : rd x (i : Int) = x[i] := by simp [rd, List.getD_eq_getElem?_getD, h]
theorem rd_byte {x : List Int} (hx : AreBytes x) (i : Int) : 0 ≤ rd x i ∧ rd x i ≤ 255 := by
  unfold rd
  rw [List.getD_eq_getElem?_getD]
  cases h : x[i.toNat]? with
  | none => simp
  | some b => exact hx b (List.mem_of_getElem? h)
theorem or_comm (k : IntKind) (x y : Int) : Go.bits .or k x y = Go.bits .or k y x := by
  simp only [Go.bits, BitVec.or_comm]
theorem wraps_u32 (n : Int) (h₀ : 0 ≤ n) (h₁ : n < 2 ^ 32) : IntKind.u32.wrap n = n := by rw [IntKind.wrap_u32]; omega
theorem or_two (lo hi : Int) (h0 : 0 ≤ lo ∧ lo ≤ 255) (h1 : 0 ≤ hi ∧ hi ≤ 255) : Go.bits .or .u32 (Go.bits .or .u32 0 (shl .u32 (lo % 4294967296) 0)) (shl .u32 (hi % 4294967296) 8) = lo + 256 * hi := by
  have e1 : shl .u32 (lo % 4294967296) 0 = lo := by
    unfold shl
    have : min (0 : Int).toNat IntKind.u32.bits = 0 := by decide
    rw [this, wraps_u32 _ (by omega) (by omega)]; omega
  have e2 : shl .u32 (hi % 4294967296) 8 = 256 * hi := by
    unfold shl
    have : min (8 : Int).toNat IntKind.u32.bits = 8 := by decide
    rw [this, wraps_u32 _ (by omega) (by omega)]; omega
  have e3 : Go.bits .or .u32 0 lo = lo := by
    rw [bits_join .u32 32 (by decide) wraps_u32 8 0 lo (by omega) (by omega) (by omega) (by omega) (by omega) (by omega)]; omega
  rw [e1, e2, e3, or_comm, bits_join .u32 32 (by decide) wraps_u32 8 (256 * hi) lo (by omega) (by omega) (by omega) (by omega) (by omega) (by omega)]
  omega

/-- A number of two bytes, as it is got. -/
def getTwo (x : List Int) (at_ : Int) : Int × Int := if at_ + 2 ≤ (x.length : Int) then (rd x at_ + 256 * rd x (at_ + 1), 0) else (0, 2)
theorem there_f (x : List Int) (hx : x.length ≤ 140737488355328) (at_ : Int) (h0 : 0 ≤ at_) (h1 : at_ ≤ 140737488355328 + 1000) : bits_there.f x at_ 2 = some (decide (at_ + 2 ≤ (x.length : Int))) := by
  unfold bits_there.f
  rw [if_pos (by omega), if_pos (by omega), if_pos (by omega)]
  by_cases h : at_ ≤ (x.length : Int)
  · rw [if_pos h]
    have : wrap64 ((x.length : Int) - at_) = (x.length : Int) - at_ := by unfold wrap64; omega
    rw [this]
    congr 1
    exact decide_eq_decide.2 (by omega)
  · rw [if_neg h, decide_eq_false (by omega)]
theorem place_f (x : List Int) (hx : x.length ≤ 140737488355328) (at_ : Int) (h0 : 0 ≤ at_) (h1 : at_ ≤ 140737488355328 + 1000) : sutlerref03_place.f x at_ 2 = some (decide (at_ + 2 ≤ (x.length : Int))) := there_f x hx at_ h0 h1
theorem get_dirs (x : List Int) (hb : AreBytes x) (hx : x.length ≤ 140737488355328) (at_ : Int) (h0 : 0 ≤ at_) (h1 : at_ ≤ 140737488355328 + 1000) : Ev (fun k => bits_Get.f k x at_ 2) (getTwo x at_) := by
  simp only [bits_Get.f, there_f x hx at_ h0 h1, Option.bind_some]
  unfold getTwo
  by_cases h : at_ + 2 ≤ (x.length : Int)
  · rw [if_pos h, decide_eq_true h]
    simp only [if_true]
    have w0 : wrap64 (at_ + 0) = at_ := by unfold wrap64; omega
    have w1 : wrap64 (at_ + 1) = at_ + 1 := by unfold wrap64; omega
    have v0 : wrap64 (8 * 0) = 0 := by unfold wrap64; omega
    have v1 : wrap64 (8 * 1) = 8 := by unfold wrap64; omega
    have u0 : wrap64 (0 + 1) = 1 := by unfold wrap64; omega
    have u1 : wrap64 (1 + 1) = 2 := by unfold wrap64; omega
    have hor := or_two (rd x at_) (rd x (at_ + 1)) (rd_byte hb _) (rd_byte hb _)
    have b0 := rd_byte hb at_
    have b1 := rd_byte hb (at_ + 1)
    refine Ev.round (fun k => bits_Get.l0 k x at_ (Go.bits .or .u32 0 (shl .u32 ((rd x at_) % 4294967296) 0)) 2 1) (fun k => ?_) ?_
    · simp only [bits_Get.l0]
      rw [if_pos (by omega), w0, if_pos (by omega), if_pos (by omega), v0, if_pos (by omega), u0]
    refine Ev.round (fun k => bits_Get.l0 k x at_ (rd x at_ + 256 * rd x (at_ + 1)) 2 2) (fun k => ?_) ?_
    · simp only [bits_Get.l0]
      rw [if_pos (by omega), w1, if_pos (by omega), if_pos (by omega), v1, if_pos (by omega), u1, hor]
    refine Ev.round (fun k => some (rd x at_ + 256 * rd x (at_ + 1), 0)) (fun k => ?_) (Ev.now _)
    simp only [bits_Get.l0]
    rw [if_neg (by omega)]
    have : wrap64 (rd x at_ + 256 * rd x (at_ + 1)) = rd x at_ + 256 * rd x (at_ + 1) := by unfold wrap64; omega
    rw [this]
  · rw [if_neg h, decide_eq_false h]
    simpa using Ev.now _
theorem get_ref (x : List Int) (hb : AreBytes x) (hx : x.length ≤ 140737488355328) (at_ : Int) (h0 : 0 ≤ at_) (h1 : at_ ≤ 140737488355328 + 1000) : Ev (fun k => sutlerref03_Get.f k x at_ 2) (getTwo x at_) := by
  simp only [sutlerref03_Get.f, place_f x hx at_ h0 h1, Option.bind_some]
  unfold getTwo
  by_cases h : at_ + 2 ≤ (x.length : Int)
  · rw [if_pos h, decide_eq_true h]
    simp only [if_true]
    have w0 : wrap64 (at_ + 0) = at_ := by unfold wrap64; omega
    have w1 : wrap64 (at_ + 1) = at_ + 1 := by unfold wrap64; omega
    have u2 : wrap64 (2 - 1) = 1 := by unfold wrap64; omega
    have u1 : wrap64 (1 - 1) = 0 := by unfold wrap64; omega
    have u0 : wrap64 (0 - 1) = -1 := by unfold wrap64; omega
    have b0 := rd_byte hb at_
    have b1 := rd_byte hb (at_ + 1)
    have n1 : wrap64 (wrap64 (0 * 256) + wrap64 (rd x (at_ + 1))) = rd x (at_ + 1) := by unfold wrap64; omega
    have n0 : wrap64 (wrap64 (rd x (at_ + 1) * 256) + wrap64 (rd x at_)) = rd x at_ + 256 * rd x (at_ + 1) := by unfold wrap64; omega
    rw [u2]
    refine Ev.round (fun k => sutlerref03_Get.l0 k x at_ (rd x (at_ + 1)) 0) (fun k => ?_) ?_
    · simp only [sutlerref03_Get.l0]
      rw [if_pos (by omega), w1, if_pos (by omega), if_pos (by omega), n1, u1]
    refine Ev.round (fun k => sutlerref03_Get.l0 k x at_ (rd x at_ + 256 * rd x (at_ + 1)) (-1)) (fun k => ?_) ?_
    · simp only [sutlerref03_Get.l0]
      rw [if_pos (by omega), w0, if_pos (by omega), if_pos (by omega), n0, u0]
    refine Ev.round (fun k => some (rd x at_ + 256 * rd x (at_ + 1), 0)) (fun k => ?_) (Ev.now _)
    simp only [sutlerref03_Get.l0]
    rw [if_neg (by omega)]
  · rw [if_neg h, decide_eq_false h]
    simpa using Ev.now _
end Go.Proofs.Ytcklpecjcebekaa.PAll
end
section
/- Bytes read as a directory: what the program and the reference come to (plain Lean). -/
namespace Go.Proofs.Ytcklpecjcebekaa.PAll
open Go.RowKit Go.Lib Go.Proofs.YtcklpecjcebekaaW.PrintWords Go.Proofs.YtcklpecjcebekaaW.PrintLast Go.Proofs.YtcklpecjcebekaaW.PrintMore Go.Proofs.Ytcklpecjcebekaa Go.Proofs.Ytcklpecjcebekaa.Sp
set_option linter.unusedVariables false
set_option linter.unusedSimpArgs false

theorem str_bytes (z : List Int) (hz : AreBytes z) : YtcklpecjcebekaaW.PrintWords.bytesOf (strOfNums z) = z := by
  unfold YtcklpecjcebekaaW.PrintWords.bytesOf
  rw [strOfNums_data, List.map_map]
  refine (List.map_congr_left (g := id) fun b hb => ?_).trans (List.map_id z)
  obtain ⟨h0, h1⟩ := hz b hb
  simp only [Function.comp, UInt8.toNat_ofNat', id]
  omega
theorem bytesOf_bytes (s : ByteArray) : AreBytes (YtcklpecjcebekaaW.PrintWords.bytesOf s) := by
  intro b hb
  unfold YtcklpecjcebekaaW.PrintWords.bytesOf at hb
  obtain ⟨c, _, rfl⟩ := List.mem_map.1 hb
  have := c.toNat_lt
  omega
theorem bytesOf_inj {s t : ByteArray} (h : YtcklpecjcebekaaW.PrintWords.bytesOf s = YtcklpecjcebekaaW.PrintWords.bytesOf t) : s = t := by
  unfold YtcklpecjcebekaaW.PrintWords.bytesOf at h
  have h2 : s.data.toList = t.data.toList := by
    refine (List.map_inj_right ?_).1 h
    intro a b hab
    exact UInt8.toNat_inj.1 (by omega)
  have h3 : s.data = t.data := by
    apply Array.ext'; exact h2
  cases s; cases t; simp at h3; rw [h3]
theorem nb_cons (y : S37) (hy : y.f0.size ≤ 32) (t : List S37) : dirBytes (y :: t) = (y.f0.size : Int) :: (YtcklpecjcebekaaW.PrintWords.bytesOf y.f0 ++ (y.f1 % 256 :: y.f1 / 256 % 256 :: dirBytes t)) := by
  have : IntKind.u8.wrap (y.f0.size : Int) = (y.f0.size : Int) := by rw [IntKind.wrap_u8]; omega
  simp [dirBytes, nameBytes, this]
theorem right_inodes' : ∀ {l : List S37} {last : List UInt8}, rightFrom last l = true → ∀ x ∈ l, okInode x.f1 = true
  | [], _, _, x, hx => by cases hx
  | y :: r, last, h, x, hx => by
    simp only [rightFrom, Bool.and_eq_true] at h
    rcases List.mem_cons.1 hx with rfl | hx
    · exact h.1.1.2
    · exact right_inodes' h.2 x hx
theorem right_append {a b : List S37} (h : rightL (a ++ b) = true) : (∀ x ∈ a ++ b, x.f0.size ≤ 32 ∧ okInode x.f1 = true) ∧ a.length + b.length ≤ 256 := by
  simp only [rightL, Bool.and_eq_true, decide_eq_true_eq] at h
  exact ⟨fun x hx => ⟨right_names h.1 x hx, right_inodes' h.1 x hx⟩, by have := h.2; rw [List.length_append] at this; exact this⟩

/-- What is read at the head: a name, a number. -/
def headOf (x : List Int) : S37 := ⟨strOfNums ((x.take (1 + rd x 0).toNat).drop 1), rd x (1 + rd x 0) + 256 * rd x (1 + rd x 0 + 1)⟩
theorem head_bytes (x : List Int) (hb : AreBytes x) (h : 1 + rd x 0 + 2 ≤ (x.length : Int)) (hn : rd x 0 ≤ 255) : dirBytes [headOf x] ++ x.drop (1 + rd x 0 + 2).toNat = x ∧ (headOf x).f0.size = (rd x 0).toNat := by
  have b0 := rd_byte hb 0
  obtain ⟨n, hnn⟩ : ∃ n : Nat, rd x 0 = (n : Int) := ⟨(rd x 0).toNat, by omega⟩
  have hx0 : x = (n : Int) :: x.drop 1 := by
    cases x with
    | nil => simp at h; omega
    | cons c r => simp [rd] at hnn; simp [hnn]
  have hl : n + 3 ≤ x.length := by omega
  have hsz : (headOf x).f0.size = n := by
    unfold headOf
    simp only [strOfNums_size, List.length_drop, List.length_take]
    rw [hnn]; omega
  refine ⟨?_, by rw [hsz, hnn]; simp⟩
  have hbs : AreBytes ((x.take (1 + rd x 0).toNat).drop 1) := fun c hc => hb c (List.mem_of_mem_take (List.mem_of_mem_drop hc))
  have e1 : YtcklpecjcebekaaW.PrintWords.bytesOf (headOf x).f0 = (x.take (n + 1)).drop 1 := by
    unfold headOf
    simp only []
    rw [str_bytes _ hbs, hnn]
    congr 2; omega
  have hlo : rd x (1 + rd x 0) = x[n + 1]'(by omega) := by
    rw [hnn, show (1 + (n : Int)) = ((n + 1 : Nat) : Int) by omega]; exact rd_elem x (n + 1) (by omega)
  have hhi : rd x (1 + rd x 0 + 1) = x[n + 2]'(by omega) := by
    rw [hnn, show (1 + (n : Int) + 1) = ((n + 2 : Nat) : Int) by omega]; exact rd_elem x (n + 2) (by omega)
  have r1 := hb _ (List.getElem_mem (show n + 1 < x.length by omega))
  have r2 := hb _ (List.getElem_mem (show n + 2 < x.length by omega))
  have f1 : (headOf x).f1 = x[n + 1]'(by omega) + 256 * x[n + 2]'(by omega) := by
    show rd x (1 + rd x 0) + 256 * rd x (1 + rd x 0 + 1) = _
    rw [hlo, hhi]
  have e2 : (headOf x).f1 % 256 = x[n + 1]'(by omega) := by rw [f1]; omega
  have e3 : (headOf x).f1 / 256 % 256 = x[n + 2]'(by omega) := by rw [f1]; omega
  have hwr : IntKind.u8.wrap ((headOf x).f0.size : Int) = (n : Int) := by rw [hsz, IntKind.wrap_u8]; omega
  have hdb : dirBytes [headOf x] = (n : Int) :: ((x.take (n + 1)).drop 1 ++ [x[n + 1]'(by omega), x[n + 2]'(by omega)]) := by
    simp only [dirBytes, nameBytes, List.flatMap_cons, List.flatMap_nil, List.append_nil, hwr, e1, e2, e3]
    simp
  rw [hdb, hnn, show (1 + (n : Int) + 2).toNat = n + 3 by omega]
  have d1 : x.drop (n + 1) = x[n + 1]'(by omega) :: x[n + 2]'(by omega) :: x.drop (n + 3) := by
    rw [List.drop_eq_getElem_cons (show n + 1 < x.length by omega), List.drop_eq_getElem_cons (show n + 2 < x.length by omega)]
  have d0 : x.drop 1 = (x.take (n + 1)).drop 1 ++ x.drop (n + 1) := by
    have e := List.drop_append_of_le_length (i := 1) (l₁ := x.take (n + 1)) (l₂ := x.drop (n + 1)) (by rw [List.length_take]; omega)
    rw [List.take_append_drop] at e; exact e
  refine Eq.trans ?_ hx0.symm
  rw [d0, d1]; simp
/-- What was told at the head is what is read there. -/
theorem head_told (y : S37) (t : List S37) (hy : y.f0.size ≤ 32) (hi : okInode y.f1 = true) : headOf (dirBytes (y :: t)) = y ∧ rd (dirBytes (y :: t)) 0 = (y.f0.size : Int) ∧ (dirBytes (y :: t)).drop (1 + (y.f0.size : Int) + 2).toNat = dirBytes t ∧ 1 + (y.f0.size : Int) + 2 ≤ ((dirBytes (y :: t)).length : Int) := by
  simp only [okInode, Bool.and_eq_true, decide_eq_true_eq] at hi
  have hbl : (YtcklpecjcebekaaW.PrintWords.bytesOf y.f0).length = y.f0.size := YtcklpecjcebekaaW.PrintWords.bytesOf_length _
  rw [nb_cons y hy t]
  obtain ⟨B, hB⟩ : ∃ B, B = YtcklpecjcebekaaW.PrintWords.bytesOf y.f0 := ⟨_, rfl⟩
  rw [← hB] at hbl ⊢
  have hr0 : rd ((y.f0.size : Int) :: (B ++ (y.f1 % 256 :: y.f1 / 256 % 256 :: dirBytes t))) 0 = (y.f0.size : Int) := by simp [rd]
  have hlen : ((y.f0.size : Int) :: (B ++ (y.f1 % 256 :: y.f1 / 256 % 256 :: dirBytes t))).length = y.f0.size + 3 + (dirBytes t).length := by simp; omega
  have g1 : rd ((y.f0.size : Int) :: (B ++ (y.f1 % 256 :: y.f1 / 256 % 256 :: dirBytes t))) (1 + (y.f0.size : Int)) = y.f1 % 256 := by
    rw [show (1 + (y.f0.size : Int)) = ((y.f0.size + 1 : Nat) : Int) by omega, rd_elem _ _ (by omega)]
    rw [List.getElem_cons_succ, List.getElem_append_right (by omega)]
    simp [hbl]
  have g2 : rd ((y.f0.size : Int) :: (B ++ (y.f1 % 256 :: y.f1 / 256 % 256 :: dirBytes t))) (1 + (y.f0.size : Int) + 1) = y.f1 / 256 % 256 := by
    rw [show (1 + (y.f0.size : Int) + 1) = ((y.f0.size + 2 : Nat) : Int) by omega, rd_elem _ _ (by omega)]
    rw [List.getElem_cons_succ, List.getElem_append_right (by omega)]
    simp [hbl]
  refine ⟨?_, hr0, ?_, by omega⟩
  · unfold headOf
    rw [hr0, g1, g2]
    have t1 : (((y.f0.size : Int) :: (B ++ (y.f1 % 256 :: y.f1 / 256 % 256 :: dirBytes t))).take (1 + (y.f0.size : Int)).toNat).drop 1 = B := by
      rw [show (1 + (y.f0.size : Int)).toNat = y.f0.size + 1 by omega]
      rw [List.take_succ_cons, List.drop_succ_cons, List.drop_zero, ← hbl, List.take_left]
    have t2 : strOfNums B = y.f0 := bytesOf_inj (by rw [hB, str_bytes _ (bytesOf_bytes _)])
    have t3 : y.f1 % 256 + 256 * (y.f1 / 256 % 256) = y.f1 := by omega
    rw [t1, t2, t3]
  · rw [show (1 + (y.f0.size : Int) + 2).toNat = (y.f0.size + 2) + 1 by omega, List.drop_succ_cons, List.drop_append, hbl]
    have z1 : B.drop (y.f0.size + 2) = [] := List.drop_eq_nil_of_le (by omega)
    have z2 : y.f0.size + 2 - y.f0.size = 2 := by omega
    rw [z1, z2]; rfl
end Go.Proofs.Ytcklpecjcebekaa.PAll
end
section
/- Bytes read as a directory, by the program and by the reference: the same (plain Lean). -/
namespace Go.Proofs.Ytcklpecjcebekaa.PAll
open Go.RowKit Go.Lib Go.Proofs.YtcklpecjcebekaaW.PrintWords Go.Proofs.YtcklpecjcebekaaW.PrintLast Go.Proofs.YtcklpecjcebekaaW.PrintMore Go.Proofs.Ytcklpecjcebekaa Go.Proofs.Ytcklpecjcebekaa.Sp
set_option linter.unusedVariables false
set_option linter.unusedSimpArgs false

theorem right_isname : ∀ {l : List S37} {last : List UInt8}, rightFrom last l = true → ∀ x ∈ l, isName x.f0.data.toList = true
  | [], _, _, x, hx => by cases hx
  | y :: r, last, h, x, hx => by
    simp only [rightFrom, Bool.and_eq_true] at h
    rcases List.mem_cons.1 hx with rfl | hx
    · exact h.1.1.1
    · exact right_isname h.2 x hx
theorem bad_right (out : List S37) : rightL (out ++ [(⟨(⟨#[]⟩ : ByteArray), 0⟩ : S37)]) = false := by
  cases h : rightL (out ++ [(⟨(⟨#[]⟩ : ByteArray), 0⟩ : S37)]) with
  | false => rfl
  | true =>
    simp only [rightL, Bool.and_eq_true] at h
    have := right_isname h.1 (⟨(⟨#[]⟩ : ByteArray), 0⟩ : S37) (by simp)
    simp [isName] at this
theorem rd_drop (X : List Int) (i j : Nat) : rd (X.drop i) (j : Int) = rd X ((i + j : Nat) : Int) := by
  simp only [rd, List.getD_eq_getElem?_getD, List.getElem?_drop, Int.toNat_natCast]
theorem wrap_ok {n : Int} (h0 : 0 ≤ n) (h1 : n ≤ 9223372036854775807) : wrap64 n = n := by unfold wrap64; omega
theorem ends_dirs (out : List S37) (hl : out.length ≤ 9223372036854775807) : Ev (fun k => (dirs_right.f k out).bind fun t => (if t = true then (some (out, (0 : Int))) else (some (([] : List S37), (70 : Int))))) (if rightL out = true then (out, 0) else ([], 70)) := by
  refine Ev.bind (right_f out hl) ?_
  cases rightL out <;> simpa using Ev.now _
theorem ends_ref (out : List S37) (hl : out.length ≤ 9223372036854775807) (hs : ∀ x ∈ out, x.f0.size ≤ 9223372036854775807) : Ev (fun k => (sutlerref07_right.f k out).bind fun t => (if t = true then (some (out, (0 : Int))) else (some (([] : List S37), (70 : Int))))) (if rightL out = true then (out, 0) else ([], 70)) := by
  refine Ev.bind (right_ref out hl hs) ?_
  cases rightL out <;> simpa using Ev.now _
theorem ends_bad (out : List S37) (hl : out.length ≤ 257) : Ev (fun k => (if out.length < 5864062014805 then ((some (out ++ [(⟨(⟨#[]⟩ : ByteArray), 0⟩ : S37)] : List (S37))).bind fun y165 => ((dirs_right.f k y165).bind fun t168 => (if t168 = true then (some (y165, (0 : Int))) else (some (([] : List (S37)), (70 : Int)))))) else (none))) (([] : List S37), 70) := by
  simp only [if_pos (show out.length < 5864062014805 by omega), Option.bind_some]
  have := ends_dirs (out ++ [(⟨(⟨#[]⟩ : ByteArray), 0⟩ : S37)]) (by simp; omega)
  rw [bad_right] at this
  simpa using this
theorem slice_drop (X : List Int) (i n : Nat) : (X.take (i + 1 + n)).drop (i + 1) = ((X.drop i).take (1 + n)).drop 1 := by
  rw [List.take_drop, List.drop_drop]
  congr 2; omega

theorem wraps_i (i c : Nat) (hi : i ≤ 140737488355328) (hc : c ≤ 255) : wrap64 ((i : Int) + 1) = ((i + 1 : Nat) : Int) ∧ wrap64 (((i + 1 : Nat) : Int) + wrap64 (c : Int)) = ((i + 1 + c : Nat) : Int) ∧ wrap64 (((i + 1 + c : Nat) : Int) + 2) = ((i + 1 + c + 2 : Nat) : Int) ∧ wrap64 ((i : Int) + wrap64 (wrap64 (1 + wrap64 (c : Int)) + 2)) = ((i + (c + 3) : Nat) : Int) := by
  refine ⟨?_, ?_, ?_, ?_⟩
  · rw [wrap_ok (by omega) (by omega)]; omega
  · rw [wrap_ok (n := (c : Int)) (by omega) (by omega), wrap_ok (by omega) (by omega)]; omega
  · rw [wrap_ok (by omega) (by omega)]; omega
  · rw [wrap_ok (n := (c : Int)) (by omega) (by omega), wrap_ok (n := 1 + (c : Int)) (by omega) (by omega), wrap_ok (n := 1 + (c : Int) + 2) (by omega) (by omega), wrap_ok (by omega) (by omega)]; omega
theorem parse_both (n : Nat) : ∀ (x : List Int) (out : List S37), x.length ≤ n → AreBytes x → x.length ≤ 140737488355328 → out.length ≤ 257 → (∀ y ∈ out, y.f0.size ≤ 255) →
    ∃ r, Ev (fun k => dirs_Parse.l0 k x out) r ∧ (∀ (X : List Int) (i : Nat), X.drop i = x → i ≤ X.length → X.length ≤ 140737488355328 → AreBytes X → Ev (fun k => sutlerref07_Parse.l0 k X out (i : Int)) r) ∧
      ((r = ([], 70) ∧ ∀ l', dirBytes l' = x → rightL (out ++ l') = false) ∨ ∃ l', r = (out ++ l', 0) ∧ dirBytes l' = x ∧ rightL (out ++ l') = true) := by
  induction n with
  | zero =>
    intro x out hxn hxb hxl hol hos
    have hx0 : x = [] := List.eq_nil_of_length_eq_zero (by omega)
    subst hx0
    have hnil : ∀ l', dirBytes l' = [] → l' = [] := fun l' h => by
      cases l' with
      | nil => rfl
      | cons y t => simp [dirBytes, nameBytes] at h
    refine ⟨if rightL out = true then (out, 0) else ([], 70), ?_, ?_, ?_⟩
    · refine Ev.round _ (fun k => ?_) (ends_dirs out (by omega))
      simp only [dirs_Parse.l0]; rw [if_neg (by simp)]
    · intro X i hX hi hXl hXb
      have hie : i = X.length := by have := congrArg List.length hX; rw [List.length_drop, List.length_nil] at this; omega
      refine Ev.round _ (fun k => ?_) (ends_ref out (by omega) (fun y hy => by have := hos y hy; omega))
      simp only [sutlerref07_Parse.l0]; rw [if_neg (by omega)]
    · cases h : rightL out with
      | false => exact .inl ⟨by simp, fun l' hl' => by rw [hnil l' hl', List.append_nil]; exact h⟩
      | true => exact .inr ⟨[], by simp, rfl, by rw [List.append_nil]; exact h⟩
  | succ n ih =>
    intro x out hxn hxb hxl hol hos
    by_cases hx0 : x.length = 0
    · exact ih x out (by omega) hxb hxl hol hos
    have b0 := rd_byte hxb 0
    obtain ⟨c, hc⟩ : ∃ c : Nat, rd x 0 = (c : Int) := ⟨(rd x 0).toNat, by omega⟩
    have hw1 : wrap64 (1 + wrap64 (rd x 0)) = 1 + (c : Int) := by rw [hc, wrap_ok (n := (c : Int)) (by omega) (by omega), wrap_ok (by omega) (by omega)]
    have hw2 : wrap64 (1 + (c : Int) + 2) = ((c + 3 : Nat) : Int) := by rw [wrap_ok (by omega) (by omega)]; omega
    have hwc : wrap64 (c : Int) = (c : Int) := wrap_ok (by omega) (by omega)
    have hget := get_dirs x hxb hxl (1 + (c : Int)) (by omega) (by omega)
    -- the reference's head
    have href : ∀ (X : List Int) (i : Nat), X.drop i = x → i ≤ X.length → i < X.length ∧ X.length - i = x.length ∧ rd X (i : Int) = (c : Int) := by
      intro X i hX hi
      have hlen := congrArg List.length hX
      rw [List.length_drop] at hlen
      have h0 := rd_drop X i 0
      rw [hX, Nat.add_zero] at h0
      exact ⟨by omega, hlen, by rw [← h0]; exact hc⟩
    have hc255 : c ≤ 255 := by omega
    have hhd : ∀ l', dirBytes l' = x → (∃ y t, l' = y :: t ∧ (rightL (out ++ l') = true → headOf x = y ∧ y.f0.size = c ∧ x.drop (c + 3) = dirBytes t ∧ c + 3 ≤ x.length)) := by
      intro l' hl'
      cases l' with
      | nil => rw [← hl'] at hx0; exact absurd rfl hx0
      | cons y t =>
        refine ⟨y, t, rfl, fun hr => ?_⟩
        obtain ⟨h1, h2⟩ := right_append hr
        obtain ⟨hys, hyi⟩ := h1 y (by simp)
        obtain ⟨e1, e2, e3, e4⟩ := head_told y t hys hyi
        rw [hl'] at e1 e2 e3 e4
        rw [hc] at e2
        have hcy : y.f0.size = c := by omega
        rw [hcy] at e3 e4
        rw [show (1 + (c : Int) + 2).toNat = c + 3 by omega] at e3
        exact ⟨e1, hcy, e3, by omega⟩
    by_cases hE : c + 3 ≤ x.length
    · have hg : getTwo x (1 + (c : Int)) = (rd x (1 + (c : Int)) + 256 * rd x (1 + (c : Int) + 1), 0) := by unfold getTwo; rw [if_pos (by omega)]
      rw [hg] at hget
      by_cases hO : out.length > 256
      · refine ⟨([], 70), ?_, ?_, .inl ⟨rfl, fun l' hl' => ?_⟩⟩
        · obtain ⟨K, hK⟩ := hget
          obtain ⟨K', hK'⟩ := ends_bad out hol
          refine ⟨max K K' + 1, fun k hk => ?_⟩
          obtain ⟨m, rfl⟩ : ∃ m, k = m + 1 := ⟨k - 1, by omega⟩
          simp only [dirs_Parse.l0]
          have hG : bits_Get.f m x (1 + (c : Int)) 2 = _ := hK m (by omega)
          rw [if_pos (by omega), if_pos (by omega), hw1, hG, Option.bind_some, if_pos rfl, if_pos (by omega)]
          exact hK' m (by omega)
        · intro X i hX hi hXl hXb
          obtain ⟨h1, h2, h3⟩ := href X i hX hi
          have q1 : (i : Int) < (X.length : Int) := by omega
          have q2 : 0 ≤ (i : Int) := by omega
          have q3 : ¬ ((i + 1 + c + 2 : Nat) : Int) > (X.length : Int) := by omega
          have q4 : (out.length : Int) > 256 := by omega
          obtain ⟨h4, h5, h6, _⟩ := wraps_i i c (by omega) hc255
          refine Ev.round (fun _ => some ([], 70)) (fun k => ?_) (Ev.now _)
          simp only [sutlerref07_Parse.l0]
          rw [if_pos q1, if_pos q2, h3, h4, h5, h6, if_neg q3, if_pos q4]
        · cases h : rightL (out ++ l') with
          | false => rfl
          | true => have := (right_append h).2; omega
      · obtain ⟨hd1, hd2⟩ := head_bytes x hxb (by rw [hc]; omega) (by omega)
        rw [hc] at hd1 hd2
        rw [show (1 + (c : Int) + 2).toNat = c + 3 by omega] at hd1
        have hsz : (headOf x).f0.size ≤ 255 := by rw [hd2]; omega
        obtain ⟨r, hr1, hr2, hr3⟩ := ih (x.drop (c + 3)) (out ++ [headOf x]) (by rw [List.length_drop]; omega) (fun b hb => hxb b (List.mem_of_mem_drop hb)) (by rw [List.length_drop]; omega) (by rw [List.length_append, List.length_singleton]; omega)
          (fun y hy => by
            rcases List.mem_append.1 hy with h | h
            · exact hos y h
            · rw [List.mem_singleton.1 h]; exact hsz)
        have hho : headOf x = ⟨strOfNums ((x.take (1 + c)).drop 1), rd x (1 + (c : Int)) + 256 * rd x (1 + (c : Int) + 1)⟩ := by
          unfold headOf; rw [hc, show (1 + (c : Int)).toNat = 1 + c by omega]
        refine ⟨r, ?_, ?_, ?_⟩
        · obtain ⟨K, hK⟩ := hget
          obtain ⟨K', hK'⟩ := hr1
          refine ⟨max K K' + 1, fun k hk => ?_⟩
          obtain ⟨m, rfl⟩ : ∃ m, k = m + 1 := ⟨k - 1, by omega⟩
          simp only [dirs_Parse.l0]
          have hG : bits_Get.f m x (1 + (c : Int)) 2 = _ := hK m (by omega)
          rw [if_pos (by omega), if_pos (by omega), hw1, hG, Option.bind_some, if_pos rfl, if_neg (by omega), if_pos (by omega), if_pos (by omega), if_pos (by omega), hw2, if_pos (by omega), if_pos (by omega), Int.toNat_natCast, show (1 + (c : Int)).toNat = 1 + c by omega, ← hho]
          exact hK' m (by omega)
        · intro X i hX hi hXl hXb
          obtain ⟨h1, h2, h3⟩ := href X i hX hi
          have q1 : (i : Int) < (X.length : Int) := by omega
          have q2 : 0 ≤ (i : Int) := by omega
          have q3 : ¬ ((i + 1 + c + 2 : Nat) : Int) > (X.length : Int) := by omega
          have q4 : ¬ (out.length : Int) > 256 := by omega
          have q5 : (0 : Int) ≤ ((i + 1 : Nat) : Int) := by omega
          have q6 : ((i + 1 : Nat) : Int) ≤ ((i + 1 + c : Nat) : Int) := by omega
          have q7 : ((i + 1 + c : Nat) : Int) ≤ (X.length : Int) := by omega
          have q8 : out.length < 5864062014805 := by omega
          have q9 : i ≤ 140737488355328 := by omega
          have q10 : i + (c + 3) ≤ X.length := by omega
          have hgr := get_ref X hXb hXl ((i + 1 + c : Nat) : Int) (by omega) (by omega)
          have hgX : getTwo X ((i + 1 + c : Nat) : Int) = (rd x (1 + (c : Int)) + 256 * rd x (1 + (c : Int) + 1), 0) := by
            unfold getTwo
            rw [if_pos (by omega)]
            have q1 := rd_drop X i (1 + c)
            have q2 := rd_drop X i (1 + c + 1)
            rw [hX] at q1 q2
            rw [show (((i + 1 + c : Nat) : Int)) = ((i + (1 + c) : Nat) : Int) by omega, show (((i + (1 + c) : Nat) : Int) + 1) = ((i + (1 + c + 1) : Nat) : Int) by omega, ← q1, ← q2]
            rw [show (((1 + c : Nat) : Int)) = 1 + (c : Int) by omega, show (((1 + c + 1 : Nat) : Int)) = 1 + (c : Int) + 1 by omega]
          rw [hgX] at hgr
          have hcut : (X.take (i + 1 + c)).drop (i + 1) = (x.take (1 + c)).drop 1 := by rw [slice_drop, hX]
          obtain ⟨K, hK⟩ := hgr
          obtain ⟨K', hK'⟩ := hr2 X (i + (c + 3)) (by rw [← hX, List.drop_drop]) q10 hXl hXb
          refine ⟨max K K' + 1, fun k hk => ?_⟩
          obtain ⟨m, rfl⟩ : ∃ m, k = m + 1 := ⟨k - 1, by omega⟩
          have hG : sutlerref03_Get.f m X ((i + 1 + c : Nat) : Int) 2 = _ := hK m (by omega)
          have hR : sutlerref07_Parse.l0 m X (out ++ [headOf x]) ((i + (c + 3) : Nat) : Int) = some r := hK' m (by omega)
          obtain ⟨h4, h5, h6, h7⟩ := wraps_i i c q9 hc255
          simp only [sutlerref07_Parse.l0]
          rw [if_pos q1, if_pos q2, h3, h4, h5, h6, if_neg q3, if_neg q4, hG, Option.bind_some, if_pos q5, if_pos q6, if_pos q7, if_pos q8, Int.toNat_natCast, Int.toNat_natCast, hcut, ← hho, h7]
          exact hR
        · rcases hr3 with ⟨rfl, hno⟩ | ⟨l', rfl, hl', hrl⟩
          · refine .inl ⟨rfl, fun l' hl' => ?_⟩
            obtain ⟨y, t, rfl, hyt⟩ := hhd l' hl'
            cases h : rightL (out ++ y :: t) with
            | false => rfl
            | true =>
              obtain ⟨e1, e2, e3, e4⟩ := hyt h
              have := hno t e3.symm
              rw [e1, List.append_assoc, List.singleton_append, h] at this
              exact this
          · refine .inr ⟨headOf x :: l', by simp, ?_, by simpa using hrl⟩
            have : dirBytes (headOf x :: l') = dirBytes [headOf x] ++ dirBytes l' := by simp [dirBytes]
            rw [this, hl']; exact hd1
    · have hg : getTwo x (1 + (c : Int)) = (0, 2) := by unfold getTwo; rw [if_neg (by omega)]
      rw [hg] at hget
      refine ⟨([], 70), ?_, ?_, .inl ⟨rfl, fun l' hl' => ?_⟩⟩
      · obtain ⟨K, hK⟩ := hget
        obtain ⟨K', hK'⟩ := ends_bad out hol
        refine ⟨max K K' + 1, fun k hk => ?_⟩
        obtain ⟨m, rfl⟩ : ∃ m, k = m + 1 := ⟨k - 1, by omega⟩
        simp only [dirs_Parse.l0]
        have hG : bits_Get.f m x (1 + (c : Int)) 2 = _ := hK m (by omega)
        rw [if_pos (by omega), if_pos (by omega), hw1, hG, Option.bind_some, if_neg (by decide)]
        exact hK' m (by omega)
      · intro X i hX hi hXl hXb
        obtain ⟨h1, h2, h3⟩ := href X i hX hi
        have q1 : (i : Int) < (X.length : Int) := by omega
        have q2 : 0 ≤ (i : Int) := by omega
        have q3 : ((i + 1 + c + 2 : Nat) : Int) > (X.length : Int) := by omega
        obtain ⟨h4, h5, h6, _⟩ := wraps_i i c (by omega) hc255
        refine Ev.round (fun _ => some ([], 70)) (fun k => ?_) (Ev.now _)
        simp only [sutlerref07_Parse.l0]
        rw [if_pos q1, if_pos q2, h3, h4, h5, h6, if_pos q3]
      · obtain ⟨y, t, rfl, hyt⟩ := hhd l' hl'
        cases h : rightL (out ++ y :: t) with
        | false => rfl
        | true => obtain ⟨e1, e2, e3, e4⟩ := hyt h; exact absurd e4 hE
end Go.Proofs.Ytcklpecjcebekaa.PAll
end
section
-- Written by a tool of the kit (print.py) over the laws of this seat at once; Lean checks it.
namespace Go.Proofs.Ytcklpecjcebekaa.PAll
open Go.RowKit Go.Proofs.YtcklpecjcebekaaW.PrintWords Go.Proofs.YtcklpecjcebekaaW.PrintLast Go.Proofs.YtcklpecjcebekaaW.PrintMore
attribute [local go_sem] max2_int min2_int max_two min_two max_three min_three max_four min_four   -- for this text's walks alone
set_option linter.unusedVariables false
set_option linter.unusedSimpArgs false

/-! ### sutlerlaw07_works: function 8 -/
def sutlerlaw07_works.f (k : Nat)  : Option (Bool) := (dirs_Print.f (([(⟨(⟨#[97]⟩ : ByteArray), 258⟩ : S37)] : List (S37)))).bind fun bt127 => ((dirs_Add.f ([] : List (S37)) (⟨#[98]⟩ : ByteArray) 1).bind fun bt131 => ((dirs_Add.f bt131.1 (⟨#[97]⟩ : ByteArray) 2).bind fun bt135 => ((sutlerbase_SameBytes.f k bt127.1 (([1, 97, 2, 1] : List Int))).bind fun t142 => (if t142 = true then (if bt127.2 = 0 then (if bt135.2 = 0 then ((sutlerbase_SameNames.f k bt135.1 (([(⟨(⟨#[97]⟩ : ByteArray), 2⟩ : S37), (⟨(⟨#[98]⟩ : ByteArray), 1⟩ : S37)] : List (S37)))).bind fun t146 => (if t146 = true then ((dirs_Check.f (⟨#[46, 46]⟩ : ByteArray)).bind fun t147 => (some (t147 == 71))) else (some false))) else (some false)) else (some false)) else (some false)))))
theorem sutlerlaw07_works.mono : ∀ k, LeO (sutlerlaw07_works.f k ) (sutlerlaw07_works.f (k + 1) ) := by
  intro  k
  unfold sutlerlaw07_works.f
  repeat' first
      | (with_reducible exact sutlerbase_SameBytes.mono _ _ _)
      | (with_reducible exact sutlerbase_SameNames.mono _ _ _)
      | (with_reducible exact LeO.refl _)
      | (with_reducible exact LeO.none _)
      | (with_reducible refine LeO.ite ?_ ?_)
      | (with_reducible refine LeO.bind ?_ (fun _ => ?_))
      | exact sutlerbase_SameBytes.mono _ _ _
      | exact sutlerbase_SameNames.mono _ _ _
      | exact LeO.none _
      | refine LeO.ite ?_ ?_
      | refine LeO.bind ?_ (fun _ => ?_)
set_option maxHeartbeats 8000000 in
set_option maxRecDepth 100000 in
theorem sutlerlaw07_works.calls (k : Nat)  (r : Bool) (w : World) (h : sutlerlaw07_works.f k  = some r) :
    Calls Try.prog 8 #[] w fun e w' => e = .returned (.bool r) ∧ Below w.heap.size w w' := by
  have hu37 := Try.underlying37
  have HB := Aside0.mk (Below.refl w.heap.size w)
  have H : ((dirs_Print.f (([(⟨(⟨#[97]⟩ : ByteArray), 258⟩ : S37)] : List (S37)))).bind fun bt127 => ((dirs_Add.f ([] : List (S37)) (⟨#[98]⟩ : ByteArray) 1).bind fun bt131 => ((dirs_Add.f bt131.1 (⟨#[97]⟩ : ByteArray) 2).bind fun bt135 => ((sutlerbase_SameBytes.f k bt127.1 (([1, 97, 2, 1] : List Int))).bind fun t142 => (if t142 = true then (if bt127.2 = 0 then (if bt135.2 = 0 then ((sutlerbase_SameNames.f k bt135.1 (([(⟨(⟨#[97]⟩ : ByteArray), 2⟩ : S37), (⟨(⟨#[98]⟩ : ByteArray), 1⟩ : S37)] : List (S37)))).bind fun t146 => (if t146 = true then ((dirs_Check.f (⟨#[46, 46]⟩ : ByteArray)).bind fun t147 => (some (t147 == 71))) else (some false))) else (some false)) else (some false)) else (some false)))))) = some r := h
  clear h
  obtain ⟨y124, hy124⟩ : ∃ y_ : List (S37), y_ = (([(⟨(⟨#[97]⟩ : ByteArray), 258⟩ : S37)] : List (S37))) := ⟨_, rfl⟩
  replace H : ((dirs_Print.f y124).bind fun bt127 => ((dirs_Add.f ([] : List (S37)) (⟨#[98]⟩ : ByteArray) 1).bind fun bt131 => ((dirs_Add.f bt131.1 (⟨#[97]⟩ : ByteArray) 2).bind fun bt135 => ((sutlerbase_SameBytes.f k bt127.1 (([1, 97, 2, 1] : List Int))).bind fun t142 => (if t142 = true then (if bt127.2 = 0 then (if bt135.2 = 0 then ((sutlerbase_SameNames.f k bt135.1 (([(⟨(⟨#[97]⟩ : ByteArray), 2⟩ : S37), (⟨(⟨#[98]⟩ : ByteArray), 1⟩ : S37)] : List (S37)))).bind fun t146 => (if t146 = true then ((dirs_Check.f (⟨#[46, 46]⟩ : ByteArray)).bind fun t147 => (some (t147 == 71))) else (some false))) else (some false)) else (some false)) else (some false)))))) = some r := by first | (rw [hy124]; with_reducible exact H) | (have H2_ := (Option.bind_some _ _).symm.trans H; rw [hy124]; with_reducible exact H2_) | (have H2_ := (Option.bind_some _ _).symm.trans H; with_reducible exact H2_) | with_reducible exact H | (rw [hy124]; exact H) | exact H
  have Ny124 := Aside0.mk hy124
  clear hy124
  replace H := Option.bind_eq_some_iff.mp H
  obtain ⟨⟨t127, t128⟩, A10, H⟩ := H
  replace H : ((dirs_Add.f ([] : List (S37)) (⟨#[98]⟩ : ByteArray) 1).bind fun bt131 => ((dirs_Add.f bt131.1 (⟨#[97]⟩ : ByteArray) 2).bind fun bt135 => ((sutlerbase_SameBytes.f k t127 (([1, 97, 2, 1] : List Int))).bind fun t142 => (if t142 = true then (if t128 = 0 then (if bt135.2 = 0 then ((sutlerbase_SameNames.f k bt135.1 (([(⟨(⟨#[97]⟩ : ByteArray), 2⟩ : S37), (⟨(⟨#[98]⟩ : ByteArray), 1⟩ : S37)] : List (S37)))).bind fun t146 => (if t146 = true then ((dirs_Check.f (⟨#[46, 46]⟩ : ByteArray)).bind fun t147 => (some (t147 == 71))) else (some false))) else (some false)) else (some false)) else (some false))))) = some r := H
  have A1 := Aside0.mk A10
  clear A10
  replace H := Option.bind_eq_some_iff.mp H
  obtain ⟨⟨t131, t132⟩, A20, H⟩ := H
  replace H : ((dirs_Add.f t131 (⟨#[97]⟩ : ByteArray) 2).bind fun bt135 => ((sutlerbase_SameBytes.f k t127 (([1, 97, 2, 1] : List Int))).bind fun t142 => (if t142 = true then (if t128 = 0 then (if bt135.2 = 0 then ((sutlerbase_SameNames.f k bt135.1 (([(⟨(⟨#[97]⟩ : ByteArray), 2⟩ : S37), (⟨(⟨#[98]⟩ : ByteArray), 1⟩ : S37)] : List (S37)))).bind fun t146 => (if t146 = true then ((dirs_Check.f (⟨#[46, 46]⟩ : ByteArray)).bind fun t147 => (some (t147 == 71))) else (some false))) else (some false)) else (some false)) else (some false)))) = some r := H
  have A2 := Aside0.mk A20
  clear A20
  replace H := Option.bind_eq_some_iff.mp H
  obtain ⟨⟨t135, t136⟩, A30, H⟩ := H
  replace H : ((sutlerbase_SameBytes.f k t127 (([1, 97, 2, 1] : List Int))).bind fun t142 => (if t142 = true then (if t128 = 0 then (if t136 = 0 then ((sutlerbase_SameNames.f k t135 (([(⟨(⟨#[97]⟩ : ByteArray), 2⟩ : S37), (⟨(⟨#[98]⟩ : ByteArray), 1⟩ : S37)] : List (S37)))).bind fun t146 => (if t146 = true then ((dirs_Check.f (⟨#[46, 46]⟩ : ByteArray)).bind fun t147 => (some (t147 == 71))) else (some false))) else (some false)) else (some false)) else (some false))) = some r := H
  have A3 := Aside0.mk A30
  clear A30
  obtain ⟨y139, hy139⟩ : ∃ y_ : List Int, y_ = (([1, 97, 2, 1] : List Int)) := ⟨_, rfl⟩
  replace H : ((sutlerbase_SameBytes.f k t127 y139).bind fun t142 => (if t142 = true then (if t128 = 0 then (if t136 = 0 then ((sutlerbase_SameNames.f k t135 (([(⟨(⟨#[97]⟩ : ByteArray), 2⟩ : S37), (⟨(⟨#[98]⟩ : ByteArray), 1⟩ : S37)] : List (S37)))).bind fun t146 => (if t146 = true then ((dirs_Check.f (⟨#[46, 46]⟩ : ByteArray)).bind fun t147 => (some (t147 == 71))) else (some false))) else (some false)) else (some false)) else (some false))) = some r := by first | (rw [hy139]; with_reducible exact H) | (have H2_ := (Option.bind_some _ _).symm.trans H; rw [hy139]; with_reducible exact H2_) | (have H2_ := (Option.bind_some _ _).symm.trans H; with_reducible exact H2_) | with_reducible exact H | (rw [hy139]; exact H) | exact H
  have Ny139 := Aside0.mk hy139
  clear hy139
  replace H := Option.bind_eq_some_iff.mp H
  obtain ⟨t142, A40, H⟩ := H
  replace H : (if t142 = true then (if t128 = 0 then (if t136 = 0 then ((sutlerbase_SameNames.f k t135 (([(⟨(⟨#[97]⟩ : ByteArray), 2⟩ : S37), (⟨(⟨#[98]⟩ : ByteArray), 1⟩ : S37)] : List (S37)))).bind fun t146 => (if t146 = true then ((dirs_Check.f (⟨#[46, 46]⟩ : ByteArray)).bind fun t147 => (some (t147 == 71))) else (some false))) else (some false)) else (some false)) else (some false)) = some r := H
  have A4 := Aside0.mk A40
  clear A40
  by_cases c5 : t142 = true
  · subst c5
    have H1 : (if t128 = 0 then (if t136 = 0 then ((sutlerbase_SameNames.f k t135 (([(⟨(⟨#[97]⟩ : ByteArray), 2⟩ : S37), (⟨(⟨#[98]⟩ : ByteArray), 1⟩ : S37)] : List (S37)))).bind fun t146 => (if t146 = true then ((dirs_Check.f (⟨#[46, 46]⟩ : ByteArray)).bind fun t147 => (some (t147 == 71))) else (some false))) else (some false)) else (some false)) = some r := by rw [if_pos rfl] at H; exact H
    clear H
    have H := H1
    clear H1
    by_cases c6 : t128 = 0
    · rw [if_pos c6] at H
      have c6b0 : (t128 == 0) = true := beq_iff_eq.mpr c6
      have c6b1 : (t128 != 0) = false := bne_eq_false_iff_eq.mpr c6
      clear c6
      by_cases c7 : t136 = 0
      · rw [if_pos c7] at H
        have c7b0 : (t136 == 0) = true := beq_iff_eq.mpr c7
        have c7b1 : (t136 != 0) = false := bne_eq_false_iff_eq.mpr c7
        clear c7
        obtain ⟨y143, hy143⟩ : ∃ y_ : List (S37), y_ = (([(⟨(⟨#[97]⟩ : ByteArray), 2⟩ : S37), (⟨(⟨#[98]⟩ : ByteArray), 1⟩ : S37)] : List (S37))) := ⟨_, rfl⟩
        replace H : ((sutlerbase_SameNames.f k t135 y143).bind fun t146 => (if t146 = true then ((dirs_Check.f (⟨#[46, 46]⟩ : ByteArray)).bind fun t147 => (some (t147 == 71))) else (some false))) = some r := by first | (rw [hy143]; with_reducible exact H) | (have H2_ := (Option.bind_some _ _).symm.trans H; rw [hy143]; with_reducible exact H2_) | (have H2_ := (Option.bind_some _ _).symm.trans H; with_reducible exact H2_) | with_reducible exact H | (rw [hy143]; exact H) | exact H
        have Ny143 := Aside0.mk hy143
        clear hy143
        replace H := Option.bind_eq_some_iff.mp H
        obtain ⟨t146, A80, H⟩ := H
        replace H : (if t146 = true then ((dirs_Check.f (⟨#[46, 46]⟩ : ByteArray)).bind fun t147 => (some (t147 == 71))) else (some false)) = some r := H
        have A8 := Aside0.mk A80
        clear A80
        by_cases c9 : t146 = true
        · subst c9
          have H1 : ((dirs_Check.f (⟨#[46, 46]⟩ : ByteArray)).bind fun t147 => (some (t147 == 71))) = some r := by rw [if_pos rfl] at H; exact H
          clear H
          have H := H1
          clear H1
          replace H := Option.bind_eq_some_iff.mp H
          obtain ⟨t147, A100, H⟩ := H
          replace H : (some (t147 == 71)) = some r := H
          have A10 := Aside0.mk A100
          clear A100
          obtain rfl := Option.some.inj H
          go_enter Try.func8, Try.ntmps8
          go_wp2_with (first | ((with_reducible refine gate_dst (N := 8) rfl ?_); (try (refine gate_guard (by rfl) ?_; dsimp only)); refine Kd.R_lit k37 _ 37 ?hg (N := 8) ?hd (xs := ([(⟨(⟨#[97]⟩ : ByteArray), 258⟩ : S37)] : List (S37))) (inner := [.string (⟨#[97]⟩ : ByteArray), .int .i64 258]) (ok := fun _ => True) (okp := fun _ => True) ?hr ?hp (fun _ hk => hk) trivial (Below.refl _ _) (Nat.le_refl _) (by simp) ?_; (case hd => rfl); (case hg => rfl); (case hr => first | (go_simp; done) | (go_simp; rfl)); (case hp => exact (Reps.c2 (show Kd.M k37 _ _ _ (⟨(⟨#[97]⟩ : ByteArray), 258⟩ : S37) [.string (⟨#[97]⟩ : ByteArray), .int .i64 258] from (k37_mkM _ _ _ (⟨(⟨#[97]⟩ : ByteArray), 258⟩ : S37) )) (Reps.none _ _))); intro v125 w11 ho12 hb hg_ hnew_; clear hg_ hnew_; (first | rw [← Ny124.out] at ho12 | (simp only [Int.reduceToNat] at ho12; rw [← Ny124.out] at ho12)); have n0_ := Aside0.mk (Kd.R_lower ho12 (below_size (by repeat (first | (with_reducible first | exact HB.out | apply below_alloc | apply pw_below_drewN | apply below_drew1) | exact HB.out)))); have n1_ := Aside0.mk (below_step (by repeat (first | (with_reducible first | exact HB.out | apply below_alloc | apply pw_below_drewN | apply below_drew1) | exact HB.out)) hb); clear HB; have HO126 := n0_; have HB := n1_; clear n0_ n1_; clear hb ho12; obtain ⟨Ao13, co13, eo13⟩ := Kd.R_slice HO126.out; subst eo13) | ((with_reducible refine gate_callee (f := 9) rfl ?_); refine goesL_ (some 9) rfl rfl Try.func9 (by kernel_rfl) rfl #[.slice Ao13 y124.length co13] rfl (by (try simp only [List.map_toArray, List.map_cons, List.map_nil]); first | done | rfl | (simp only [List.length_drop, List.length_take]; rfl)) ?_; (with_reducible refine (dirs_Print.calls _ _ y124 t127 t128 _ ?side1 ?side2 A1.out).mono ?_); (case side1 => repeat (first | exact (Kd.R_reads' HO126.out).2.2 | (with_reducible refine Kd.C_alloc ?_ _) | (with_reducible refine Kd.C_drewN ?_ _) | (with_reducible refine Kd.C_drew ?_))); (case side2 => exact (Kd.R_reads' HO126.out).2.1); rintro e w14 ⟨v129, rfl, ho0, hb⟩; refine ⟨_, rfl, ?_⟩; have n0_ := Aside0.mk (Kd.R_below (by (with_reducible repeat (first | apply Kd.R_alloc | apply Kd.R_drewN | apply Kd.R_drew)); exact HO126.out) hb); have n1_ := Aside0.mk (Kd.R_lower ho0 (below_size (by repeat (first | (with_reducible first | exact HB.out | apply below_alloc | apply pw_below_drewN | apply below_drew1) | exact HB.out)))); have n2_ := Aside0.mk (below_step (by repeat (first | (with_reducible first | exact HB.out | apply below_alloc | apply pw_below_drewN | apply below_drew1) | exact HB.out)) hb); clear HO126; clear HB; have HO126 := n0_; have HO130 := n1_; have HB := n2_; clear n0_ n1_ n2_; (try clear hb); (try clear hb2); (try clear hk); (try clear hi); (try clear ho0)) | ((with_reducible refine gate_callee (f := 10) rfl ?_); refine goesL_ (some 13) rfl rfl Try.func10 (by kernel_rfl) rfl #[.slice none 0 0, .string (⟨#[98]⟩ : ByteArray), .int .i64 1] rfl (by (try simp only [List.map_toArray, List.map_cons, List.map_nil]); first | done | rfl | (simp only [List.length_drop, List.length_take]; rfl)) ?_; (refine (dirs_Add.calls _ _ ([] : List (S37)) (⟨#[98]⟩ : ByteArray) 1 t131 t132 _ ?side1 ?side2 A2.out).mono ?_); (case side1 => exact Kd.C_nil _ _); (case side2 => exact Nat.le_refl _); rintro e w15 ⟨v133, rfl, ho0, hb⟩; refine ⟨_, rfl, ?_⟩; have n0_ := Aside0.mk (Kd.R_elder' (by (with_reducible repeat (first | apply Kd.R_alloc | apply Kd.R_drewN | apply Kd.R_drew)); exact HO126.out) (Kd.R_base ho0) hb); have n1_ := Aside0.mk (Kd.R_below (by (with_reducible repeat (first | apply Kd.R_alloc | apply Kd.R_drewN | apply Kd.R_drew)); exact HO130.out) hb); have n2_ := Aside0.mk (Kd.R_lower (Kd.R_new' ho0 (Kd.R_lt (by (with_reducible repeat (first | apply Kd.R_alloc | apply Kd.R_drewN | apply Kd.R_drew)); exact HO126.out))) (below_size (by repeat (first | (with_reducible first | exact HB.out | apply below_alloc | apply pw_below_drewN | apply below_drew1) | exact HB.out)))); have n3_ := Aside0.mk (below_step (by repeat (first | (with_reducible first | exact HB.out | apply below_alloc | apply pw_below_drewN | apply below_drew1) | exact HB.out)) hb); clear HO126; clear HO130; clear HB; have HO126 := n0_; have HO130 := n1_; have HO134 := n2_; have HB := n3_; clear n0_ n1_ n2_ n3_; (try clear hb); (try clear hb2); (try clear hk); (try clear hi); (try clear ho0); obtain ⟨Ao16, co16, eo16⟩ := Kd.R_slice HO134.out; subst eo16) | ((with_reducible refine gate_callee (f := 10) rfl ?_); refine goesL_ (some 18) rfl rfl Try.func10 (by kernel_rfl) rfl #[.slice Ao16 t131.length co16, .string (⟨#[97]⟩ : ByteArray), .int .i64 2] rfl (by (try simp only [List.map_toArray, List.map_cons, List.map_nil]); first | done | rfl | (simp only [List.length_drop, List.length_take]; rfl)) ?_; (with_reducible refine (dirs_Add.calls _ _ t131 (⟨#[97]⟩ : ByteArray) 2 t135 t136 _ ?side1 ?side2 A3.out).mono ?_); (case side1 => repeat (first | exact (Kd.R_reads' HO134.out).2.2 | (with_reducible refine Kd.C_alloc ?_ _) | (with_reducible refine Kd.C_drewN ?_ _) | (with_reducible refine Kd.C_drew ?_))); (case side2 => exact (Kd.R_reads' HO134.out).2.1); rintro e w17 ⟨v137, rfl, ho0, hb⟩; refine ⟨_, rfl, ?_⟩; have n0_ := Aside0.mk (Kd.R_elder' (by (with_reducible repeat (first | apply Kd.R_alloc | apply Kd.R_drewN | apply Kd.R_drew)); exact HO126.out) (Kd.R_base ho0) hb); have n1_ := Aside0.mk (Kd.R_below (by (with_reducible repeat (first | apply Kd.R_alloc | apply Kd.R_drewN | apply Kd.R_drew)); exact HO130.out) hb); have n2_ := Aside0.mk (Kd.R_elder' (by (with_reducible repeat (first | apply Kd.R_alloc | apply Kd.R_drewN | apply Kd.R_drew)); exact HO134.out) (Kd.R_base ho0) hb); have n3_ := Aside0.mk (Kd.R_lower (Kd.R_new' (Kd.R_new' ho0 (Kd.R_lt (by (with_reducible repeat (first | apply Kd.R_alloc | apply Kd.R_drewN | apply Kd.R_drew)); exact HO126.out))) (Kd.R_lt (by (with_reducible repeat (first | apply Kd.R_alloc | apply Kd.R_drewN | apply Kd.R_drew)); exact HO134.out))) (below_size (by repeat (first | (with_reducible first | exact HB.out | apply below_alloc | apply pw_below_drewN | apply below_drew1) | exact HB.out)))); have n4_ := Aside0.mk (below_step (by repeat (first | (with_reducible first | exact HB.out | apply below_alloc | apply pw_below_drewN | apply below_drew1) | exact HB.out)) hb); clear HO126; clear HO130; clear HO134; clear HB; have HO126 := n0_; have HO130 := n1_; have HO134 := n2_; have HO138 := n3_; have HB := n4_; clear n0_ n1_ n2_ n3_ n4_; (try clear hb); (try clear hb2); (try clear hk); (try clear hi); (try clear ho0)) | ((with_reducible refine gate_dst (N := 22) rfl ?_); (try (refine gate_guard (by rfl) ?_; dsimp only)); refine Kd.R_lit (Kd.int .u8) _ 5 ?hg (N := 22) ?hd (xs := ([1, 97, 2, 1] : List Int)) (inner := [.int .u8 1, .int .u8 97, .int .u8 2, .int .u8 1]) (ok := fun _ => True) (okp := fun _ => True) ?hr ?hp (fun _ hk => hk) trivial (Below.refl _ _) (Nat.le_refl _) (by simp) ?_; (case hd => rfl); (case hg => rfl); (case hr => first | (go_simp; done) | (go_simp; rfl)); (case hp => exact (Reps.one (show Kd.M (Kd.int .u8) _ _ _ 1 [.int .u8 1] from rfl) (Reps.one (show Kd.M (Kd.int .u8) _ _ _ 97 [.int .u8 97] from rfl) (Reps.one (show Kd.M (Kd.int .u8) _ _ _ 2 [.int .u8 2] from rfl) (Reps.one (show Kd.M (Kd.int .u8) _ _ _ 1 [.int .u8 1] from rfl) (Reps.none _ _)))))); intro v140 w18 ho19 hb hg_ hnew_; clear hg_ hnew_; (first | rw [← Ny139.out] at ho19 | (simp only [Int.reduceToNat] at ho19; rw [← Ny139.out] at ho19)); have n0_ := Aside0.mk (Kd.R_below (by (with_reducible repeat (first | apply Kd.R_alloc | apply Kd.R_drewN | apply Kd.R_drew)); exact HO126.out) hb); have n1_ := Aside0.mk (Kd.R_elder' (by (with_reducible repeat (first | apply Kd.R_alloc | apply Kd.R_drewN | apply Kd.R_drew)); exact HO130.out) (Kd.R_base ho19) hb); have n2_ := Aside0.mk (Kd.R_below (by (with_reducible repeat (first | apply Kd.R_alloc | apply Kd.R_drewN | apply Kd.R_drew)); exact HO134.out) hb); have n3_ := Aside0.mk (Kd.R_below (by (with_reducible repeat (first | apply Kd.R_alloc | apply Kd.R_drewN | apply Kd.R_drew)); exact HO138.out) hb); have n4_ := Aside0.mk (Kd.R_lower (Kd.R_new' ho19 (Kd.R_lt (by (with_reducible repeat (first | apply Kd.R_alloc | apply Kd.R_drewN | apply Kd.R_drew)); exact HO130.out))) (below_size (by repeat (first | (with_reducible first | exact HB.out | apply below_alloc | apply pw_below_drewN | apply below_drew1) | exact HB.out)))); have n5_ := Aside0.mk (below_step (by repeat (first | (with_reducible first | exact HB.out | apply below_alloc | apply pw_below_drewN | apply below_drew1) | exact HB.out)) hb); clear HO126; clear HO130; clear HO134; clear HO138; clear HB; have HO126 := n0_; have HO130 := n1_; have HO134 := n2_; have HO138 := n3_; have HO141 := n4_; have HB := n5_; clear n0_ n1_ n2_ n3_ n4_ n5_; clear hb ho19; obtain ⟨Ao20, co20, eo20⟩ := Kd.R_slice HO130.out; subst eo20; obtain ⟨Ao21, co21, eo21⟩ := Kd.R_slice HO141.out; subst eo21) | ((with_reducible refine gate_callee (f := 22) rfl ?_); refine goesL_ (some 23) rfl rfl Try.func22 (by kernel_rfl) rfl #[.slice Ao20 t127.length co20, .slice Ao21 y139.length co21] rfl (by (try simp only [List.map_toArray, List.map_cons, List.map_nil]); first | done | rfl | (simp only [List.length_drop, List.length_take]; rfl)) ?_; (with_reducible refine (sutlerbase_SameBytes.calls k _ _ t127 _ _ y139 true _ ?side1 ?side2 ?side3 ?side4 A4.out).mono ?_); (case side1 => repeat (first | exact (Kd.R_reads' HO130.out).2.2 | (with_reducible refine Kd.C_alloc ?_ _) | (with_reducible refine Kd.C_drewN ?_ _) | (with_reducible refine Kd.C_drew ?_))); (case side2 => exact (Kd.R_reads' HO130.out).2.1); (case side3 => repeat (first | exact (Kd.R_reads' HO141.out).2.2 | (with_reducible refine Kd.C_alloc ?_ _) | (with_reducible refine Kd.C_drewN ?_ _) | (with_reducible refine Kd.C_drew ?_))); (case side4 => exact (Kd.R_reads' HO141.out).2.1); rintro e w' ⟨rfl, ⟨nd, rfl⟩⟩; refine ⟨_, rfl, ?_⟩) | ((with_reducible refine gate_dst (N := 36) rfl ?_); (try (refine gate_guard (by rfl) ?_; dsimp only)); refine Kd.R_lit k37 _ 37 ?hg (N := 36) ?hd (xs := ([(⟨(⟨#[97]⟩ : ByteArray), 2⟩ : S37), (⟨(⟨#[98]⟩ : ByteArray), 1⟩ : S37)] : List (S37))) (inner := [.string (⟨#[97]⟩ : ByteArray), .int .i64 2, .string (⟨#[98]⟩ : ByteArray), .int .i64 1]) (ok := fun _ => True) (okp := fun _ => True) ?hr ?hp (fun _ hk => hk) trivial (Below.refl _ _) (Nat.le_refl _) (by simp) ?_; (case hd => rfl); (case hg => rfl); (case hr => first | (go_simp; done) | (go_simp; rfl)); (case hp => exact (Reps.c2 (show Kd.M k37 _ _ _ (⟨(⟨#[97]⟩ : ByteArray), 2⟩ : S37) [.string (⟨#[97]⟩ : ByteArray), .int .i64 2] from (k37_mkM _ _ _ (⟨(⟨#[97]⟩ : ByteArray), 2⟩ : S37) )) (Reps.c2 (show Kd.M k37 _ _ _ (⟨(⟨#[98]⟩ : ByteArray), 1⟩ : S37) [.string (⟨#[98]⟩ : ByteArray), .int .i64 1] from (k37_mkM _ _ _ (⟨(⟨#[98]⟩ : ByteArray), 1⟩ : S37) )) (Reps.none _ _)))); intro v144 w22 ho23 hb hg_ hnew_; clear hg_ hnew_; (first | rw [← Ny143.out] at ho23 | (simp only [Int.reduceToNat] at ho23; rw [← Ny143.out] at ho23)); have n0_ := Aside0.mk (Kd.R_elder' (by (with_reducible repeat (first | apply Kd.R_alloc | apply Kd.R_drewN | apply Kd.R_drew)); exact HO126.out) (Kd.R_base ho23) hb); have n1_ := Aside0.mk (Kd.R_below (by (with_reducible repeat (first | apply Kd.R_alloc | apply Kd.R_drewN | apply Kd.R_drew)); exact HO130.out) hb); have n2_ := Aside0.mk (Kd.R_elder' (by (with_reducible repeat (first | apply Kd.R_alloc | apply Kd.R_drewN | apply Kd.R_drew)); exact HO134.out) (Kd.R_base ho23) hb); have n3_ := Aside0.mk (Kd.R_elder' (by (with_reducible repeat (first | apply Kd.R_alloc | apply Kd.R_drewN | apply Kd.R_drew)); exact HO138.out) (Kd.R_base ho23) hb); have n4_ := Aside0.mk (Kd.R_below (by (with_reducible repeat (first | apply Kd.R_alloc | apply Kd.R_drewN | apply Kd.R_drew)); exact HO141.out) hb); have n5_ := Aside0.mk (Kd.R_lower (Kd.R_new' (Kd.R_new' (Kd.R_new' ho23 (Kd.R_lt (by (with_reducible repeat (first | apply Kd.R_alloc | apply Kd.R_drewN | apply Kd.R_drew)); exact HO126.out))) (Kd.R_lt (by (with_reducible repeat (first | apply Kd.R_alloc | apply Kd.R_drewN | apply Kd.R_drew)); exact HO134.out))) (Kd.R_lt (by (with_reducible repeat (first | apply Kd.R_alloc | apply Kd.R_drewN | apply Kd.R_drew)); exact HO138.out))) (below_size (by repeat (first | (with_reducible first | exact HB.out | apply below_alloc | apply pw_below_drewN | apply below_drew1) | exact HB.out)))); have n6_ := Aside0.mk (below_step (by repeat (first | (with_reducible first | exact HB.out | apply below_alloc | apply pw_below_drewN | apply below_drew1) | exact HB.out)) hb); clear HO126; clear HO130; clear HO134; clear HO138; clear HO141; clear HB; have HO126 := n0_; have HO130 := n1_; have HO134 := n2_; have HO138 := n3_; have HO141 := n4_; have HO145 := n5_; have HB := n6_; clear n0_ n1_ n2_ n3_ n4_ n5_ n6_; clear hb ho23; obtain ⟨Ao24, co24, eo24⟩ := Kd.R_slice HO138.out; subst eo24; obtain ⟨Ao25, co25, eo25⟩ := Kd.R_slice HO145.out; subst eo25) | (go_at_call 17; (with_reducible refine (sutlerbase_SameNames.calls k _ _ t135 _ _ y143 true _ ?side1 ?side2 ?side3 ?side4 A8.out).mono ?_); (case side1 => repeat (first | exact (Kd.R_reads' HO138.out).2.2 | (with_reducible refine Kd.C_alloc ?_ _) | (with_reducible refine Kd.C_drewN ?_ _) | (with_reducible refine Kd.C_drew ?_))); (case side2 => exact (Kd.R_reads' HO138.out).2.1); (case side3 => repeat (first | exact (Kd.R_reads' HO145.out).2.2 | (with_reducible refine Kd.C_alloc ?_ _) | (with_reducible refine Kd.C_drewN ?_ _) | (with_reducible refine Kd.C_drew ?_))); (case side4 => exact (Kd.R_reads' HO145.out).2.1); rintro e w' ⟨rfl, ⟨nd, rfl⟩⟩) | (go_at_call 23; (with_reducible refine (dirs_Check.calls (⟨#[46, 46]⟩ : ByteArray) t147 _ A10.out).mono ?_); rintro e w26 ⟨rfl, hb⟩; have n0_ := Aside0.mk (Kd.R_below (by (with_reducible repeat (first | apply Kd.R_alloc | apply Kd.R_drewN | apply Kd.R_drew)); exact HO126.out) hb); have n1_ := Aside0.mk (Kd.R_below (by (with_reducible repeat (first | apply Kd.R_alloc | apply Kd.R_drewN | apply Kd.R_drew)); exact HO130.out) hb); have n2_ := Aside0.mk (Kd.R_below (by (with_reducible repeat (first | apply Kd.R_alloc | apply Kd.R_drewN | apply Kd.R_drew)); exact HO134.out) hb); have n3_ := Aside0.mk (Kd.R_below (by (with_reducible repeat (first | apply Kd.R_alloc | apply Kd.R_drewN | apply Kd.R_drew)); exact HO138.out) hb); have n4_ := Aside0.mk (Kd.R_below (by (with_reducible repeat (first | apply Kd.R_alloc | apply Kd.R_drewN | apply Kd.R_drew)); exact HO141.out) hb); have n5_ := Aside0.mk (Kd.R_below (by (with_reducible repeat (first | apply Kd.R_alloc | apply Kd.R_drewN | apply Kd.R_drew)); exact HO145.out) hb); have n6_ := Aside0.mk (below_step (by repeat (first | (with_reducible first | exact HB.out | apply below_alloc | apply pw_below_drewN | apply below_drew1) | exact HB.out)) hb); clear HO126; clear HO130; clear HO134; clear HO138; clear HO141; clear HO145; clear HB; have HO126 := n0_; have HO130 := n1_; have HO134 := n2_; have HO138 := n3_; have HO141 := n4_; have HO145 := n5_; have HB := n6_; clear n0_ n1_ n2_ n3_ n4_ n5_ n6_; (try clear hb); (try clear hb2); (try clear hk); (try clear hi)))
          go_ret
          exact ⟨by first | rfl | (simp [errW_none, errW_some] <;> rfl) | (simp [*, errW_none, errW_some] <;> rfl), by repeat (first | (with_reducible first | exact HB.out | apply below_alloc | apply pw_below_drewN | apply below_drew1) | exact HB.out)⟩
        · replace c9 := Bool.eq_false_iff.mpr c9
          subst c9
          have H1 : (some false) = some r := by rw [if_neg (show ¬ (false = true) by decide)] at H; exact H
          clear H
          have H := H1
          clear H1
          obtain rfl := Option.some.inj H
          go_enter Try.func8, Try.ntmps8
          go_wp2_with (first | ((with_reducible refine gate_dst (N := 8) rfl ?_); (try (refine gate_guard (by rfl) ?_; dsimp only)); refine Kd.R_lit k37 _ 37 ?hg (N := 8) ?hd (xs := ([(⟨(⟨#[97]⟩ : ByteArray), 258⟩ : S37)] : List (S37))) (inner := [.string (⟨#[97]⟩ : ByteArray), .int .i64 258]) (ok := fun _ => True) (okp := fun _ => True) ?hr ?hp (fun _ hk => hk) trivial (Below.refl _ _) (Nat.le_refl _) (by simp) ?_; (case hd => rfl); (case hg => rfl); (case hr => first | (go_simp; done) | (go_simp; rfl)); (case hp => exact (Reps.c2 (show Kd.M k37 _ _ _ (⟨(⟨#[97]⟩ : ByteArray), 258⟩ : S37) [.string (⟨#[97]⟩ : ByteArray), .int .i64 258] from (k37_mkM _ _ _ (⟨(⟨#[97]⟩ : ByteArray), 258⟩ : S37) )) (Reps.none _ _))); intro v125 w27 ho28 hb hg_ hnew_; clear hg_ hnew_; (first | rw [← Ny124.out] at ho28 | (simp only [Int.reduceToNat] at ho28; rw [← Ny124.out] at ho28)); have n0_ := Aside0.mk (Kd.R_lower ho28 (below_size (by repeat (first | (with_reducible first | exact HB.out | apply below_alloc | apply pw_below_drewN | apply below_drew1) | exact HB.out)))); have n1_ := Aside0.mk (below_step (by repeat (first | (with_reducible first | exact HB.out | apply below_alloc | apply pw_below_drewN | apply below_drew1) | exact HB.out)) hb); clear HB; have HO126 := n0_; have HB := n1_; clear n0_ n1_; clear hb ho28; obtain ⟨Ao29, co29, eo29⟩ := Kd.R_slice HO126.out; subst eo29) | ((with_reducible refine gate_callee (f := 9) rfl ?_); refine goesL_ (some 9) rfl rfl Try.func9 (by kernel_rfl) rfl #[.slice Ao29 y124.length co29] rfl (by (try simp only [List.map_toArray, List.map_cons, List.map_nil]); first | done | rfl | (simp only [List.length_drop, List.length_take]; rfl)) ?_; (with_reducible refine (dirs_Print.calls _ _ y124 t127 t128 _ ?side1 ?side2 A1.out).mono ?_); (case side1 => repeat (first | exact (Kd.R_reads' HO126.out).2.2 | (with_reducible refine Kd.C_alloc ?_ _) | (with_reducible refine Kd.C_drewN ?_ _) | (with_reducible refine Kd.C_drew ?_))); (case side2 => exact (Kd.R_reads' HO126.out).2.1); rintro e w30 ⟨v129, rfl, ho0, hb⟩; refine ⟨_, rfl, ?_⟩; have n0_ := Aside0.mk (Kd.R_below (by (with_reducible repeat (first | apply Kd.R_alloc | apply Kd.R_drewN | apply Kd.R_drew)); exact HO126.out) hb); have n1_ := Aside0.mk (Kd.R_lower ho0 (below_size (by repeat (first | (with_reducible first | exact HB.out | apply below_alloc | apply pw_below_drewN | apply below_drew1) | exact HB.out)))); have n2_ := Aside0.mk (below_step (by repeat (first | (with_reducible first | exact HB.out | apply below_alloc | apply pw_below_drewN | apply below_drew1) | exact HB.out)) hb); clear HO126; clear HB; have HO126 := n0_; have HO130 := n1_; have HB := n2_; clear n0_ n1_ n2_; (try clear hb); (try clear hb2); (try clear hk); (try clear hi); (try clear ho0)) | ((with_reducible refine gate_callee (f := 10) rfl ?_); refine goesL_ (some 13) rfl rfl Try.func10 (by kernel_rfl) rfl #[.slice none 0 0, .string (⟨#[98]⟩ : ByteArray), .int .i64 1] rfl (by (try simp only [List.map_toArray, List.map_cons, List.map_nil]); first | done | rfl | (simp only [List.length_drop, List.length_take]; rfl)) ?_; (refine (dirs_Add.calls _ _ ([] : List (S37)) (⟨#[98]⟩ : ByteArray) 1 t131 t132 _ ?side1 ?side2 A2.out).mono ?_); (case side1 => exact Kd.C_nil _ _); (case side2 => exact Nat.le_refl _); rintro e w31 ⟨v133, rfl, ho0, hb⟩; refine ⟨_, rfl, ?_⟩; have n0_ := Aside0.mk (Kd.R_elder' (by (with_reducible repeat (first | apply Kd.R_alloc | apply Kd.R_drewN | apply Kd.R_drew)); exact HO126.out) (Kd.R_base ho0) hb); have n1_ := Aside0.mk (Kd.R_below (by (with_reducible repeat (first | apply Kd.R_alloc | apply Kd.R_drewN | apply Kd.R_drew)); exact HO130.out) hb); have n2_ := Aside0.mk (Kd.R_lower (Kd.R_new' ho0 (Kd.R_lt (by (with_reducible repeat (first | apply Kd.R_alloc | apply Kd.R_drewN | apply Kd.R_drew)); exact HO126.out))) (below_size (by repeat (first | (with_reducible first | exact HB.out | apply below_alloc | apply pw_below_drewN | apply below_drew1) | exact HB.out)))); have n3_ := Aside0.mk (below_step (by repeat (first | (with_reducible first | exact HB.out | apply below_alloc | apply pw_below_drewN | apply below_drew1) | exact HB.out)) hb); clear HO126; clear HO130; clear HB; have HO126 := n0_; have HO130 := n1_; have HO134 := n2_; have HB := n3_; clear n0_ n1_ n2_ n3_; (try clear hb); (try clear hb2); (try clear hk); (try clear hi); (try clear ho0); obtain ⟨Ao32, co32, eo32⟩ := Kd.R_slice HO134.out; subst eo32) | ((with_reducible refine gate_callee (f := 10) rfl ?_); refine goesL_ (some 18) rfl rfl Try.func10 (by kernel_rfl) rfl #[.slice Ao32 t131.length co32, .string (⟨#[97]⟩ : ByteArray), .int .i64 2] rfl (by (try simp only [List.map_toArray, List.map_cons, List.map_nil]); first | done | rfl | (simp only [List.length_drop, List.length_take]; rfl)) ?_; (with_reducible refine (dirs_Add.calls _ _ t131 (⟨#[97]⟩ : ByteArray) 2 t135 t136 _ ?side1 ?side2 A3.out).mono ?_); (case side1 => repeat (first | exact (Kd.R_reads' HO134.out).2.2 | (with_reducible refine Kd.C_alloc ?_ _) | (with_reducible refine Kd.C_drewN ?_ _) | (with_reducible refine Kd.C_drew ?_))); (case side2 => exact (Kd.R_reads' HO134.out).2.1); rintro e w33 ⟨v137, rfl, ho0, hb⟩; refine ⟨_, rfl, ?_⟩; have n0_ := Aside0.mk (Kd.R_elder' (by (with_reducible repeat (first | apply Kd.R_alloc | apply Kd.R_drewN | apply Kd.R_drew)); exact HO126.out) (Kd.R_base ho0) hb); have n1_ := Aside0.mk (Kd.R_below (by (with_reducible repeat (first | apply Kd.R_alloc | apply Kd.R_drewN | apply Kd.R_drew)); exact HO130.out) hb); have n2_ := Aside0.mk (Kd.R_elder' (by (with_reducible repeat (first | apply Kd.R_alloc | apply Kd.R_drewN | apply Kd.R_drew)); exact HO134.out) (Kd.R_base ho0) hb); have n3_ := Aside0.mk (Kd.R_lower (Kd.R_new' (Kd.R_new' ho0 (Kd.R_lt (by (with_reducible repeat (first | apply Kd.R_alloc | apply Kd.R_drewN | apply Kd.R_drew)); exact HO126.out))) (Kd.R_lt (by (with_reducible repeat (first | apply Kd.R_alloc | apply Kd.R_drewN | apply Kd.R_drew)); exact HO134.out))) (below_size (by repeat (first | (with_reducible first | exact HB.out | apply below_alloc | apply pw_below_drewN | apply below_drew1) | exact HB.out)))); have n4_ := Aside0.mk (below_step (by repeat (first | (with_reducible first | exact HB.out | apply below_alloc | apply pw_below_drewN | apply below_drew1) | exact HB.out)) hb); clear HO126; clear HO130; clear HO134; clear HB; have HO126 := n0_; have HO130 := n1_; have HO134 := n2_; have HO138 := n3_; have HB := n4_; clear n0_ n1_ n2_ n3_ n4_; (try clear hb); (try clear hb2); (try clear hk); (try clear hi); (try clear ho0)) | ((with_reducible refine gate_dst (N := 22) rfl ?_); (try (refine gate_guard (by rfl) ?_; dsimp only)); refine Kd.R_lit (Kd.int .u8) _ 5 ?hg (N := 22) ?hd (xs := ([1, 97, 2, 1] : List Int)) (inner := [.int .u8 1, .int .u8 97, .int .u8 2, .int .u8 1]) (ok := fun _ => True) (okp := fun _ => True) ?hr ?hp (fun _ hk => hk) trivial (Below.refl _ _) (Nat.le_refl _) (by simp) ?_; (case hd => rfl); (case hg => rfl); (case hr => first | (go_simp; done) | (go_simp; rfl)); (case hp => exact (Reps.one (show Kd.M (Kd.int .u8) _ _ _ 1 [.int .u8 1] from rfl) (Reps.one (show Kd.M (Kd.int .u8) _ _ _ 97 [.int .u8 97] from rfl) (Reps.one (show Kd.M (Kd.int .u8) _ _ _ 2 [.int .u8 2] from rfl) (Reps.one (show Kd.M (Kd.int .u8) _ _ _ 1 [.int .u8 1] from rfl) (Reps.none _ _)))))); intro v140 w34 ho35 hb hg_ hnew_; clear hg_ hnew_; (first | rw [← Ny139.out] at ho35 | (simp only [Int.reduceToNat] at ho35; rw [← Ny139.out] at ho35)); have n0_ := Aside0.mk (Kd.R_below (by (with_reducible repeat (first | apply Kd.R_alloc | apply Kd.R_drewN | apply Kd.R_drew)); exact HO126.out) hb); have n1_ := Aside0.mk (Kd.R_elder' (by (with_reducible repeat (first | apply Kd.R_alloc | apply Kd.R_drewN | apply Kd.R_drew)); exact HO130.out) (Kd.R_base ho35) hb); have n2_ := Aside0.mk (Kd.R_below (by (with_reducible repeat (first | apply Kd.R_alloc | apply Kd.R_drewN | apply Kd.R_drew)); exact HO134.out) hb); have n3_ := Aside0.mk (Kd.R_below (by (with_reducible repeat (first | apply Kd.R_alloc | apply Kd.R_drewN | apply Kd.R_drew)); exact HO138.out) hb); have n4_ := Aside0.mk (Kd.R_lower (Kd.R_new' ho35 (Kd.R_lt (by (with_reducible repeat (first | apply Kd.R_alloc | apply Kd.R_drewN | apply Kd.R_drew)); exact HO130.out))) (below_size (by repeat (first | (with_reducible first | exact HB.out | apply below_alloc | apply pw_below_drewN | apply below_drew1) | exact HB.out)))); have n5_ := Aside0.mk (below_step (by repeat (first | (with_reducible first | exact HB.out | apply below_alloc | apply pw_below_drewN | apply below_drew1) | exact HB.out)) hb); clear HO126; clear HO130; clear HO134; clear HO138; clear HB; have HO126 := n0_; have HO130 := n1_; have HO134 := n2_; have HO138 := n3_; have HO141 := n4_; have HB := n5_; clear n0_ n1_ n2_ n3_ n4_ n5_; clear hb ho35; obtain ⟨Ao36, co36, eo36⟩ := Kd.R_slice HO130.out; subst eo36; obtain ⟨Ao37, co37, eo37⟩ := Kd.R_slice HO141.out; subst eo37) | ((with_reducible refine gate_callee (f := 22) rfl ?_); refine goesL_ (some 23) rfl rfl Try.func22 (by kernel_rfl) rfl #[.slice Ao36 t127.length co36, .slice Ao37 y139.length co37] rfl (by (try simp only [List.map_toArray, List.map_cons, List.map_nil]); first | done | rfl | (simp only [List.length_drop, List.length_take]; rfl)) ?_; (with_reducible refine (sutlerbase_SameBytes.calls k _ _ t127 _ _ y139 true _ ?side1 ?side2 ?side3 ?side4 A4.out).mono ?_); (case side1 => repeat (first | exact (Kd.R_reads' HO130.out).2.2 | (with_reducible refine Kd.C_alloc ?_ _) | (with_reducible refine Kd.C_drewN ?_ _) | (with_reducible refine Kd.C_drew ?_))); (case side2 => exact (Kd.R_reads' HO130.out).2.1); (case side3 => repeat (first | exact (Kd.R_reads' HO141.out).2.2 | (with_reducible refine Kd.C_alloc ?_ _) | (with_reducible refine Kd.C_drewN ?_ _) | (with_reducible refine Kd.C_drew ?_))); (case side4 => exact (Kd.R_reads' HO141.out).2.1); rintro e w' ⟨rfl, ⟨nd, rfl⟩⟩; refine ⟨_, rfl, ?_⟩) | ((with_reducible refine gate_dst (N := 36) rfl ?_); (try (refine gate_guard (by rfl) ?_; dsimp only)); refine Kd.R_lit k37 _ 37 ?hg (N := 36) ?hd (xs := ([(⟨(⟨#[97]⟩ : ByteArray), 2⟩ : S37), (⟨(⟨#[98]⟩ : ByteArray), 1⟩ : S37)] : List (S37))) (inner := [.string (⟨#[97]⟩ : ByteArray), .int .i64 2, .string (⟨#[98]⟩ : ByteArray), .int .i64 1]) (ok := fun _ => True) (okp := fun _ => True) ?hr ?hp (fun _ hk => hk) trivial (Below.refl _ _) (Nat.le_refl _) (by simp) ?_; (case hd => rfl); (case hg => rfl); (case hr => first | (go_simp; done) | (go_simp; rfl)); (case hp => exact (Reps.c2 (show Kd.M k37 _ _ _ (⟨(⟨#[97]⟩ : ByteArray), 2⟩ : S37) [.string (⟨#[97]⟩ : ByteArray), .int .i64 2] from (k37_mkM _ _ _ (⟨(⟨#[97]⟩ : ByteArray), 2⟩ : S37) )) (Reps.c2 (show Kd.M k37 _ _ _ (⟨(⟨#[98]⟩ : ByteArray), 1⟩ : S37) [.string (⟨#[98]⟩ : ByteArray), .int .i64 1] from (k37_mkM _ _ _ (⟨(⟨#[98]⟩ : ByteArray), 1⟩ : S37) )) (Reps.none _ _)))); intro v144 w38 ho39 hb hg_ hnew_; clear hg_ hnew_; (first | rw [← Ny143.out] at ho39 | (simp only [Int.reduceToNat] at ho39; rw [← Ny143.out] at ho39)); have n0_ := Aside0.mk (Kd.R_elder' (by (with_reducible repeat (first | apply Kd.R_alloc | apply Kd.R_drewN | apply Kd.R_drew)); exact HO126.out) (Kd.R_base ho39) hb); have n1_ := Aside0.mk (Kd.R_below (by (with_reducible repeat (first | apply Kd.R_alloc | apply Kd.R_drewN | apply Kd.R_drew)); exact HO130.out) hb); have n2_ := Aside0.mk (Kd.R_elder' (by (with_reducible repeat (first | apply Kd.R_alloc | apply Kd.R_drewN | apply Kd.R_drew)); exact HO134.out) (Kd.R_base ho39) hb); have n3_ := Aside0.mk (Kd.R_elder' (by (with_reducible repeat (first | apply Kd.R_alloc | apply Kd.R_drewN | apply Kd.R_drew)); exact HO138.out) (Kd.R_base ho39) hb); have n4_ := Aside0.mk (Kd.R_below (by (with_reducible repeat (first | apply Kd.R_alloc | apply Kd.R_drewN | apply Kd.R_drew)); exact HO141.out) hb); have n5_ := Aside0.mk (Kd.R_lower (Kd.R_new' (Kd.R_new' (Kd.R_new' ho39 (Kd.R_lt (by (with_reducible repeat (first | apply Kd.R_alloc | apply Kd.R_drewN | apply Kd.R_drew)); exact HO126.out))) (Kd.R_lt (by (with_reducible repeat (first | apply Kd.R_alloc | apply Kd.R_drewN | apply Kd.R_drew)); exact HO134.out))) (Kd.R_lt (by (with_reducible repeat (first | apply Kd.R_alloc | apply Kd.R_drewN | apply Kd.R_drew)); exact HO138.out))) (below_size (by repeat (first | (with_reducible first | exact HB.out | apply below_alloc | apply pw_below_drewN | apply below_drew1) | exact HB.out)))); have n6_ := Aside0.mk (below_step (by repeat (first | (with_reducible first | exact HB.out | apply below_alloc | apply pw_below_drewN | apply below_drew1) | exact HB.out)) hb); clear HO126; clear HO130; clear HO134; clear HO138; clear HO141; clear HB; have HO126 := n0_; have HO130 := n1_; have HO134 := n2_; have HO138 := n3_; have HO141 := n4_; have HO145 := n5_; have HB := n6_; clear n0_ n1_ n2_ n3_ n4_ n5_ n6_; clear hb ho39; obtain ⟨Ao40, co40, eo40⟩ := Kd.R_slice HO138.out; subst eo40; obtain ⟨Ao41, co41, eo41⟩ := Kd.R_slice HO145.out; subst eo41) | (go_at_call 17; (with_reducible refine (sutlerbase_SameNames.calls k _ _ t135 _ _ y143 false _ ?side1 ?side2 ?side3 ?side4 A8.out).mono ?_); (case side1 => repeat (first | exact (Kd.R_reads' HO138.out).2.2 | (with_reducible refine Kd.C_alloc ?_ _) | (with_reducible refine Kd.C_drewN ?_ _) | (with_reducible refine Kd.C_drew ?_))); (case side2 => exact (Kd.R_reads' HO138.out).2.1); (case side3 => repeat (first | exact (Kd.R_reads' HO145.out).2.2 | (with_reducible refine Kd.C_alloc ?_ _) | (with_reducible refine Kd.C_drewN ?_ _) | (with_reducible refine Kd.C_drew ?_))); (case side4 => exact (Kd.R_reads' HO145.out).2.1); rintro e w' ⟨rfl, ⟨nd, rfl⟩⟩))
          go_ret
          exact ⟨by first | rfl | (simp [errW_none, errW_some] <;> rfl) | (simp [*, errW_none, errW_some] <;> rfl), by repeat (first | (with_reducible first | exact HB.out | apply below_alloc | apply pw_below_drewN | apply below_drew1) | exact HB.out)⟩
      · rw [if_neg c7] at H
        have c7b0 : (t136 == 0) = false := beq_eq_false_iff_ne.mpr c7
        have c7b1 : (t136 != 0) = true := bne_iff_ne.mpr c7
        obtain rfl := Option.some.inj H
        go_enter Try.func8, Try.ntmps8
        go_wp2_with (first | ((with_reducible refine gate_dst (N := 8) rfl ?_); (try (refine gate_guard (by rfl) ?_; dsimp only)); refine Kd.R_lit k37 _ 37 ?hg (N := 8) ?hd (xs := ([(⟨(⟨#[97]⟩ : ByteArray), 258⟩ : S37)] : List (S37))) (inner := [.string (⟨#[97]⟩ : ByteArray), .int .i64 258]) (ok := fun _ => True) (okp := fun _ => True) ?hr ?hp (fun _ hk => hk) trivial (Below.refl _ _) (Nat.le_refl _) (by simp) ?_; (case hd => rfl); (case hg => rfl); (case hr => first | (go_simp; done) | (go_simp; rfl)); (case hp => exact (Reps.c2 (show Kd.M k37 _ _ _ (⟨(⟨#[97]⟩ : ByteArray), 258⟩ : S37) [.string (⟨#[97]⟩ : ByteArray), .int .i64 258] from (k37_mkM _ _ _ (⟨(⟨#[97]⟩ : ByteArray), 258⟩ : S37) )) (Reps.none _ _))); intro v125 w42 ho43 hb hg_ hnew_; clear hg_ hnew_; (first | rw [← Ny124.out] at ho43 | (simp only [Int.reduceToNat] at ho43; rw [← Ny124.out] at ho43)); have n0_ := Aside0.mk (Kd.R_lower ho43 (below_size (by repeat (first | (with_reducible first | exact HB.out | apply below_alloc | apply pw_below_drewN | apply below_drew1) | exact HB.out)))); have n1_ := Aside0.mk (below_step (by repeat (first | (with_reducible first | exact HB.out | apply below_alloc | apply pw_below_drewN | apply below_drew1) | exact HB.out)) hb); clear HB; have HO126 := n0_; have HB := n1_; clear n0_ n1_; clear hb ho43; obtain ⟨Ao44, co44, eo44⟩ := Kd.R_slice HO126.out; subst eo44) | ((with_reducible refine gate_callee (f := 9) rfl ?_); refine goesL_ (some 9) rfl rfl Try.func9 (by kernel_rfl) rfl #[.slice Ao44 y124.length co44] rfl (by (try simp only [List.map_toArray, List.map_cons, List.map_nil]); first | done | rfl | (simp only [List.length_drop, List.length_take]; rfl)) ?_; (with_reducible refine (dirs_Print.calls _ _ y124 t127 t128 _ ?side1 ?side2 A1.out).mono ?_); (case side1 => repeat (first | exact (Kd.R_reads' HO126.out).2.2 | (with_reducible refine Kd.C_alloc ?_ _) | (with_reducible refine Kd.C_drewN ?_ _) | (with_reducible refine Kd.C_drew ?_))); (case side2 => exact (Kd.R_reads' HO126.out).2.1); rintro e w45 ⟨v129, rfl, ho0, hb⟩; refine ⟨_, rfl, ?_⟩; have n0_ := Aside0.mk (Kd.R_below (by (with_reducible repeat (first | apply Kd.R_alloc | apply Kd.R_drewN | apply Kd.R_drew)); exact HO126.out) hb); have n1_ := Aside0.mk (Kd.R_lower ho0 (below_size (by repeat (first | (with_reducible first | exact HB.out | apply below_alloc | apply pw_below_drewN | apply below_drew1) | exact HB.out)))); have n2_ := Aside0.mk (below_step (by repeat (first | (with_reducible first | exact HB.out | apply below_alloc | apply pw_below_drewN | apply below_drew1) | exact HB.out)) hb); clear HO126; clear HB; have HO126 := n0_; have HO130 := n1_; have HB := n2_; clear n0_ n1_ n2_; (try clear hb); (try clear hb2); (try clear hk); (try clear hi); (try clear ho0)) | ((with_reducible refine gate_callee (f := 10) rfl ?_); refine goesL_ (some 13) rfl rfl Try.func10 (by kernel_rfl) rfl #[.slice none 0 0, .string (⟨#[98]⟩ : ByteArray), .int .i64 1] rfl (by (try simp only [List.map_toArray, List.map_cons, List.map_nil]); first | done | rfl | (simp only [List.length_drop, List.length_take]; rfl)) ?_; (refine (dirs_Add.calls _ _ ([] : List (S37)) (⟨#[98]⟩ : ByteArray) 1 t131 t132 _ ?side1 ?side2 A2.out).mono ?_); (case side1 => exact Kd.C_nil _ _); (case side2 => exact Nat.le_refl _); rintro e w46 ⟨v133, rfl, ho0, hb⟩; refine ⟨_, rfl, ?_⟩; have n0_ := Aside0.mk (Kd.R_elder' (by (with_reducible repeat (first | apply Kd.R_alloc | apply Kd.R_drewN | apply Kd.R_drew)); exact HO126.out) (Kd.R_base ho0) hb); have n1_ := Aside0.mk (Kd.R_below (by (with_reducible repeat (first | apply Kd.R_alloc | apply Kd.R_drewN | apply Kd.R_drew)); exact HO130.out) hb); have n2_ := Aside0.mk (Kd.R_lower (Kd.R_new' ho0 (Kd.R_lt (by (with_reducible repeat (first | apply Kd.R_alloc | apply Kd.R_drewN | apply Kd.R_drew)); exact HO126.out))) (below_size (by repeat (first | (with_reducible first | exact HB.out | apply below_alloc | apply pw_below_drewN | apply below_drew1) | exact HB.out)))); have n3_ := Aside0.mk (below_step (by repeat (first | (with_reducible first | exact HB.out | apply below_alloc | apply pw_below_drewN | apply below_drew1) | exact HB.out)) hb); clear HO126; clear HO130; clear HB; have HO126 := n0_; have HO130 := n1_; have HO134 := n2_; have HB := n3_; clear n0_ n1_ n2_ n3_; (try clear hb); (try clear hb2); (try clear hk); (try clear hi); (try clear ho0); obtain ⟨Ao47, co47, eo47⟩ := Kd.R_slice HO134.out; subst eo47) | ((with_reducible refine gate_callee (f := 10) rfl ?_); refine goesL_ (some 18) rfl rfl Try.func10 (by kernel_rfl) rfl #[.slice Ao47 t131.length co47, .string (⟨#[97]⟩ : ByteArray), .int .i64 2] rfl (by (try simp only [List.map_toArray, List.map_cons, List.map_nil]); first | done | rfl | (simp only [List.length_drop, List.length_take]; rfl)) ?_; (with_reducible refine (dirs_Add.calls _ _ t131 (⟨#[97]⟩ : ByteArray) 2 t135 t136 _ ?side1 ?side2 A3.out).mono ?_); (case side1 => repeat (first | exact (Kd.R_reads' HO134.out).2.2 | (with_reducible refine Kd.C_alloc ?_ _) | (with_reducible refine Kd.C_drewN ?_ _) | (with_reducible refine Kd.C_drew ?_))); (case side2 => exact (Kd.R_reads' HO134.out).2.1); rintro e w48 ⟨v137, rfl, ho0, hb⟩; refine ⟨_, rfl, ?_⟩; have n0_ := Aside0.mk (Kd.R_elder' (by (with_reducible repeat (first | apply Kd.R_alloc | apply Kd.R_drewN | apply Kd.R_drew)); exact HO126.out) (Kd.R_base ho0) hb); have n1_ := Aside0.mk (Kd.R_below (by (with_reducible repeat (first | apply Kd.R_alloc | apply Kd.R_drewN | apply Kd.R_drew)); exact HO130.out) hb); have n2_ := Aside0.mk (Kd.R_elder' (by (with_reducible repeat (first | apply Kd.R_alloc | apply Kd.R_drewN | apply Kd.R_drew)); exact HO134.out) (Kd.R_base ho0) hb); have n3_ := Aside0.mk (Kd.R_lower (Kd.R_new' (Kd.R_new' ho0 (Kd.R_lt (by (with_reducible repeat (first | apply Kd.R_alloc | apply Kd.R_drewN | apply Kd.R_drew)); exact HO126.out))) (Kd.R_lt (by (with_reducible repeat (first | apply Kd.R_alloc | apply Kd.R_drewN | apply Kd.R_drew)); exact HO134.out))) (below_size (by repeat (first | (with_reducible first | exact HB.out | apply below_alloc | apply pw_below_drewN | apply below_drew1) | exact HB.out)))); have n4_ := Aside0.mk (below_step (by repeat (first | (with_reducible first | exact HB.out | apply below_alloc | apply pw_below_drewN | apply below_drew1) | exact HB.out)) hb); clear HO126; clear HO130; clear HO134; clear HB; have HO126 := n0_; have HO130 := n1_; have HO134 := n2_; have HO138 := n3_; have HB := n4_; clear n0_ n1_ n2_ n3_ n4_; (try clear hb); (try clear hb2); (try clear hk); (try clear hi); (try clear ho0)) | ((with_reducible refine gate_dst (N := 22) rfl ?_); (try (refine gate_guard (by rfl) ?_; dsimp only)); refine Kd.R_lit (Kd.int .u8) _ 5 ?hg (N := 22) ?hd (xs := ([1, 97, 2, 1] : List Int)) (inner := [.int .u8 1, .int .u8 97, .int .u8 2, .int .u8 1]) (ok := fun _ => True) (okp := fun _ => True) ?hr ?hp (fun _ hk => hk) trivial (Below.refl _ _) (Nat.le_refl _) (by simp) ?_; (case hd => rfl); (case hg => rfl); (case hr => first | (go_simp; done) | (go_simp; rfl)); (case hp => exact (Reps.one (show Kd.M (Kd.int .u8) _ _ _ 1 [.int .u8 1] from rfl) (Reps.one (show Kd.M (Kd.int .u8) _ _ _ 97 [.int .u8 97] from rfl) (Reps.one (show Kd.M (Kd.int .u8) _ _ _ 2 [.int .u8 2] from rfl) (Reps.one (show Kd.M (Kd.int .u8) _ _ _ 1 [.int .u8 1] from rfl) (Reps.none _ _)))))); intro v140 w49 ho50 hb hg_ hnew_; clear hg_ hnew_; (first | rw [← Ny139.out] at ho50 | (simp only [Int.reduceToNat] at ho50; rw [← Ny139.out] at ho50)); have n0_ := Aside0.mk (Kd.R_below (by (with_reducible repeat (first | apply Kd.R_alloc | apply Kd.R_drewN | apply Kd.R_drew)); exact HO126.out) hb); have n1_ := Aside0.mk (Kd.R_elder' (by (with_reducible repeat (first | apply Kd.R_alloc | apply Kd.R_drewN | apply Kd.R_drew)); exact HO130.out) (Kd.R_base ho50) hb); have n2_ := Aside0.mk (Kd.R_below (by (with_reducible repeat (first | apply Kd.R_alloc | apply Kd.R_drewN | apply Kd.R_drew)); exact HO134.out) hb); have n3_ := Aside0.mk (Kd.R_below (by (with_reducible repeat (first | apply Kd.R_alloc | apply Kd.R_drewN | apply Kd.R_drew)); exact HO138.out) hb); have n4_ := Aside0.mk (Kd.R_lower (Kd.R_new' ho50 (Kd.R_lt (by (with_reducible repeat (first | apply Kd.R_alloc | apply Kd.R_drewN | apply Kd.R_drew)); exact HO130.out))) (below_size (by repeat (first | (with_reducible first | exact HB.out | apply below_alloc | apply pw_below_drewN | apply below_drew1) | exact HB.out)))); have n5_ := Aside0.mk (below_step (by repeat (first | (with_reducible first | exact HB.out | apply below_alloc | apply pw_below_drewN | apply below_drew1) | exact HB.out)) hb); clear HO126; clear HO130; clear HO134; clear HO138; clear HB; have HO126 := n0_; have HO130 := n1_; have HO134 := n2_; have HO138 := n3_; have HO141 := n4_; have HB := n5_; clear n0_ n1_ n2_ n3_ n4_ n5_; clear hb ho50; obtain ⟨Ao51, co51, eo51⟩ := Kd.R_slice HO130.out; subst eo51; obtain ⟨Ao52, co52, eo52⟩ := Kd.R_slice HO141.out; subst eo52) | ((with_reducible refine gate_callee (f := 22) rfl ?_); refine goesL_ (some 23) rfl rfl Try.func22 (by kernel_rfl) rfl #[.slice Ao51 t127.length co51, .slice Ao52 y139.length co52] rfl (by (try simp only [List.map_toArray, List.map_cons, List.map_nil]); first | done | rfl | (simp only [List.length_drop, List.length_take]; rfl)) ?_; (with_reducible refine (sutlerbase_SameBytes.calls k _ _ t127 _ _ y139 true _ ?side1 ?side2 ?side3 ?side4 A4.out).mono ?_); (case side1 => repeat (first | exact (Kd.R_reads' HO130.out).2.2 | (with_reducible refine Kd.C_alloc ?_ _) | (with_reducible refine Kd.C_drewN ?_ _) | (with_reducible refine Kd.C_drew ?_))); (case side2 => exact (Kd.R_reads' HO130.out).2.1); (case side3 => repeat (first | exact (Kd.R_reads' HO141.out).2.2 | (with_reducible refine Kd.C_alloc ?_ _) | (with_reducible refine Kd.C_drewN ?_ _) | (with_reducible refine Kd.C_drew ?_))); (case side4 => exact (Kd.R_reads' HO141.out).2.1); rintro e w' ⟨rfl, ⟨nd, rfl⟩⟩; refine ⟨_, rfl, ?_⟩))
        go_ret
        exact ⟨by first | rfl | (simp [errW_none, errW_some] <;> rfl) | (simp [*, errW_none, errW_some] <;> rfl), by repeat (first | (with_reducible first | exact HB.out | apply below_alloc | apply pw_below_drewN | apply below_drew1) | exact HB.out)⟩
    · rw [if_neg c6] at H
      have c6b0 : (t128 == 0) = false := beq_eq_false_iff_ne.mpr c6
      have c6b1 : (t128 != 0) = true := bne_iff_ne.mpr c6
      obtain rfl := Option.some.inj H
      go_enter Try.func8, Try.ntmps8
      go_wp2_with (first | ((with_reducible refine gate_dst (N := 8) rfl ?_); (try (refine gate_guard (by rfl) ?_; dsimp only)); refine Kd.R_lit k37 _ 37 ?hg (N := 8) ?hd (xs := ([(⟨(⟨#[97]⟩ : ByteArray), 258⟩ : S37)] : List (S37))) (inner := [.string (⟨#[97]⟩ : ByteArray), .int .i64 258]) (ok := fun _ => True) (okp := fun _ => True) ?hr ?hp (fun _ hk => hk) trivial (Below.refl _ _) (Nat.le_refl _) (by simp) ?_; (case hd => rfl); (case hg => rfl); (case hr => first | (go_simp; done) | (go_simp; rfl)); (case hp => exact (Reps.c2 (show Kd.M k37 _ _ _ (⟨(⟨#[97]⟩ : ByteArray), 258⟩ : S37) [.string (⟨#[97]⟩ : ByteArray), .int .i64 258] from (k37_mkM _ _ _ (⟨(⟨#[97]⟩ : ByteArray), 258⟩ : S37) )) (Reps.none _ _))); intro v125 w53 ho54 hb hg_ hnew_; clear hg_ hnew_; (first | rw [← Ny124.out] at ho54 | (simp only [Int.reduceToNat] at ho54; rw [← Ny124.out] at ho54)); have n0_ := Aside0.mk (Kd.R_lower ho54 (below_size (by repeat (first | (with_reducible first | exact HB.out | apply below_alloc | apply pw_below_drewN | apply below_drew1) | exact HB.out)))); have n1_ := Aside0.mk (below_step (by repeat (first | (with_reducible first | exact HB.out | apply below_alloc | apply pw_below_drewN | apply below_drew1) | exact HB.out)) hb); clear HB; have HO126 := n0_; have HB := n1_; clear n0_ n1_; clear hb ho54; obtain ⟨Ao55, co55, eo55⟩ := Kd.R_slice HO126.out; subst eo55) | ((with_reducible refine gate_callee (f := 9) rfl ?_); refine goesL_ (some 9) rfl rfl Try.func9 (by kernel_rfl) rfl #[.slice Ao55 y124.length co55] rfl (by (try simp only [List.map_toArray, List.map_cons, List.map_nil]); first | done | rfl | (simp only [List.length_drop, List.length_take]; rfl)) ?_; (with_reducible refine (dirs_Print.calls _ _ y124 t127 t128 _ ?side1 ?side2 A1.out).mono ?_); (case side1 => repeat (first | exact (Kd.R_reads' HO126.out).2.2 | (with_reducible refine Kd.C_alloc ?_ _) | (with_reducible refine Kd.C_drewN ?_ _) | (with_reducible refine Kd.C_drew ?_))); (case side2 => exact (Kd.R_reads' HO126.out).2.1); rintro e w56 ⟨v129, rfl, ho0, hb⟩; refine ⟨_, rfl, ?_⟩; have n0_ := Aside0.mk (Kd.R_below (by (with_reducible repeat (first | apply Kd.R_alloc | apply Kd.R_drewN | apply Kd.R_drew)); exact HO126.out) hb); have n1_ := Aside0.mk (Kd.R_lower ho0 (below_size (by repeat (first | (with_reducible first | exact HB.out | apply below_alloc | apply pw_below_drewN | apply below_drew1) | exact HB.out)))); have n2_ := Aside0.mk (below_step (by repeat (first | (with_reducible first | exact HB.out | apply below_alloc | apply pw_below_drewN | apply below_drew1) | exact HB.out)) hb); clear HO126; clear HB; have HO126 := n0_; have HO130 := n1_; have HB := n2_; clear n0_ n1_ n2_; (try clear hb); (try clear hb2); (try clear hk); (try clear hi); (try clear ho0)) | ((with_reducible refine gate_callee (f := 10) rfl ?_); refine goesL_ (some 13) rfl rfl Try.func10 (by kernel_rfl) rfl #[.slice none 0 0, .string (⟨#[98]⟩ : ByteArray), .int .i64 1] rfl (by (try simp only [List.map_toArray, List.map_cons, List.map_nil]); first | done | rfl | (simp only [List.length_drop, List.length_take]; rfl)) ?_; (refine (dirs_Add.calls _ _ ([] : List (S37)) (⟨#[98]⟩ : ByteArray) 1 t131 t132 _ ?side1 ?side2 A2.out).mono ?_); (case side1 => exact Kd.C_nil _ _); (case side2 => exact Nat.le_refl _); rintro e w57 ⟨v133, rfl, ho0, hb⟩; refine ⟨_, rfl, ?_⟩; have n0_ := Aside0.mk (Kd.R_elder' (by (with_reducible repeat (first | apply Kd.R_alloc | apply Kd.R_drewN | apply Kd.R_drew)); exact HO126.out) (Kd.R_base ho0) hb); have n1_ := Aside0.mk (Kd.R_below (by (with_reducible repeat (first | apply Kd.R_alloc | apply Kd.R_drewN | apply Kd.R_drew)); exact HO130.out) hb); have n2_ := Aside0.mk (Kd.R_lower (Kd.R_new' ho0 (Kd.R_lt (by (with_reducible repeat (first | apply Kd.R_alloc | apply Kd.R_drewN | apply Kd.R_drew)); exact HO126.out))) (below_size (by repeat (first | (with_reducible first | exact HB.out | apply below_alloc | apply pw_below_drewN | apply below_drew1) | exact HB.out)))); have n3_ := Aside0.mk (below_step (by repeat (first | (with_reducible first | exact HB.out | apply below_alloc | apply pw_below_drewN | apply below_drew1) | exact HB.out)) hb); clear HO126; clear HO130; clear HB; have HO126 := n0_; have HO130 := n1_; have HO134 := n2_; have HB := n3_; clear n0_ n1_ n2_ n3_; (try clear hb); (try clear hb2); (try clear hk); (try clear hi); (try clear ho0); obtain ⟨Ao58, co58, eo58⟩ := Kd.R_slice HO134.out; subst eo58) | ((with_reducible refine gate_callee (f := 10) rfl ?_); refine goesL_ (some 18) rfl rfl Try.func10 (by kernel_rfl) rfl #[.slice Ao58 t131.length co58, .string (⟨#[97]⟩ : ByteArray), .int .i64 2] rfl (by (try simp only [List.map_toArray, List.map_cons, List.map_nil]); first | done | rfl | (simp only [List.length_drop, List.length_take]; rfl)) ?_; (with_reducible refine (dirs_Add.calls _ _ t131 (⟨#[97]⟩ : ByteArray) 2 t135 t136 _ ?side1 ?side2 A3.out).mono ?_); (case side1 => repeat (first | exact (Kd.R_reads' HO134.out).2.2 | (with_reducible refine Kd.C_alloc ?_ _) | (with_reducible refine Kd.C_drewN ?_ _) | (with_reducible refine Kd.C_drew ?_))); (case side2 => exact (Kd.R_reads' HO134.out).2.1); rintro e w59 ⟨v137, rfl, ho0, hb⟩; refine ⟨_, rfl, ?_⟩; have n0_ := Aside0.mk (Kd.R_elder' (by (with_reducible repeat (first | apply Kd.R_alloc | apply Kd.R_drewN | apply Kd.R_drew)); exact HO126.out) (Kd.R_base ho0) hb); have n1_ := Aside0.mk (Kd.R_below (by (with_reducible repeat (first | apply Kd.R_alloc | apply Kd.R_drewN | apply Kd.R_drew)); exact HO130.out) hb); have n2_ := Aside0.mk (Kd.R_elder' (by (with_reducible repeat (first | apply Kd.R_alloc | apply Kd.R_drewN | apply Kd.R_drew)); exact HO134.out) (Kd.R_base ho0) hb); have n3_ := Aside0.mk (Kd.R_lower (Kd.R_new' (Kd.R_new' ho0 (Kd.R_lt (by (with_reducible repeat (first | apply Kd.R_alloc | apply Kd.R_drewN | apply Kd.R_drew)); exact HO126.out))) (Kd.R_lt (by (with_reducible repeat (first | apply Kd.R_alloc | apply Kd.R_drewN | apply Kd.R_drew)); exact HO134.out))) (below_size (by repeat (first | (with_reducible first | exact HB.out | apply below_alloc | apply pw_below_drewN | apply below_drew1) | exact HB.out)))); have n4_ := Aside0.mk (below_step (by repeat (first | (with_reducible first | exact HB.out | apply below_alloc | apply pw_below_drewN | apply below_drew1) | exact HB.out)) hb); clear HO126; clear HO130; clear HO134; clear HB; have HO126 := n0_; have HO130 := n1_; have HO134 := n2_; have HO138 := n3_; have HB := n4_; clear n0_ n1_ n2_ n3_ n4_; (try clear hb); (try clear hb2); (try clear hk); (try clear hi); (try clear ho0)) | ((with_reducible refine gate_dst (N := 22) rfl ?_); (try (refine gate_guard (by rfl) ?_; dsimp only)); refine Kd.R_lit (Kd.int .u8) _ 5 ?hg (N := 22) ?hd (xs := ([1, 97, 2, 1] : List Int)) (inner := [.int .u8 1, .int .u8 97, .int .u8 2, .int .u8 1]) (ok := fun _ => True) (okp := fun _ => True) ?hr ?hp (fun _ hk => hk) trivial (Below.refl _ _) (Nat.le_refl _) (by simp) ?_; (case hd => rfl); (case hg => rfl); (case hr => first | (go_simp; done) | (go_simp; rfl)); (case hp => exact (Reps.one (show Kd.M (Kd.int .u8) _ _ _ 1 [.int .u8 1] from rfl) (Reps.one (show Kd.M (Kd.int .u8) _ _ _ 97 [.int .u8 97] from rfl) (Reps.one (show Kd.M (Kd.int .u8) _ _ _ 2 [.int .u8 2] from rfl) (Reps.one (show Kd.M (Kd.int .u8) _ _ _ 1 [.int .u8 1] from rfl) (Reps.none _ _)))))); intro v140 w60 ho61 hb hg_ hnew_; clear hg_ hnew_; (first | rw [← Ny139.out] at ho61 | (simp only [Int.reduceToNat] at ho61; rw [← Ny139.out] at ho61)); have n0_ := Aside0.mk (Kd.R_below (by (with_reducible repeat (first | apply Kd.R_alloc | apply Kd.R_drewN | apply Kd.R_drew)); exact HO126.out) hb); have n1_ := Aside0.mk (Kd.R_elder' (by (with_reducible repeat (first | apply Kd.R_alloc | apply Kd.R_drewN | apply Kd.R_drew)); exact HO130.out) (Kd.R_base ho61) hb); have n2_ := Aside0.mk (Kd.R_below (by (with_reducible repeat (first | apply Kd.R_alloc | apply Kd.R_drewN | apply Kd.R_drew)); exact HO134.out) hb); have n3_ := Aside0.mk (Kd.R_below (by (with_reducible repeat (first | apply Kd.R_alloc | apply Kd.R_drewN | apply Kd.R_drew)); exact HO138.out) hb); have n4_ := Aside0.mk (Kd.R_lower (Kd.R_new' ho61 (Kd.R_lt (by (with_reducible repeat (first | apply Kd.R_alloc | apply Kd.R_drewN | apply Kd.R_drew)); exact HO130.out))) (below_size (by repeat (first | (with_reducible first | exact HB.out | apply below_alloc | apply pw_below_drewN | apply below_drew1) | exact HB.out)))); have n5_ := Aside0.mk (below_step (by repeat (first | (with_reducible first | exact HB.out | apply below_alloc | apply pw_below_drewN | apply below_drew1) | exact HB.out)) hb); clear HO126; clear HO130; clear HO134; clear HO138; clear HB; have HO126 := n0_; have HO130 := n1_; have HO134 := n2_; have HO138 := n3_; have HO141 := n4_; have HB := n5_; clear n0_ n1_ n2_ n3_ n4_ n5_; clear hb ho61; obtain ⟨Ao62, co62, eo62⟩ := Kd.R_slice HO130.out; subst eo62; obtain ⟨Ao63, co63, eo63⟩ := Kd.R_slice HO141.out; subst eo63) | ((with_reducible refine gate_callee (f := 22) rfl ?_); refine goesL_ (some 23) rfl rfl Try.func22 (by kernel_rfl) rfl #[.slice Ao62 t127.length co62, .slice Ao63 y139.length co63] rfl (by (try simp only [List.map_toArray, List.map_cons, List.map_nil]); first | done | rfl | (simp only [List.length_drop, List.length_take]; rfl)) ?_; (with_reducible refine (sutlerbase_SameBytes.calls k _ _ t127 _ _ y139 true _ ?side1 ?side2 ?side3 ?side4 A4.out).mono ?_); (case side1 => repeat (first | exact (Kd.R_reads' HO130.out).2.2 | (with_reducible refine Kd.C_alloc ?_ _) | (with_reducible refine Kd.C_drewN ?_ _) | (with_reducible refine Kd.C_drew ?_))); (case side2 => exact (Kd.R_reads' HO130.out).2.1); (case side3 => repeat (first | exact (Kd.R_reads' HO141.out).2.2 | (with_reducible refine Kd.C_alloc ?_ _) | (with_reducible refine Kd.C_drewN ?_ _) | (with_reducible refine Kd.C_drew ?_))); (case side4 => exact (Kd.R_reads' HO141.out).2.1); rintro e w' ⟨rfl, ⟨nd, rfl⟩⟩; refine ⟨_, rfl, ?_⟩))
      go_ret
      exact ⟨by first | rfl | (simp [errW_none, errW_some] <;> rfl) | (simp [*, errW_none, errW_some] <;> rfl), by repeat (first | (with_reducible first | exact HB.out | apply below_alloc | apply pw_below_drewN | apply below_drew1) | exact HB.out)⟩
  · replace c5 := Bool.eq_false_iff.mpr c5
    subst c5
    have H1 : (some false) = some r := by rw [if_neg (show ¬ (false = true) by decide)] at H; exact H
    clear H
    have H := H1
    clear H1
    obtain rfl := Option.some.inj H
    go_enter Try.func8, Try.ntmps8
    go_wp2_with (first | ((with_reducible refine gate_dst (N := 8) rfl ?_); (try (refine gate_guard (by rfl) ?_; dsimp only)); refine Kd.R_lit k37 _ 37 ?hg (N := 8) ?hd (xs := ([(⟨(⟨#[97]⟩ : ByteArray), 258⟩ : S37)] : List (S37))) (inner := [.string (⟨#[97]⟩ : ByteArray), .int .i64 258]) (ok := fun _ => True) (okp := fun _ => True) ?hr ?hp (fun _ hk => hk) trivial (Below.refl _ _) (Nat.le_refl _) (by simp) ?_; (case hd => rfl); (case hg => rfl); (case hr => first | (go_simp; done) | (go_simp; rfl)); (case hp => exact (Reps.c2 (show Kd.M k37 _ _ _ (⟨(⟨#[97]⟩ : ByteArray), 258⟩ : S37) [.string (⟨#[97]⟩ : ByteArray), .int .i64 258] from (k37_mkM _ _ _ (⟨(⟨#[97]⟩ : ByteArray), 258⟩ : S37) )) (Reps.none _ _))); intro v125 w64 ho65 hb hg_ hnew_; clear hg_ hnew_; (first | rw [← Ny124.out] at ho65 | (simp only [Int.reduceToNat] at ho65; rw [← Ny124.out] at ho65)); have n0_ := Aside0.mk (Kd.R_lower ho65 (below_size (by repeat (first | (with_reducible first | exact HB.out | apply below_alloc | apply pw_below_drewN | apply below_drew1) | exact HB.out)))); have n1_ := Aside0.mk (below_step (by repeat (first | (with_reducible first | exact HB.out | apply below_alloc | apply pw_below_drewN | apply below_drew1) | exact HB.out)) hb); clear HB; have HO126 := n0_; have HB := n1_; clear n0_ n1_; clear hb ho65; obtain ⟨Ao66, co66, eo66⟩ := Kd.R_slice HO126.out; subst eo66) | ((with_reducible refine gate_callee (f := 9) rfl ?_); refine goesL_ (some 9) rfl rfl Try.func9 (by kernel_rfl) rfl #[.slice Ao66 y124.length co66] rfl (by (try simp only [List.map_toArray, List.map_cons, List.map_nil]); first | done | rfl | (simp only [List.length_drop, List.length_take]; rfl)) ?_; (with_reducible refine (dirs_Print.calls _ _ y124 t127 t128 _ ?side1 ?side2 A1.out).mono ?_); (case side1 => repeat (first | exact (Kd.R_reads' HO126.out).2.2 | (with_reducible refine Kd.C_alloc ?_ _) | (with_reducible refine Kd.C_drewN ?_ _) | (with_reducible refine Kd.C_drew ?_))); (case side2 => exact (Kd.R_reads' HO126.out).2.1); rintro e w67 ⟨v129, rfl, ho0, hb⟩; refine ⟨_, rfl, ?_⟩; have n0_ := Aside0.mk (Kd.R_below (by (with_reducible repeat (first | apply Kd.R_alloc | apply Kd.R_drewN | apply Kd.R_drew)); exact HO126.out) hb); have n1_ := Aside0.mk (Kd.R_lower ho0 (below_size (by repeat (first | (with_reducible first | exact HB.out | apply below_alloc | apply pw_below_drewN | apply below_drew1) | exact HB.out)))); have n2_ := Aside0.mk (below_step (by repeat (first | (with_reducible first | exact HB.out | apply below_alloc | apply pw_below_drewN | apply below_drew1) | exact HB.out)) hb); clear HO126; clear HB; have HO126 := n0_; have HO130 := n1_; have HB := n2_; clear n0_ n1_ n2_; (try clear hb); (try clear hb2); (try clear hk); (try clear hi); (try clear ho0)) | ((with_reducible refine gate_callee (f := 10) rfl ?_); refine goesL_ (some 13) rfl rfl Try.func10 (by kernel_rfl) rfl #[.slice none 0 0, .string (⟨#[98]⟩ : ByteArray), .int .i64 1] rfl (by (try simp only [List.map_toArray, List.map_cons, List.map_nil]); first | done | rfl | (simp only [List.length_drop, List.length_take]; rfl)) ?_; (refine (dirs_Add.calls _ _ ([] : List (S37)) (⟨#[98]⟩ : ByteArray) 1 t131 t132 _ ?side1 ?side2 A2.out).mono ?_); (case side1 => exact Kd.C_nil _ _); (case side2 => exact Nat.le_refl _); rintro e w68 ⟨v133, rfl, ho0, hb⟩; refine ⟨_, rfl, ?_⟩; have n0_ := Aside0.mk (Kd.R_elder' (by (with_reducible repeat (first | apply Kd.R_alloc | apply Kd.R_drewN | apply Kd.R_drew)); exact HO126.out) (Kd.R_base ho0) hb); have n1_ := Aside0.mk (Kd.R_below (by (with_reducible repeat (first | apply Kd.R_alloc | apply Kd.R_drewN | apply Kd.R_drew)); exact HO130.out) hb); have n2_ := Aside0.mk (Kd.R_lower (Kd.R_new' ho0 (Kd.R_lt (by (with_reducible repeat (first | apply Kd.R_alloc | apply Kd.R_drewN | apply Kd.R_drew)); exact HO126.out))) (below_size (by repeat (first | (with_reducible first | exact HB.out | apply below_alloc | apply pw_below_drewN | apply below_drew1) | exact HB.out)))); have n3_ := Aside0.mk (below_step (by repeat (first | (with_reducible first | exact HB.out | apply below_alloc | apply pw_below_drewN | apply below_drew1) | exact HB.out)) hb); clear HO126; clear HO130; clear HB; have HO126 := n0_; have HO130 := n1_; have HO134 := n2_; have HB := n3_; clear n0_ n1_ n2_ n3_; (try clear hb); (try clear hb2); (try clear hk); (try clear hi); (try clear ho0); obtain ⟨Ao69, co69, eo69⟩ := Kd.R_slice HO134.out; subst eo69) | ((with_reducible refine gate_callee (f := 10) rfl ?_); refine goesL_ (some 18) rfl rfl Try.func10 (by kernel_rfl) rfl #[.slice Ao69 t131.length co69, .string (⟨#[97]⟩ : ByteArray), .int .i64 2] rfl (by (try simp only [List.map_toArray, List.map_cons, List.map_nil]); first | done | rfl | (simp only [List.length_drop, List.length_take]; rfl)) ?_; (with_reducible refine (dirs_Add.calls _ _ t131 (⟨#[97]⟩ : ByteArray) 2 t135 t136 _ ?side1 ?side2 A3.out).mono ?_); (case side1 => repeat (first | exact (Kd.R_reads' HO134.out).2.2 | (with_reducible refine Kd.C_alloc ?_ _) | (with_reducible refine Kd.C_drewN ?_ _) | (with_reducible refine Kd.C_drew ?_))); (case side2 => exact (Kd.R_reads' HO134.out).2.1); rintro e w70 ⟨v137, rfl, ho0, hb⟩; refine ⟨_, rfl, ?_⟩; have n0_ := Aside0.mk (Kd.R_elder' (by (with_reducible repeat (first | apply Kd.R_alloc | apply Kd.R_drewN | apply Kd.R_drew)); exact HO126.out) (Kd.R_base ho0) hb); have n1_ := Aside0.mk (Kd.R_below (by (with_reducible repeat (first | apply Kd.R_alloc | apply Kd.R_drewN | apply Kd.R_drew)); exact HO130.out) hb); have n2_ := Aside0.mk (Kd.R_elder' (by (with_reducible repeat (first | apply Kd.R_alloc | apply Kd.R_drewN | apply Kd.R_drew)); exact HO134.out) (Kd.R_base ho0) hb); have n3_ := Aside0.mk (Kd.R_lower (Kd.R_new' (Kd.R_new' ho0 (Kd.R_lt (by (with_reducible repeat (first | apply Kd.R_alloc | apply Kd.R_drewN | apply Kd.R_drew)); exact HO126.out))) (Kd.R_lt (by (with_reducible repeat (first | apply Kd.R_alloc | apply Kd.R_drewN | apply Kd.R_drew)); exact HO134.out))) (below_size (by repeat (first | (with_reducible first | exact HB.out | apply below_alloc | apply pw_below_drewN | apply below_drew1) | exact HB.out)))); have n4_ := Aside0.mk (below_step (by repeat (first | (with_reducible first | exact HB.out | apply below_alloc | apply pw_below_drewN | apply below_drew1) | exact HB.out)) hb); clear HO126; clear HO130; clear HO134; clear HB; have HO126 := n0_; have HO130 := n1_; have HO134 := n2_; have HO138 := n3_; have HB := n4_; clear n0_ n1_ n2_ n3_ n4_; (try clear hb); (try clear hb2); (try clear hk); (try clear hi); (try clear ho0)) | ((with_reducible refine gate_dst (N := 22) rfl ?_); (try (refine gate_guard (by rfl) ?_; dsimp only)); refine Kd.R_lit (Kd.int .u8) _ 5 ?hg (N := 22) ?hd (xs := ([1, 97, 2, 1] : List Int)) (inner := [.int .u8 1, .int .u8 97, .int .u8 2, .int .u8 1]) (ok := fun _ => True) (okp := fun _ => True) ?hr ?hp (fun _ hk => hk) trivial (Below.refl _ _) (Nat.le_refl _) (by simp) ?_; (case hd => rfl); (case hg => rfl); (case hr => first | (go_simp; done) | (go_simp; rfl)); (case hp => exact (Reps.one (show Kd.M (Kd.int .u8) _ _ _ 1 [.int .u8 1] from rfl) (Reps.one (show Kd.M (Kd.int .u8) _ _ _ 97 [.int .u8 97] from rfl) (Reps.one (show Kd.M (Kd.int .u8) _ _ _ 2 [.int .u8 2] from rfl) (Reps.one (show Kd.M (Kd.int .u8) _ _ _ 1 [.int .u8 1] from rfl) (Reps.none _ _)))))); intro v140 w71 ho72 hb hg_ hnew_; clear hg_ hnew_; (first | rw [← Ny139.out] at ho72 | (simp only [Int.reduceToNat] at ho72; rw [← Ny139.out] at ho72)); have n0_ := Aside0.mk (Kd.R_below (by (with_reducible repeat (first | apply Kd.R_alloc | apply Kd.R_drewN | apply Kd.R_drew)); exact HO126.out) hb); have n1_ := Aside0.mk (Kd.R_elder' (by (with_reducible repeat (first | apply Kd.R_alloc | apply Kd.R_drewN | apply Kd.R_drew)); exact HO130.out) (Kd.R_base ho72) hb); have n2_ := Aside0.mk (Kd.R_below (by (with_reducible repeat (first | apply Kd.R_alloc | apply Kd.R_drewN | apply Kd.R_drew)); exact HO134.out) hb); have n3_ := Aside0.mk (Kd.R_below (by (with_reducible repeat (first | apply Kd.R_alloc | apply Kd.R_drewN | apply Kd.R_drew)); exact HO138.out) hb); have n4_ := Aside0.mk (Kd.R_lower (Kd.R_new' ho72 (Kd.R_lt (by (with_reducible repeat (first | apply Kd.R_alloc | apply Kd.R_drewN | apply Kd.R_drew)); exact HO130.out))) (below_size (by repeat (first | (with_reducible first | exact HB.out | apply below_alloc | apply pw_below_drewN | apply below_drew1) | exact HB.out)))); have n5_ := Aside0.mk (below_step (by repeat (first | (with_reducible first | exact HB.out | apply below_alloc | apply pw_below_drewN | apply below_drew1) | exact HB.out)) hb); clear HO126; clear HO130; clear HO134; clear HO138; clear HB; have HO126 := n0_; have HO130 := n1_; have HO134 := n2_; have HO138 := n3_; have HO141 := n4_; have HB := n5_; clear n0_ n1_ n2_ n3_ n4_ n5_; clear hb ho72; obtain ⟨Ao73, co73, eo73⟩ := Kd.R_slice HO130.out; subst eo73; obtain ⟨Ao74, co74, eo74⟩ := Kd.R_slice HO141.out; subst eo74) | ((with_reducible refine gate_callee (f := 22) rfl ?_); refine goesL_ (some 23) rfl rfl Try.func22 (by kernel_rfl) rfl #[.slice Ao73 t127.length co73, .slice Ao74 y139.length co74] rfl (by (try simp only [List.map_toArray, List.map_cons, List.map_nil]); first | done | rfl | (simp only [List.length_drop, List.length_take]; rfl)) ?_; (with_reducible refine (sutlerbase_SameBytes.calls k _ _ t127 _ _ y139 false _ ?side1 ?side2 ?side3 ?side4 A4.out).mono ?_); (case side1 => repeat (first | exact (Kd.R_reads' HO130.out).2.2 | (with_reducible refine Kd.C_alloc ?_ _) | (with_reducible refine Kd.C_drewN ?_ _) | (with_reducible refine Kd.C_drew ?_))); (case side2 => exact (Kd.R_reads' HO130.out).2.1); (case side3 => repeat (first | exact (Kd.R_reads' HO141.out).2.2 | (with_reducible refine Kd.C_alloc ?_ _) | (with_reducible refine Kd.C_drewN ?_ _) | (with_reducible refine Kd.C_drew ?_))); (case side4 => exact (Kd.R_reads' HO141.out).2.1); rintro e w' ⟨rfl, ⟨nd, rfl⟩⟩; refine ⟨_, rfl, ?_⟩))
    go_ret
    exact ⟨by first | rfl | (simp [errW_none, errW_some] <;> rfl) | (simp [*, errW_none, errW_some] <;> rfl), by repeat (first | (with_reducible first | exact HB.out | apply below_alloc | apply pw_below_drewN | apply below_drew1) | exact HB.out)⟩

end Go.Proofs.Ytcklpecjcebekaa.PAll
end
section
/- The chapter's examples. -/
namespace Go.Proofs.Ytcklpecjcebekaa.PAll
open Go.RowKit Go.Lib
theorem works_ten : sutlerlaw07_works.f 10 = some true := by decide +kernel
#print axioms works_ten
end Go.Proofs.Ytcklpecjcebekaa.PAll
end
section
/- append to a row of bytes of the call's own, one step of a drawing region; where the row lies behind it is told, too. -/
namespace Go.Proofs.Ytcklpecjcebekaa.PAll
open Go.RowKit Go.Shelf Go.Lib Go.Proofs.YtcklpecjcebekaaW.PrintWords Go.Proofs.YtcklpecjcebekaaW.PrintLast Go.Proofs.YtcklpecjcebekaaW.PrintMore
set_option linter.unusedVariables false
set_option linter.unusedSimpArgs false

/-- A row's block is another one's, or a new one. -/
def Hat (W : World) (v v1 : Value) : Prop := v1.ownBlock = v.ownBlock ∨ v1.ownBlock = some W.heap.size
theorem hat_ne {W : World} {v v1 : Value} {k : Nat} (h : Hat W v v1) (hk : k < W.heap.size) (hne : some k ≠ v.ownBlock) : some k ≠ v1.ownBlock := by
  rcases h with h | h
  · rw [h]; exact hne
  · rw [h]; intro e; have : k = W.heap.size := by simpa using e
    omega
theorem append_str_hat (W : World) (base : Nat) (t u ty e : TypeId) (i : TypeInfo) (ht : Try.prog.underlying t = some (.slice e)) (hu : Try.prog.underlying u = some .string) (hi : Try.prog.info? e = some i) (hz : i.zero = some (.int .u8 0)) (hsize : i.size = 1) (hby : i.bytes = 1)
    (v : Value) (n : Nat) (xs : List Value) (hown : W.ownsRow base e 1 v n xs) (s : ByteArray) (h63 : n + s.size ≤ maxLen) (hbytes : n + s.size ≤ 140737488355328) (v1 : Value) (w1 : World) (hr : (Builtin.append_ #[t, u] ty #[v, .string s]).run Try.prog W = .ok v1 w1) : Hat W v v1 := by
  have hxl : xs.length = n := by simpa using hown.1
  simp only [maxLen] at h63
  rcases hown.2 with ⟨rfl, rfl⟩ | ⟨g, cap, cur, rfl, hbg, hg, hnc, hcm, hcs, htake⟩
  · by_cases hm : s.size = 0
    · have hf := run_firstCells_string (P := Try.prog) W 1 s
      rw [hm] at hf
      simp [Builtin.append_, run_underlying ht, run_underlying hu, sizeOf, typeInfo, hi, hsize, Builtin.lenOf, hm, hf] at hr
      rw [← hr.1]; exact .inl rfl
    · have h2 := run_append_nil_string (P := Try.prog) W t u ty e i (.int .u8 0) ht hu hi hz s (by omega) (by omega) (by rw [hby]; omega)
      rw [h2] at hr
      injection hr with h3 h4
      rw [← h3]; exact .inr rfl
  · by_cases hroom : n + s.size ≤ cap
    · have hcs' : cur.size = cap := by simpa using hcs
      have h2 := run_append_room_string (P := Try.prog) W t u ty e i ht hu hi hsize g n cap cur hg s hroom (by omega)
      rw [h2] at hr
      injection hr with h3 h4
      rw [← h3]; exact .inl rfl
    · have h2 := run_append_grow_string (P := Try.prog) W t u ty e i (.int .u8 0) ht hu hi hz ⟨g, 0, none⟩ n cap xs (by rw [hsize]; simpa using hxl) (hown.cells (g := g) rfl) s (by omega) (by omega) (by rw [hby]; exact growslice_fits (by omega) (by omega))
      rw [h2] at hr
      injection hr with h3 h4
      rw [← h3]; exact .inr rfl
section
variable {ops : Array Oper} {o : Oper} {a : Act} {W : World} {K : Act → World → Prop} {Q : Exit → Act → World → Prop} {E : Prop}
theorem step_bytes_at (base : Nat) (hg : o.guard = none) (d x : Operand) (hop : o.op = Op.call { callee := Callee.builtin Builtin.append, args := #[d, x], argTypes := #[24, 24] })
    (v : Value) (acc zs : List Int) (A : Addr) (m c : Nat) (hd : a.eval d = v) (hx : a.eval x = .slice (some A) m c) (hm : zs.length = m) (hO : BRow W base v acc) (hz : ∀ j u, (nums .u8 zs)[j]? = some u → W.cell? (A.add j) = some u)
    (hbase : base ≤ W.heap.size) (hl : acc.length + zs.length ≤ 140737488355328)
    (hK : ∀ v1 w1, BRow w1 base v1 (acc ++ zs) → W.grownBy w1 v.ownBlock → Hat W v v1 → K (a.put o.dst v1) w1) : if Region.wanted o (yielded ops a.tmps) = true then Oper.wp Try.prog o a W K Q else E := by
  obtain ⟨i0, hi, hz0, hz1, hz2⟩ := info_parts info5
  obtain ⟨v1, w1, hr, ho, hgr, _, hat⟩ := run_append_own_at (P := Try.prog) W base 24 o.type 5 i0 (.int .u8 0) 1 1 Try.underlying24 hi hz0 hz1 hz2 rfl (by decide) v acc.length (nums .u8 acc) hO A m c (nums .u8 zs) (by simp [nums, hm]) hz (by intro u hu; simp [nums] at hu; obtain ⟨z, _, rfl⟩ := hu; rfl) (by simp only [maxLen]; omega) (by omega) hbase
  refine step_append_runI hg d x 24 24 hop v _ hd hx hr (hK v1 w1 ?_ hgr hat)
  rw [← hm] at ho
  simpa [BRow, nums_append] using ho
theorem step_str_at (base : Nat) (hg : o.guard = none) (d x : Operand) (hop : o.op = Op.call { callee := Callee.builtin Builtin.append, args := #[d, x], argTypes := #[24, 9] })
    (v : Value) (acc : List Int) (s : ByteArray) (hd : a.eval d = v) (hx : a.eval x = .string s) (hO : BRow W base v acc) (hbase : base ≤ W.heap.size) (hl : acc.length + s.size ≤ 140737488355328)
    (hK : ∀ v1 w1, BRow w1 base v1 (acc ++ YtcklpecjcebekaaW.PrintWords.bytesOf s) → W.grownBy w1 v.ownBlock → Hat W v v1 → K (a.put o.dst v1) w1) : if Region.wanted o (yielded ops a.tmps) = true then Oper.wp Try.prog o a W K Q else E := by
  obtain ⟨i0, hi, hz0, hz1, hz2⟩ := info_parts info5
  obtain ⟨v1, w1, hr, ho, hgr, _⟩ := Lib.run_append_own_string (P := Try.prog) W base 24 9 o.type 5 i0 Try.underlying24 Try.underlying9 hi hz0 hz1 hz2 v acc.length (nums .u8 acc) hO s (by simp only [maxLen]; omega) hl hbase
  have hat := append_str_hat W base 24 9 o.type 5 i0 Try.underlying24 Try.underlying9 hi hz0 hz1 hz2 v acc.length (nums .u8 acc) hO s (by simp only [maxLen]; omega) hl v1 w1 hr
  refine step_append_runI hg d x 24 9 hop v _ hd hx hr (hK v1 w1 ?_ hgr hat)
  have hc : nums .u8 (acc ++ YtcklpecjcebekaaW.PrintWords.bytesOf s) = nums .u8 acc ++ Lib.strCells s := by
    rw [nums_append]; congr 1; simp [nums, YtcklpecjcebekaaW.PrintWords.bytesOf, Lib.strCells]
  have hl2 : (acc ++ YtcklpecjcebekaaW.PrintWords.bytesOf s).length = acc.length + s.size := by rw [List.length_append, YtcklpecjcebekaaW.PrintWords.bytesOf_length]
  unfold BRow
  rw [hc, hl2]; exact ho
end
end Go.Proofs.Ytcklpecjcebekaa.PAll
end
section
/- sutlerref07.Print: a directory told as bytes, by the reference. -/
namespace Go.Proofs.Ytcklpecjcebekaa.PAll
open Go.RowKit Go.Shelf Go.Lib Go.Proofs.YtcklpecjcebekaaW.PrintWords Go.Proofs.YtcklpecjcebekaaW.PrintLast Go.Proofs.YtcklpecjcebekaaW.PrintMore Go.Proofs.Ytcklpecjcebekaa.Sp
attribute [local go_sem] Oper.semAt_some
set_option linter.unusedVariables false
set_option linter.unusedSimpArgs false

def sutlerref07_Print.f (l0 : List S37) : Option (List Int × Int) := if (∀ x ∈ l0, x.f0.size ≤ 9223372036854775807) then dirs_Print.f l0 else none

theorem right_inodes : ∀ {l : List S37} {last : List UInt8}, rightFrom last l = true → ∀ x ∈ l, okInode x.f1 = true
  | [], _, _, x, hx => by cases hx
  | y :: r, last, h, x, hx => by
    simp only [rightFrom, Bool.and_eq_true] at h
    rcases List.mem_cons.1 hx with rfl | hx
    · exact h.1.1.2
    · exact right_inodes h.2 x hx

/-- What lies in a row that was made ahead of two appends to another one, as it lies behind them. -/
theorem third_cells {W6 W6a w1 w2 : World} {base g6 cap6 : Nat} {u4 v1 : Value} {zs : List Int} (h6 : BRow W6 base (.slice (some ⟨g6, 0, none⟩) zs.length cap6) zs) (hg1 : W6a.grownBy w1 u4.ownBlock) (hat1 : Hat W6a u4 v1) (hg2 : w1.grownBy w2 v1.ownBlock)
    (hne : ∀ j, (Value.slice (some ⟨g6, 0, none⟩) zs.length cap6).ownBlock = some j → some j ≠ u4.ownBlock) (ha : W6a.heap[g6]? = W6.heap[g6]? ∧ W6.heap.size ≤ W6a.heap.size) (hlt : g6 < W6.heap.size) : ∀ j u, (nums .u8 zs)[j]? = some u → w2.cell? ((⟨g6, 0, none⟩ : Addr).add j) = some u := by
  have hn : some g6 ≠ u4.ownBlock := hne g6 (by simp [Value.ownBlock])
  have e1 : w1.heap[g6]? = W6.heap[g6]? := (hg1.block g6 (by omega) hn).trans ha.1
  have e2 : w2.heap[g6]? = W6.heap[g6]? := (hg2.block g6 (by have := hg1.size; omega) (hat_ne hat1 (by omega) hn)).trans e1
  have ho : BRow w2 base (.slice (some ⟨g6, 0, none⟩) zs.length cap6) zs := own_move h6 (fun j hj => by
    have : g6 = j := by simpa [Value.ownBlock] using hj
    rw [← this]; exact e2)
  exact World.ownsRow.cells ho (g := g6) rfl

set_option maxHeartbeats 4000000 in
set_option maxRecDepth 100000 in
theorem sutlerref07_Print.calls (A0 : Option Addr) (c0 : Nat) (l0 : List (S37)) (r1 : List Int) (r2 : Int) (w : World) (hr0 : Kd.C k37 w A0 l0.length l0) (hc0 : l0.length ≤ c0) (h : sutlerref07_Print.f l0 = some (r1, r2)) :
    Calls Try.prog 21 #[.slice A0 l0.length c0] w fun e w' => ∃ v0_ : Value, e = .returned (.tuple #[v0_, .int .i64 r2]) ∧ Kd.R (Kd.int .u8) 5 w' w.heap.size (fun _ => True) v0_ r1 ∧ Below w.heap.size w w' := by
  have hl63 : l0.length ≤ 9223372036854775807 := hr0.2.1
  unfold sutlerref07_Print.f at h
  by_cases hsz : ∀ x ∈ l0, x.f0.size ≤ 9223372036854775807
  case neg => rw [if_neg hsz] at h; cases h
  rw [if_pos hsz] at h
  have cR : ∀ W, Below w.heap.size w W → Calls Try.prog 36 #[.slice A0 l0.length c0] W fun e w' => e = .returned (.bool (rightL l0)) ∧ Below W.heap.size W w' := fun W hW => by
    obtain ⟨k, hk⟩ := Ev.rounds (right_ref l0 hl63 hsz)
    exact sutlerref07_right.calls k A0 c0 l0 _ W (Kd.C_below hr0 hW) hc0 hk
  clear hsz
  have HC := Aside0.mk hr0
  unfold dirs_Print.f at h
  cases hR : rightL l0 with
  | false =>
    rw [hR] at h cR
    simp at h
    obtain ⟨rfl, rfl⟩ := h
    clear hr0 hR
    go_enter Try.func21, Try.ntmps21
    go_wp2_with fail
    refine (cR _ (Below.refl _ _)).mono ?_
    rintro e w2 ⟨rfl, hb⟩
    go_wp2
    go_ret2
    exact ⟨_, rfl, Kd.R_nil _ _ _ _ _, hb⟩
  | true =>
    rw [hR] at h cR
    simp at h
    obtain ⟨rfl, rfl⟩ := h
    have HR := Aside0.mk hR
    clear hr0 hR
    have hu37 := Try.underlying37
    go_enter Try.func21, Try.ntmps21
    go_wp2_with fail
    refine (cR _ (Below.refl _ _)).mono ?_
    rintro e w2 ⟨rfl, hb⟩
    have HB2 := Aside0.mk hb
    clear hb
    go_wp2_with ((with_reducible refine gate_dst (N := 11) rfl ?_); refine Kd.R_lit (Kd.int .u8) _ 5 ?hg (N := 11) ?hd (xs := ([] : List Int)) (inner := []) (ok := fun _ => True) (okp := fun _ => True) ?hr ?hp (fun _ hk => hk) trivial (Below.refl _ _) (Nat.le_refl _) (by simp) ?_; (case hd => rfl); (case hg => rfl); (case hr => first | (go_simp; done) | (go_simp; rfl)); (case hp => exact (Reps.none _ _)); intro v298 w3 ho4 hb hg_ hnew_; clear hg_ hnew_; have HO4 := Aside0.mk (Kd.own_of_R ho4); have HB3 := Aside0.mk hb; clear ho4 hb)
    have HB4 := Aside0.mk (bl_trans HB2.out HB3.out)
    go_loopw [4, 5] (fun v i W => ∃ k : Nat, i = .int .i64 (k : Int) ∧ k ≤ l0.length ∧ Aside0 (W.ownsRow w.heap.size 5 1 v (dirBytes (l0.take k)).length (nums .u8 (dirBytes (l0.take k)))) ∧ Aside0 (Below w.heap.size w W)) (fun _ i _ => l0.length - (intOf i).toNat)
    case atStart => exact ⟨0, rfl, by omega, Aside0.mk (own_weaken HO4.out HB2.out.size), HB4⟩
    case round =>
      obtain ⟨k, rfl, hk, HO, HB⟩ := hrel
      by_cases hlt : k < l0.length
      · have t1 : decide ((k : Int) < (l0.length : Int)) = true := decide_eq_true (by omega)
        have t3 : (k : Int) < (l0.length : Int) := by omega
        obtain ⟨ad, rfl, h0, h1⟩ := at_T37 HC.out (k : Int) (by omega) (by omega)
        have g0 := (HB.out.cell (World.block_lt_of_cell? w _ h0)).trans h0
        have g1 := (HB.out.cell (World.block_lt_of_cell? w _ h1)).trans h1
        simp only [Int.toNat_natCast] at g0 g1 h0 h1
        have H00 := Aside0.mk h0
        clear h0 h1
        obtain ⟨acc, hacc⟩ : ∃ acc, acc = dirBytes (l0.take k) := ⟨_, rfl⟩
        have HO' : Aside0 (BRow wr w.heap.size u4 acc) := Aside0.mk (by rw [hacc]; exact HO.out)
        have hrl := HR.out
        simp only [rightL, Bool.and_eq_true, decide_eq_true_eq] at hrl
        have hlen : acc.length ≤ 1073741824 := by
          have h1 := dirBytes_le (l := l0.take k) fun x hx => right_names hrl.1 x (List.mem_of_mem_take hx)
          have h2 : (l0.take k).length ≤ 256 := by rw [List.length_take]; omega
          rw [hacc]; omega
        have hss0 : (rd_T37 l0 (k : Int)).f0.size ≤ 32 := by rw [rd_get l0 k hlt]; exact right_names hrl.1 _ (List.getElem_mem hlt)
        have hin0 : okInode (rd_T37 l0 (k : Int)).f1 = true := by rw [rd_get l0 k hlt]; exact right_inodes hrl.1 _ (List.getElem_mem hlt)
        clear hrl
        have hb0 : w.heap.size ≤ wr.heap.size := HB.out.size
        obtain ⟨s, hs⟩ : ∃ s, (rd_T37 l0 (k : Int)).f0 = s := ⟨_, rfl⟩
        obtain ⟨n, hn⟩ : ∃ n, (rd_T37 l0 (k : Int)).f1 = n := ⟨_, rfl⟩
        rw [hs] at g0
        rw [hn] at g1
        have hss : s.size ≤ 32 := by rw [← hs]; exact hss0
        have HIN : Aside0 (okInode n = true) := Aside0.mk (by rw [← hn]; exact hin0)
        have H0 : Aside0 (∀ W, Below w.heap.size w W → W.cell? (ad.add (k * 2)) = some (.string s)) := Aside0.mk (fun W hW => by have h := H00.out; rw [hs] at h; exact (hW.cell (World.block_lt_of_cell? w _ h)).trans h)
        have HN := Aside0.mk (And.intro hs hn)
        have HACC := Aside0.mk hacc
        clear HO hs hn hacc hss0 hin0
        go_wp2_with ((with_reducible refine gate_dst (N := 19) rfl ?_); refine Kd.R_lit (Kd.int .u8) _ 5 ?hg (N := 19) ?hd (xs := ([0, 0] : List Int)) (inner := [.int .u8 0, .int .u8 0]) (ok := fun _ => True) (okp := fun _ => True) ?hr ?hp (fun _ hk => hk) trivial (Below.refl _ _) (Nat.le_refl _) (by simp) ?_; (case hd => rfl); (case hg => rfl); (case hr => first | (go_simp; done) | (go_simp; rfl)); (case hp => exact Kd.reps_scalar (enc := Value.int .u8) [0, 0]); intro vz w5 ho5 hb5 hg5_ hnew5_; clear hg5_ hnew5_; have g0' := (hb5.cell (World.block_lt_of_cell? wr _ g0)).trans g0; have g1' := (hb5.cell (World.block_lt_of_cell? wr _ g1)).trans g1; clear g0 g1; obtain ⟨Az, cz, rfl, hcz, hCz⟩ := Kd.R_reads ho5; have HB5 := Aside0.mk (bl_trans HB.out hb5); have HBr := Aside0.mk hb5; have HCZ := Aside0.mk hCz; clear hCz hb5 ho5)
        obtain ⟨HPUT⟩ : Aside0 (sutlerref03_Put.f 10 [0, 0] 0 2 n = some ([n % 256, n / 256 % 256], 0)) := Aside0.mk (put_two n HIN.out)
        refine (sutlerref03_Put.calls 10 Az cz [0, 0] 0 2 n _ _ w5 HCZ.out hcz HPUT).mono ?_
        rintro e w6 ⟨v6, rfl, hR6, hb6⟩
        clear HPUT
        have mixed : Try.prog.follows .mixedOrders = true := by kernel_rfl
        have hO6 : BRow w6 w5.heap.size v6 [n % 256, n / 256 % 256] := Kd.own_of_R hR6
        clear hR6
        have hs5 : wr.heap.size ≤ w5.heap.size := HBr.out.size
        have hs6 : w5.heap.size ≤ w6.heap.size := hb6.size
        have HB6 : Aside0 (Below w.heap.size w w6) := Aside0.mk (bl_trans HB5.out hb6)
        have HOW : Aside0 (BRow w6 w.heap.size u4 acc) := Aside0.mk (own_move HO'.out (fun j hj => by
          have hj' := own_lt HO'.out j hj
          exact (hb6.block j (by omega)).trans (HBr.out.block j hj')))
        have NE0 : Aside0 (∀ j, v6.ownBlock = some j → some j ≠ u4.ownBlock) := Aside0.mk (fun j hj e => by
          have h1 := own_base hO6 j hj
          have h2 := own_lt HO'.out j e.symm
          omega)
        obtain ⟨g6, cap6, hv6⟩ : ∃ g6 cap6, v6 = .slice (some ⟨g6, 0, none⟩) 2 cap6 := by
          rcases hO6.2 with ⟨_, h⟩ | ⟨g, cap, cur, h, _⟩
          · cases h
          · exact ⟨g, cap, h⟩
        subst hv6
        have HO6 := Aside0.mk hO6
        have HLT6 : Aside0 (g6 < w6.heap.size) := Aside0.mk (own_lt hO6 g6 (by simp [Value.ownBlock]))
        clear hO6 hb6
        have hbw : w.heap.size ≤ w6.heap.size := by omega
        have HBA : Aside0 (Below w.heap.size w (w6.alloc (.cells #[.int .u8 (IntKind.u8.wrap (s.size : Int))] 5))) := Aside0.mk (HB6.out.alloc hbw _)
        have hq0 : w6.cell? (ad.add (k * 2)) = some (.string s) := H0.out _ HB6.out
        have hqa : (w6.alloc (.cells #[.int .u8 (IntKind.u8.wrap (s.size : Int))] 5)).cell? (ad.add (k * 2)) = some (.string s) := H0.out _ HBA.out
        have HONE : Aside0 (∀ W : World, W.heap[w6.heap.size]? = some (.cells #[.int .u8 (IntKind.u8.wrap (s.size : Int))] 5 (0, 0)) → ∀ j u, (nums .u8 [IntKind.u8.wrap (s.size : Int)])[j]? = some u → W.cell? ((⟨w6.heap.size, 0, none⟩ : Addr).add j) = some u) := Aside0.mk (fun W hW j u hu => by
          rw [add_lit, cell_row hW, ← Array.getElem?_toList, Nat.zero_add]; exact hu)
        have HNEW : Aside0 ((w6.alloc (.cells #[.int .u8 (IntKind.u8.wrap (s.size : Int))] 5)).heap[w6.heap.size]? = some (.cells #[.int .u8 (IntKind.u8.wrap (s.size : Int))] 5 (0, 0))) := Aside0.mk (heap_alloc_new w6 _)
        go_wp2_with fail
        go_region_law_o (first
          | (refine step_bytes_at w.heap.size rfl (.tmp 28) (.tmp 36) rfl u4 acc [IntKind.u8.wrap (s.size : Int)] ⟨w6.heap.size, 0, none⟩ 1 1 (by simp [Act.eval, Act.put]) (by simp [Act.eval, Act.put]) rfl (World.ownsRow.alloc HOW.out (.cells #[.int .u8 (IntKind.u8.wrap (s.size : Int))] 5)) (HONE.out _ HNEW.out) (by simp; omega) (by simp; omega) (fun v1 w1 ho1 hg1 hat1 => ?_); have hB1 : Below w.heap.size w w1 := (by first | exact own_below HBA.out (World.ownsRow.alloc HOW.out _) hg1 | exact own_below (below_drew1 HBA.out) (own_drew (World.ownsRow.alloc HOW.out _)) hg1); have hc1 : w1.cell? (ad.add (k * 2)) = some (.string s) := H0.out _ hB1)
          | (refine step_str_at w.heap.size rfl (.tmp 37) (.tmp 42) rfl v1 (acc ++ [IntKind.u8.wrap (s.size : Int)]) s (by simp [Act.eval, Act.put]) (by simp [Act.eval, Act.put]) ho1 hB1.size (by simp; omega) (fun v2 w2' ho2 hg2 hat2 => ?_))
          | (refine step_bytes_at w.heap.size rfl (.tmp 43) (.tmp 44) rfl v2 (acc ++ [IntKind.u8.wrap (s.size : Int)] ++ YtcklpecjcebekaaW.PrintWords.bytesOf s) [n % 256, n / 256 % 256] ⟨g6, 0, none⟩ 2 cap6 (by simp [Act.eval, Act.put]) (by simp [Act.eval, Act.put]) rfl ho2 (third_cells (zs := [n % 256, n / 256 % 256]) HO6.out hg1 hat1 hg2 NE0.out ⟨(heap_alloc_old w6 _ HLT6.out), by simp⟩ HLT6.out) (Nat.le_trans hB1.size hg2.size) (by rw [List.length_append, List.length_append, YtcklpecjcebekaaW.PrintWords.bytesOf_length]; simp; omega) (fun v3 w3' ho3 hg3 hat3 => ?_)))
        all_goals go_wp2
        all_goals
          refine ⟨⟨k + 1, rfl, by omega, Aside0.mk ?_, Aside0.mk (own_below (own_below hB1 ho1 hg2) ho2 hg3)⟩, by simp [intOf]; omega⟩
          have e : dirBytes (l0.take (k + 1)) = acc ++ [IntKind.u8.wrap (s.size : Int)] ++ YtcklpecjcebekaaW.PrintWords.bytesOf s ++ [n % 256, n / 256 % 256] := by
            rw [dirBytes_succ l0 k hlt, ← HACC.out, nameBytes, HN.out.1, HN.out.2]; simp
          rw [e]; exact ho3
      · have hkl : k = l0.length := by omega
        have t1 : decide ((k : Int) < (l0.length : Int)) = false := decide_eq_false (by omega)
        have HO2 : BRow wr w.heap.size u4 (dirBytes l0) := by have := HO.out; rwa [hkl, List.take_length] at this
        have HOO := Aside0.mk HO2
        clear HO HO2
        go_wp2
        go_ret2
        exact ⟨_, rfl, Kd.R_of_own HOO.out (fun _ _ => trivial), HB.out⟩
end Go.Proofs.Ytcklpecjcebekaa.PAll
end
section
-- Written by a tool of the kit (print.py) over the laws of this seat at once; Lean checks it.
namespace Go.Proofs.Ytcklpecjcebekaa.PAll
open Go.RowKit Go.Proofs.YtcklpecjcebekaaW.PrintWords Go.Proofs.YtcklpecjcebekaaW.PrintLast Go.Proofs.YtcklpecjcebekaaW.PrintMore
attribute [local go_sem] max2_int min2_int max_two min_two max_three min_three max_four min_four   -- for this text's walks alone
set_option linter.unusedVariables false
set_option linter.unusedSimpArgs false

/-! ### sutlerlaw07_names: function 12 -/
def sutlerlaw07_names.f (l0 : List (S37)) : Option ((List (S37))) := (some (([] : List (S37)) : List (S37))).bind fun y169 => (if y169.length + l0.length < 5864062014805 then (some (y169 ++ l0)) else (none))
set_option maxHeartbeats 8000000 in
set_option maxRecDepth 100000 in
theorem sutlerlaw07_names.calls (A0 : Option Addr) (c0 : Nat) (l0 : List (S37)) (r : List (S37)) (w : World) (hr0 : Kd.C k37 w A0 l0.length l0) (hc0 : l0.length ≤ c0) (h : sutlerlaw07_names.f l0 = some r) :
    Calls Try.prog 12 #[.slice A0 l0.length c0] w fun e w' => ∃ v0_ : Value, e = .returned (v0_) ∧ Kd.R k37 37 w' w.heap.size (fun _ => True) v0_ r ∧ Below w.heap.size w w' := by
  have HR0 := Aside0.mk hr0
  have HC0 := Aside0.mk hc0
  clear hr0 hc0
  have HB := Aside0.mk (Below.refl w.heap.size w)
  have H : ((some (([] : List (S37)) : List (S37))).bind fun y169 => (if y169.length + l0.length < 5864062014805 then (some (y169 ++ l0)) else (none))) = some r := h
  clear h
  obtain ⟨y169, hy169⟩ : ∃ y_ : List (S37), y_ = (([] : List (S37))) := ⟨_, rfl⟩
  replace H : (if y169.length + l0.length < 5864062014805 then (some (y169 ++ l0)) else (none)) = some r := by first | (rw [hy169]; with_reducible exact H) | (have H2_ := (Option.bind_some _ _).symm.trans H; rw [hy169]; with_reducible exact H2_) | (have H2_ := (Option.bind_some _ _).symm.trans H; with_reducible exact H2_) | with_reducible exact H | (rw [hy169]; exact H) | exact H
  have Ny169 := Aside0.mk hy169
  clear hy169
  by_cases c2 : y169.length + l0.length < 5864062014805
  · rw [if_pos c2] at H
    have LMc2 := Aside0.mk c2
    clear c2
    obtain ⟨y172, hy172⟩ : ∃ y_ : List (S37), y_ = (y169 ++ l0) := ⟨_, rfl⟩
    replace H : (some y172) = some r := by first | (rw [hy172]; with_reducible exact H) | (have H2_ := (Option.bind_some _ _).symm.trans H; rw [hy172]; with_reducible exact H2_) | (have H2_ := (Option.bind_some _ _).symm.trans H; with_reducible exact H2_) | with_reducible exact H | (rw [hy172]; exact H) | exact H
    have Ny172 := Aside0.mk hy172
    clear hy172
    obtain rfl := Option.some.inj H
    go_enter Try.func12, Try.ntmps12
    go_wp2_with (first | ((with_reducible refine gate_dst (N := 3) rfl ?_); refine Kd.R_lit k37 _ 37 ?hg (N := 3) ?hd (xs := ([] : List (S37))) (inner := []) (ok := fun _ => True) (okp := fun _ => True) ?hr ?hp (fun _ hk => hk) trivial (Below.refl _ _) (Nat.le_refl _) (by simp) ?_; (case hd => rfl); (case hg => rfl); (case hr => first | (go_simp; done) | (go_simp; rfl)); (case hp => exact (Reps.none _ _)); intro v170 w3 ho4 hb hg_ hnew_; clear hg_ hnew_; (first | rw [← Ny169.out] at ho4 | (simp only [Int.reduceToNat] at ho4; rw [← Ny169.out] at ho4)); have n0_ := Aside0.mk (Kd.R_lower ho4 (below_size (by repeat (first | (with_reducible first | exact HB.out | apply below_alloc | apply pw_below_drewN | apply below_drew1) | exact HB.out)))); have n1_ := Aside0.mk (below_step (by repeat (first | (with_reducible first | exact HB.out | apply below_alloc | apply pw_below_drewN | apply below_drew1) | exact HB.out)) hb); clear HB; have HO171 := n0_; have HB := n1_; clear n0_ n1_; clear hb ho4) | ((with_reducible refine gate_builtin (b := .append) (xs := #[.tmp 3, .tmp 4]) rfl ?_); at_builtin; refine Kd.R_append_rows k37 (w0 := w) w.heap.size rfl (.tmp 3) (.tmp 4) 22 37 (.agg #[(.string ⟨#[]⟩), (.int .i64 0)]) 24 rfl Try.underlying22 info37 rfl (by decide) (by omega) v170 y169 l0 _ _ _ (fun _ => True) (fun _ => False) rfl rfl ?aO ?aR (fun _ _ h => h) (fun _ h => h.elim) ?aF ?aB ?aS ?aL ?_; (case aR => repeat (first | exact (Kd.C_below HR0.out HB.out) | (with_reducible refine Kd.C_alloc ?_ _) | (with_reducible refine Kd.C_drewN ?_ _) | (with_reducible refine Kd.C_drew ?_))); (case aB => exact (by repeat (first | (with_reducible first | exact HB.out | apply below_alloc | apply pw_below_drewN | apply below_drew1) | exact HB.out))); (case aF => exact (fun _ _ => trivial)); (case aO => exact (by (with_reducible repeat (first | apply Kd.R_alloc | apply Kd.R_drewN | apply Kd.R_drew)); exact HO171.out)); (case aS => exact (below_size (by repeat (first | (with_reducible first | exact HB.out | apply below_alloc | apply pw_below_drewN | apply below_drew1) | exact HB.out)))); (case aL => have := LMc2.out; omega); intro v173 w5 ho hb hg hat; rw [← Ny172.out] at ho; have n0_ := Aside0.mk (hb); have n1_ := Aside0.mk (ho); clear HB; clear HO171; have HB := n0_; have HO174 := n1_; clear n0_ n1_; clear ho hb hg hat))
    go_ret
    exact ⟨_, by first | rfl | (simp [errW_none, errW_some] <;> rfl) | (simp [*, errW_none, errW_some] <;> rfl), by (with_reducible repeat (first | apply Kd.R_alloc | apply Kd.R_drewN | apply Kd.R_drew)); exact HO174.out, by repeat (first | (with_reducible first | exact HB.out | apply below_alloc | apply pw_below_drewN | apply below_drew1) | exact HB.out)⟩
  · rw [if_neg c2] at H
    exact absurd H (by simp)

end Go.Proofs.Ytcklpecjcebekaa.PAll
end
section
-- Written by a tool of the kit (print.py) over the laws of this seat at once; Lean checks it.
namespace Go.Proofs.Ytcklpecjcebekaa.PAll
open Go.RowKit Go.Proofs.YtcklpecjcebekaaW.PrintWords Go.Proofs.YtcklpecjcebekaaW.PrintLast Go.Proofs.YtcklpecjcebekaaW.PrintMore
attribute [local go_sem] max2_int min2_int max_two min_two max_three min_three max_four min_four   -- for this text's walks alone
set_option linter.unusedVariables false
set_option linter.unusedSimpArgs false

/-! ### sutlerbase_Bytes: function 18 -/
def sutlerbase_Bytes.f (l0 : List Int) : Option (List Int) := (some (([] : List Int) : List Int)).bind fun y297 => (if y297.length + l0.length < 140737488355328 then (some (y297 ++ l0)) else (none))
set_option maxHeartbeats 8000000 in
set_option maxRecDepth 100000 in
theorem sutlerbase_Bytes.calls (A0 : Option Addr) (c0 : Nat) (l0 : List Int) (r : List Int) (w : World) (hr0 : Kd.C (Kd.int .u8) w A0 l0.length l0) (hc0 : l0.length ≤ c0) (h : sutlerbase_Bytes.f l0 = some r) :
    Calls Try.prog 18 #[.slice A0 l0.length c0] w fun e w' => ∃ v0_ : Value, e = .returned (v0_) ∧ Kd.R (Kd.int .u8) 5 w' w.heap.size (fun _ => True) v0_ r ∧ Below w.heap.size w w' := by
  have HR0 := Aside0.mk hr0
  have HC0 := Aside0.mk hc0
  clear hr0 hc0
  have HB := Aside0.mk (Below.refl w.heap.size w)
  have H : ((some (([] : List Int) : List Int)).bind fun y297 => (if y297.length + l0.length < 140737488355328 then (some (y297 ++ l0)) else (none))) = some r := h
  clear h
  obtain ⟨y297, hy297⟩ : ∃ y_ : List Int, y_ = (([] : List Int)) := ⟨_, rfl⟩
  replace H : (if y297.length + l0.length < 140737488355328 then (some (y297 ++ l0)) else (none)) = some r := by first | (rw [hy297]; with_reducible exact H) | (have H2_ := (Option.bind_some _ _).symm.trans H; rw [hy297]; with_reducible exact H2_) | (have H2_ := (Option.bind_some _ _).symm.trans H; with_reducible exact H2_) | with_reducible exact H | (rw [hy297]; exact H) | exact H
  have Ny297 := Aside0.mk hy297
  clear hy297
  by_cases c2 : y297.length + l0.length < 140737488355328
  · rw [if_pos c2] at H
    have LMc2 := Aside0.mk c2
    clear c2
    obtain ⟨y300, hy300⟩ : ∃ y_ : List Int, y_ = (y297 ++ l0) := ⟨_, rfl⟩
    replace H : (some y300) = some r := by first | (rw [hy300]; with_reducible exact H) | (have H2_ := (Option.bind_some _ _).symm.trans H; rw [hy300]; with_reducible exact H2_) | (have H2_ := (Option.bind_some _ _).symm.trans H; with_reducible exact H2_) | with_reducible exact H | (rw [hy300]; exact H) | exact H
    have Ny300 := Aside0.mk hy300
    clear hy300
    obtain rfl := Option.some.inj H
    go_enter Try.func18, Try.ntmps18
    go_wp2_with (first | ((with_reducible refine gate_dst (N := 3) rfl ?_); refine Kd.R_lit (Kd.int .u8) _ 5 ?hg (N := 3) ?hd (xs := ([] : List Int)) (inner := []) (ok := fun _ => True) (okp := fun _ => True) ?hr ?hp (fun _ hk => hk) trivial (Below.refl _ _) (Nat.le_refl _) (by simp) ?_; (case hd => rfl); (case hg => rfl); (case hr => first | (go_simp; done) | (go_simp; rfl)); (case hp => exact (Reps.none _ _)); intro v298 w3 ho4 hb hg_ hnew_; clear hg_ hnew_; (first | rw [← Ny297.out] at ho4 | (simp only [Int.reduceToNat] at ho4; rw [← Ny297.out] at ho4)); have n0_ := Aside0.mk (Kd.R_lower ho4 (below_size (by repeat (first | (with_reducible first | exact HB.out | apply below_alloc | apply pw_below_drewN | apply below_drew1) | exact HB.out)))); have n1_ := Aside0.mk (below_step (by repeat (first | (with_reducible first | exact HB.out | apply below_alloc | apply pw_below_drewN | apply below_drew1) | exact HB.out)) hb); clear HB; have HO299 := n0_; have HB := n1_; clear n0_ n1_; clear hb ho4) | ((with_reducible refine gate_builtin (b := .append) (xs := #[.tmp 3, .tmp 4]) rfl ?_); at_builtin; refine Kd.R_append_rows (Kd.int .u8) (w0 := w) w.heap.size rfl (.tmp 3) (.tmp 4) 24 5 (.int .u8 0) 1 rfl Try.underlying24 info5 rfl (by decide) (by omega) v298 y297 l0 _ _ _ (fun _ => True) (fun _ => False) rfl rfl ?aO ?aR (fun _ _ h => h) (fun _ h => h.elim) ?aF ?aB ?aS ?aL ?_; (case aR => repeat (first | exact (Kd.C_below HR0.out HB.out) | (with_reducible refine Kd.C_alloc ?_ _) | (with_reducible refine Kd.C_drewN ?_ _) | (with_reducible refine Kd.C_drew ?_))); (case aB => exact (by repeat (first | (with_reducible first | exact HB.out | apply below_alloc | apply pw_below_drewN | apply below_drew1) | exact HB.out))); (case aF => exact (fun _ _ => trivial)); (case aO => exact (by (with_reducible repeat (first | apply Kd.R_alloc | apply Kd.R_drewN | apply Kd.R_drew)); exact HO299.out)); (case aS => exact (below_size (by repeat (first | (with_reducible first | exact HB.out | apply below_alloc | apply pw_below_drewN | apply below_drew1) | exact HB.out)))); (case aL => have := LMc2.out; omega); intro v301 w5 ho hb hg hat; rw [← Ny300.out] at ho; have n0_ := Aside0.mk (hb); have n1_ := Aside0.mk (ho); clear HB; clear HO299; have HB := n0_; have HO302 := n1_; clear n0_ n1_; clear ho hb hg hat))
    go_ret
    exact ⟨_, by first | rfl | (simp [errW_none, errW_some] <;> rfl) | (simp [*, errW_none, errW_some] <;> rfl), by (with_reducible repeat (first | apply Kd.R_alloc | apply Kd.R_drewN | apply Kd.R_drew)); exact HO302.out, by repeat (first | (with_reducible first | exact HB.out | apply below_alloc | apply pw_below_drewN | apply below_drew1) | exact HB.out)⟩
  · rw [if_neg c2] at H
    exact absurd H (by simp)

end Go.Proofs.Ytcklpecjcebekaa.PAll
end
