/- Texts of this claim, one behind the other: PAllx29, PAllx30, PAllx24, PAllx31, Pure6. -/
import Derived.Test.YtcklpecjcebekaaGF1
import Derived.Test.YtcklpecjcebekaaGF2
section
-- Written by a tool of the kit (print.py) over the laws of this seat at once; Lean checks it.
namespace Go.Proofs.Ytcklpecjcebekaa.PAll
open Go.RowKit Go.Proofs.YtcklpecjcebekaaW.PrintWords Go.Proofs.YtcklpecjcebekaaW.PrintLast Go.Proofs.YtcklpecjcebekaaW.PrintMore
attribute [local go_sem] Go.Proofs.Ytcklpecjcebekaa.str_leq Go.Proofs.Ytcklpecjcebekaa.str_gtr Go.Proofs.Ytcklpecjcebekaa.str_geq
attribute [local go_sem] max2_int min2_int max_two min_two max_three min_three max_four min_four   -- for this text's walks alone
set_option linter.unusedVariables false
set_option linter.unusedSimpArgs false

/-! ### sutlerref07_Add: function 15 -/
def sutlerref07_Add.l0 : Nat → List (S37) → ByteArray → Int → Int → Option ((List (S37)) × Int)
  | 0, _, _, _, _ => none
  | k + 1, x0, x1, x2, x10 => if x10 < (x0.length : Int) then (if 0 ≤ x10 then (if ((Op.bytesLess x1.toList (((rd_T37 x0 x10).f0).toList)) = true) then ((some (([] : List (S37)) : List (S37))).bind fun y185 => (if x10 ≤ (x0.length : Int) then ((some (x0.take (x10 : Int).toNat : List (S37))).bind fun y188 => (if y185.length + y188.length < 5864062014805 then ((some (y185 ++ y188 : List (S37))).bind fun y192 => ((some (([(⟨x1, x2⟩ : S37)] : List (S37)) : List (S37))).bind fun y195 => (if y192.length + y195.length < 5864062014805 then ((some (y192 ++ y195 : List (S37))).bind fun y198 => ((some (x0.drop (x10 : Int).toNat : List (S37))).bind fun y201 => (if y198.length + y201.length < 5864062014805 then (some ((y198 ++ y201), 0)) else (none)))) else (none)))) else (none))) else (none))) else (sutlerref07_Add.l0 k x0 x1 x2 (wrap64 (x10 + 1)))) else (none)) else ((some (([] : List (S37)) : List (S37))).bind fun y208 => (if 0 ≤ x10 then (if x10 ≤ (x0.length : Int) then ((some (x0.take (x10 : Int).toNat : List (S37))).bind fun y211 => (if y208.length + y211.length < 5864062014805 then ((some (y208 ++ y211 : List (S37))).bind fun y215 => ((some (([(⟨x1, x2⟩ : S37)] : List (S37)) : List (S37))).bind fun y218 => (if y215.length + y218.length < 5864062014805 then ((some (y215 ++ y218 : List (S37))).bind fun y221 => ((some (x0.drop (x10 : Int).toNat : List (S37))).bind fun y224 => (if y221.length + y224.length < 5864062014805 then (some ((y221 ++ y224), 0)) else (none)))) else (none)))) else (none))) else (none)) else (none)))
def sutlerref07_Add.f (k : Nat) (l0 : List (S37)) (a1 : ByteArray) (a2 : Int) : Option ((List (S37)) × Int) := (sutlerref07_Look.f k l0 a1).bind fun bt181 => (if bt181.2 = 71 then (some (([] : List (S37)), bt181.2)) else ((sutlerref07_inode.f a2).bind fun t183 => (if t183 = true then (if bt181.2 = 0 then (some (([] : List (S37)), 6)) else (if (l0.length : Int) ≥ 256 then (some (([] : List (S37)), 4)) else (sutlerref07_Add.l0 k l0 a1 a2 0))) else (some (([] : List (S37)), 2)))))
theorem sutlerref07_Add.mono_l : ∀ k, (∀ y0 y1 y2 y3, LeO (sutlerref07_Add.l0 k y0 y1 y2 y3) (sutlerref07_Add.l0 (k + 1) y0 y1 y2 y3))
  | 0 => fun _ _ _ _ r h => by simp [sutlerref07_Add.l0] at h
  | k + 1 => by
    have ih0 := sutlerref07_Add.mono_l k
    · intro y0 y1 y2 y3
      unfold sutlerref07_Add.l0
      repeat' first
      | (with_reducible exact ih0 _ _ _ _)
      | (with_reducible exact sutlerref07_Look.mono _ _ _)
      | (with_reducible exact LeO.refl _)
      | (with_reducible exact LeO.none _)
      | (with_reducible refine LeO.ite ?_ ?_)
      | (with_reducible refine LeO.bind ?_ (fun _ => ?_))
      | exact ih0 _ _ _ _
      | exact sutlerref07_Look.mono _ _ _
      | exact LeO.none _
      | refine LeO.ite ?_ ?_
      | refine LeO.bind ?_ (fun _ => ?_)
theorem sutlerref07_Add.mono : ∀ a0 a1 a2 k, LeO (sutlerref07_Add.f k a0 a1 a2) (sutlerref07_Add.f (k + 1) a0 a1 a2) := by
  intro a0 a1 a2 k
  have ih0 := sutlerref07_Add.mono_l k
  unfold sutlerref07_Add.f
  repeat' first
      | (with_reducible exact ih0 _ _ _ _)
      | (with_reducible exact sutlerref07_Look.mono _ _ _)
      | (with_reducible exact LeO.refl _)
      | (with_reducible exact LeO.none _)
      | (with_reducible refine LeO.ite ?_ ?_)
      | (with_reducible refine LeO.bind ?_ (fun _ => ?_))
      | exact ih0 _ _ _ _
      | exact sutlerref07_Look.mono _ _ _
      | exact LeO.none _
      | refine LeO.ite ?_ ?_
      | refine LeO.bind ?_ (fun _ => ?_)
def sutlerref07_Add.T13 : Bool × List (List Nat × List Nat) := (true, [([], []), ([], []), ([], []), ([1, 2], [1, 2]), ([0, 3], [0, 3]), ([], []), ([], []), ([5, 6], [5, 6]), ([7], [7]), ([4, 8, 4], [4, 8]), ([], []), ([], []), ([10, 11], [10, 11]), ([9, 12, 9], [9, 12]), ([13, 13, 0, 1, 2, 3, 4, 5, 6, 7, 8, 9, 10, 11, 12, 13], [13]), ([14, 0, 1, 2, 3, 4, 5, 6, 7, 8, 9, 10, 11, 12, 13, 14], [])])
def sutlerref07_Add.B13 : List Nat := [0, 0, 0, 6, 15, 0, 0, 96, 224, 511, 0, 0, 3072, 8191, 16383, 32767]
theorem sutlerref07_Add.tab13 : rtab .any (opsOf Try.f15 13) = sutlerref07_Add.T13 := by kernel_rfl
theorem sutlerref07_Add.bits13 : waitsOk sutlerref07_Add.T13.2 sutlerref07_Add.B13 = true := by kernel_rfl
set_option maxHeartbeats 8000000 in
set_option maxRecDepth 100000 in
theorem sutlerref07_Add.calls (k : Nat) (A0 : Option Addr) (c0 : Nat) (l0 : List (S37)) (a1 : ByteArray) (a2 : Int) (r1 : List (S37)) (r2 : Int) (w : World) (hr0 : Kd.C k37 w A0 l0.length l0) (hc0 : l0.length ≤ c0) (h : sutlerref07_Add.f k l0 a1 a2 = some (r1, r2)) :
    Calls Try.prog 15 #[.slice A0 l0.length c0, .string a1, .int .i64 a2] w fun e w' => ∃ v0_ : Value, e = .returned (.tuple #[v0_, .int .i64 r2]) ∧ Kd.R k37 37 w' w.heap.size (fun _ => True) v0_ r1 ∧ Below w.heap.size w w' := by
  have hu37 := Try.underlying37
  have HR0 := Aside0.mk hr0
  have HC0 := Aside0.mk hc0
  clear hr0 hc0
  have HB := Aside0.mk (Below.refl w.heap.size w)
  have H : ((sutlerref07_Look.f k l0 a1).bind fun bt181 => (if bt181.2 = 71 then (some (([] : List (S37)), bt181.2)) else ((sutlerref07_inode.f a2).bind fun t183 => (if t183 = true then (if bt181.2 = 0 then (some (([] : List (S37)), 6)) else (if (l0.length : Int) ≥ 256 then (some (([] : List (S37)), 4)) else (sutlerref07_Add.l0 k l0 a1 a2 0))) else (some (([] : List (S37)), 2)))))) = some (r1, r2) := h
  clear h
  replace H := Option.bind_eq_some_iff.mp H
  obtain ⟨⟨t181, t182⟩, A40, H⟩ := H
  replace H : (if t182 = 71 then (some (([] : List (S37)), t182)) else ((sutlerref07_inode.f a2).bind fun t183 => (if t183 = true then (if t182 = 0 then (some (([] : List (S37)), 6)) else (if (l0.length : Int) ≥ 256 then (some (([] : List (S37)), 4)) else (sutlerref07_Add.l0 k l0 a1 a2 0))) else (some (([] : List (S37)), 2))))) = some (r1, r2) := H
  have A4 := Aside0.mk A40
  clear A40
  by_cases c5 : t182 = 71
  · rw [if_pos c5] at H
    have c5b0 : (t182 == 71) = true := beq_iff_eq.mpr c5
    have c5b1 : (t182 != 71) = false := bne_eq_false_iff_eq.mpr c5
    clear c5
    simp only [Option.some.injEq, Prod.mk.injEq] at H
    obtain ⟨rfl, rfl⟩ := H
    go_enter Try.func15, Try.ntmps15
    go_wp2_with (first | ((with_reducible refine gate_callee (f := 14) rfl ?_); refine goesL_ (some 14) rfl rfl Try.func14 (by kernel_rfl) rfl #[.slice A0 l0.length c0, .string a1] rfl (by (try simp only [List.map_toArray, List.map_cons, List.map_nil]); first | done | rfl | (simp only [List.length_drop, List.length_take]; rfl)) ?_; (with_reducible refine (sutlerref07_Look.calls k _ _ l0 a1 t181 t182 _ ?side1 ?side2 A4.out).mono ?_); (case side1 => repeat (first | exact HR0.out | (with_reducible refine Kd.C_alloc ?_ _) | (with_reducible refine Kd.C_drewN ?_ _) | (with_reducible refine Kd.C_drew ?_))); (case side2 => exact HC0.out); rintro e w' ⟨rfl, ⟨nd, rfl⟩⟩; refine ⟨_, rfl, ?_⟩))
    go_ret2
    exact ⟨_, by first | rfl | (simp [errW_none, errW_some] <;> rfl) | (simp [*, errW_none, errW_some] <;> rfl), by first | exact Kd.R_nil _ _ _ _ _ | exact Kd.N_nil _ _ _ _ _ | exact Kd.V_nil _ _ _ _ _ | exact Kd.Q_nil _ _ _ _ _ | exact Kd.S_nil _ _ _ _ _, by repeat (first | (with_reducible first | exact HB.out | apply below_alloc | apply pw_below_drewN | apply below_drew1) | exact HB.out)⟩
  · rw [if_neg c5] at H
    have c5b0 : (t182 == 71) = false := beq_eq_false_iff_ne.mpr c5
    have c5b1 : (t182 != 71) = true := bne_iff_ne.mpr c5
    replace H := Option.bind_eq_some_iff.mp H
    obtain ⟨t183, A60, H⟩ := H
    replace H : (if t183 = true then (if t182 = 0 then (some (([] : List (S37)), 6)) else (if (l0.length : Int) ≥ 256 then (some (([] : List (S37)), 4)) else (sutlerref07_Add.l0 k l0 a1 a2 0))) else (some (([] : List (S37)), 2))) = some (r1, r2) := H
    have A6 := Aside0.mk A60
    clear A60
    by_cases c7 : t183 = true
    · subst c7
      have H1 : (if t182 = 0 then (some (([] : List (S37)), 6)) else (if (l0.length : Int) ≥ 256 then (some (([] : List (S37)), 4)) else (sutlerref07_Add.l0 k l0 a1 a2 0))) = some (r1, r2) := by rw [if_pos rfl] at H; exact H
      clear H
      have H := H1
      clear H1
      by_cases c8 : t182 = 0
      · rw [if_pos c8] at H
        have c8b0 : (t182 == 0) = true := beq_iff_eq.mpr c8
        have c8b1 : (t182 != 0) = false := bne_eq_false_iff_eq.mpr c8
        clear c8
        simp only [Option.some.injEq, Prod.mk.injEq] at H
        obtain ⟨rfl, rfl⟩ := H
        go_enter Try.func15, Try.ntmps15
        go_wp2_with (first | ((with_reducible refine gate_callee (f := 14) rfl ?_); refine goesL_ (some 14) rfl rfl Try.func14 (by kernel_rfl) rfl #[.slice A0 l0.length c0, .string a1] rfl (by (try simp only [List.map_toArray, List.map_cons, List.map_nil]); first | done | rfl | (simp only [List.length_drop, List.length_take]; rfl)) ?_; (with_reducible refine (sutlerref07_Look.calls k _ _ l0 a1 t181 t182 _ ?side1 ?side2 A4.out).mono ?_); (case side1 => repeat (first | exact HR0.out | (with_reducible refine Kd.C_alloc ?_ _) | (with_reducible refine Kd.C_drewN ?_ _) | (with_reducible refine Kd.C_drew ?_))); (case side2 => exact HC0.out); rintro e w' ⟨rfl, ⟨nd, rfl⟩⟩; refine ⟨_, rfl, ?_⟩) | ((with_reducible refine gate_callee (f := 33) rfl ?_); refine goesL_ (some 21) rfl rfl Try.func33 (by kernel_rfl) rfl #[.int .i64 a2] rfl (by (try simp only [List.map_toArray, List.map_cons, List.map_nil]); first | done | rfl | (simp only [List.length_drop, List.length_take]; rfl)) ?_; (with_reducible refine (sutlerref07_inode.calls a2 true _ A6.out).mono ?_); rintro e w' ⟨rfl, ⟨nd, rfl⟩⟩; refine ⟨_, rfl, ?_⟩))
        go_ret2
        exact ⟨_, by first | rfl | (simp [errW_none, errW_some] <;> rfl) | (simp [*, errW_none, errW_some] <;> rfl), by first | exact Kd.R_nil _ _ _ _ _ | exact Kd.N_nil _ _ _ _ _ | exact Kd.V_nil _ _ _ _ _ | exact Kd.Q_nil _ _ _ _ _ | exact Kd.S_nil _ _ _ _ _, by repeat (first | (with_reducible first | exact HB.out | apply below_alloc | apply pw_below_drewN | apply below_drew1) | exact HB.out)⟩
      · rw [if_neg c8] at H
        have c8b0 : (t182 == 0) = false := beq_eq_false_iff_ne.mpr c8
        have c8b1 : (t182 != 0) = true := bne_iff_ne.mpr c8
        by_cases c9 : (l0.length : Int) ≥ 256
        · rw [if_pos c9] at H
          have c9b0 : decide (256 ≤ (l0.length : Int)) = true := decide_eq_true c9
          have c9b1 : decide (256 ≤ l0.length) = true := decide_eq_true (by omega)
          clear c9
          simp only [Option.some.injEq, Prod.mk.injEq] at H
          obtain ⟨rfl, rfl⟩ := H
          go_enter Try.func15, Try.ntmps15
          go_wp2_with (first | ((with_reducible refine gate_callee (f := 14) rfl ?_); refine goesL_ (some 14) rfl rfl Try.func14 (by kernel_rfl) rfl #[.slice A0 l0.length c0, .string a1] rfl (by (try simp only [List.map_toArray, List.map_cons, List.map_nil]); first | done | rfl | (simp only [List.length_drop, List.length_take]; rfl)) ?_; (with_reducible refine (sutlerref07_Look.calls k _ _ l0 a1 t181 t182 _ ?side1 ?side2 A4.out).mono ?_); (case side1 => repeat (first | exact HR0.out | (with_reducible refine Kd.C_alloc ?_ _) | (with_reducible refine Kd.C_drewN ?_ _) | (with_reducible refine Kd.C_drew ?_))); (case side2 => exact HC0.out); rintro e w' ⟨rfl, ⟨nd, rfl⟩⟩; refine ⟨_, rfl, ?_⟩) | ((with_reducible refine gate_callee (f := 33) rfl ?_); refine goesL_ (some 21) rfl rfl Try.func33 (by kernel_rfl) rfl #[.int .i64 a2] rfl (by (try simp only [List.map_toArray, List.map_cons, List.map_nil]); first | done | rfl | (simp only [List.length_drop, List.length_take]; rfl)) ?_; (with_reducible refine (sutlerref07_inode.calls a2 true _ A6.out).mono ?_); rintro e w' ⟨rfl, ⟨nd, rfl⟩⟩; refine ⟨_, rfl, ?_⟩))
          go_ret2
          exact ⟨_, by first | rfl | (simp [errW_none, errW_some] <;> rfl) | (simp [*, errW_none, errW_some] <;> rfl), by first | exact Kd.R_nil _ _ _ _ _ | exact Kd.N_nil _ _ _ _ _ | exact Kd.V_nil _ _ _ _ _ | exact Kd.Q_nil _ _ _ _ _ | exact Kd.S_nil _ _ _ _ _, by repeat (first | (with_reducible first | exact HB.out | apply below_alloc | apply pw_below_drewN | apply below_drew1) | exact HB.out)⟩
        · rw [if_neg c9] at H
          have c9b0 : decide (256 ≤ (l0.length : Int)) = false := decide_eq_false c9
          have c9b1 : decide (256 ≤ l0.length) = false := decide_eq_false (by omega)
          clear c9
          have H' := Aside0.mk H
          clear H
          go_enter Try.func15, Try.ntmps15
          go_wp2_with (first | ((with_reducible refine gate_callee (f := 14) rfl ?_); refine goesL_ (some 14) rfl rfl Try.func14 (by kernel_rfl) rfl #[.slice A0 l0.length c0, .string a1] rfl (by (try simp only [List.map_toArray, List.map_cons, List.map_nil]); first | done | rfl | (simp only [List.length_drop, List.length_take]; rfl)) ?_; (with_reducible refine (sutlerref07_Look.calls k _ _ l0 a1 t181 t182 _ ?side1 ?side2 A4.out).mono ?_); (case side1 => repeat (first | exact HR0.out | (with_reducible refine Kd.C_alloc ?_ _) | (with_reducible refine Kd.C_drewN ?_ _) | (with_reducible refine Kd.C_drew ?_))); (case side2 => exact HC0.out); rintro e w' ⟨rfl, ⟨nd, rfl⟩⟩; refine ⟨_, rfl, ?_⟩) | ((with_reducible refine gate_callee (f := 33) rfl ?_); refine goesL_ (some 21) rfl rfl Try.func33 (by kernel_rfl) rfl #[.int .i64 a2] rfl (by (try simp only [List.map_toArray, List.map_cons, List.map_nil]); first | done | rfl | (simp only [List.length_drop, List.length_take]; rfl)) ?_; (with_reducible refine (sutlerref07_inode.calls a2 true _ A6.out).mono ?_); rintro e w' ⟨rfl, ⟨nd, rfl⟩⟩; refine ⟨_, rfl, ?_⟩))
          go_loopg [10] k (fun kq v10 w' => ∃ (x10_1 : Int), v10 = .int .i64 x10_1 ∧ Aside0 (sutlerref07_Add.l0 kq l0 a1 a2 x10_1 = some (r1, r2)) ∧ Aside0 (kq ≤ k) ∧ Aside0 (Below w.heap.size w w'))
          case atStart => exact ⟨(0), (by first | rfl | (simp; done) | (simp [*]; done)), H', ⟨Nat.le_refl _⟩, ⟨by repeat (first | (with_reducible first | exact HB.out | apply below_alloc | apply pw_below_drewN | apply below_drew1) | exact HB.out)⟩⟩
          case round =>
            clear H'
            try clear c1
            try clear p2
            try clear c3
            try clear c5
            try clear c5b0
            try clear c5b1
            try clear c7
            try clear c8
            try clear c8b0
            try clear c8b1
            try clear c9
            try clear c9b0
            try clear c9b1
            obtain ⟨x10_1, rfl, HA, HK1, HB⟩ := hrel
            cases gk with
            | zero => exact absurd HA.out (by simp [sutlerref07_Add.l0])
            | succ k1 =>
              have H := HA.out
              clear HA
              simp only [sutlerref07_Add.l0] at H
              by_cases c10 : x10_1 < (l0.length : Int)
              · rw [if_pos c10] at H
                have c10b0 : decide (x10_1 < (l0.length : Int)) = true := decide_eq_true c10
                clear c10
                by_cases c11 : 0 ≤ x10_1
                · rw [if_pos c11] at H
                  have c11b0 : decide (0 ≤ x10_1) = true := decide_eq_true c11
                  clear c11
                  by_cases c12 : ((Op.bytesLess a1.toList (((rd_T37 l0 x10_1).f0).toList)) = true)
                  · rw [if_pos c12] at H
                    have c12b0 : (Op.bytesLess a1.toList (((rd_T37 l0 x10_1).f0).toList)) = true := c12
                    clear c12
                    obtain ⟨y185, hy185⟩ : ∃ y_ : List (S37), y_ = (([] : List (S37))) := ⟨_, rfl⟩
                    replace H : (if x10_1 ≤ (l0.length : Int) then ((some (l0.take (x10_1 : Int).toNat : List (S37))).bind fun y188 => (if y185.length + y188.length < 5864062014805 then ((some (y185 ++ y188 : List (S37))).bind fun y192 => ((some (([(⟨a1, a2⟩ : S37)] : List (S37)) : List (S37))).bind fun y195 => (if y192.length + y195.length < 5864062014805 then ((some (y192 ++ y195 : List (S37))).bind fun y198 => ((some (l0.drop (x10_1 : Int).toNat : List (S37))).bind fun y201 => (if y198.length + y201.length < 5864062014805 then (some ((y198 ++ y201), 0)) else (none)))) else (none)))) else (none))) else (none)) = some (r1, r2) := by first | (rw [hy185]; with_reducible exact H) | (have H2_ := (Option.bind_some _ _).symm.trans H; rw [hy185]; with_reducible exact H2_) | (have H2_ := (Option.bind_some _ _).symm.trans H; with_reducible exact H2_) | with_reducible exact H | (rw [hy185]; exact H) | exact H
                    have Ny185 := Aside0.mk hy185
                    clear hy185
                    have c13b0 := eq_true (of_decide_eq_true (by first | (with_reducible assumption) | assumption) : 0 ≤ x10_1)
                    by_cases c14 : x10_1 ≤ (l0.length : Int)
                    · rw [if_pos c14] at H
                      have c14b0 := eq_true c14
                      have c14b1 : decide (x10_1 ≤ (l0.length : Int)) = true := decide_eq_true c14
                      clear c14
                      obtain ⟨y188, hy188⟩ : ∃ y_ : List (S37), y_ = (l0.take (x10_1 : Int).toNat) := ⟨_, rfl⟩
                      replace H : (if y185.length + y188.length < 5864062014805 then ((some (y185 ++ y188 : List (S37))).bind fun y192 => ((some (([(⟨a1, a2⟩ : S37)] : List (S37)) : List (S37))).bind fun y195 => (if y192.length + y195.length < 5864062014805 then ((some (y192 ++ y195 : List (S37))).bind fun y198 => ((some (l0.drop (x10_1 : Int).toNat : List (S37))).bind fun y201 => (if y198.length + y201.length < 5864062014805 then (some ((y198 ++ y201), 0)) else (none)))) else (none)))) else (none)) = some (r1, r2) := by first | (rw [hy188]; with_reducible exact H) | (have H2_ := (Option.bind_some _ _).symm.trans H; rw [hy188]; with_reducible exact H2_) | (have H2_ := (Option.bind_some _ _).symm.trans H; with_reducible exact H2_) | with_reducible exact H | (rw [hy188]; exact H) | exact H
                      have Ny188 := Aside0.mk hy188
                      clear hy188
                      by_cases c15 : y185.length + y188.length < 5864062014805
                      · rw [if_pos c15] at H
                        have LMc15 := Aside0.mk c15
                        clear c15
                        obtain ⟨y192, hy192⟩ : ∃ y_ : List (S37), y_ = (y185 ++ y188) := ⟨_, rfl⟩
                        replace H : ((some (([(⟨a1, a2⟩ : S37)] : List (S37)) : List (S37))).bind fun y195 => (if y192.length + y195.length < 5864062014805 then ((some (y192 ++ y195 : List (S37))).bind fun y198 => ((some (l0.drop (x10_1 : Int).toNat : List (S37))).bind fun y201 => (if y198.length + y201.length < 5864062014805 then (some ((y198 ++ y201), 0)) else (none)))) else (none))) = some (r1, r2) := by first | (rw [hy192]; with_reducible exact H) | (have H2_ := (Option.bind_some _ _).symm.trans H; rw [hy192]; with_reducible exact H2_) | (have H2_ := (Option.bind_some _ _).symm.trans H; with_reducible exact H2_) | with_reducible exact H | (rw [hy192]; exact H) | exact H
                        have Ny192 := Aside0.mk hy192
                        clear hy192
                        obtain ⟨y195, hy195⟩ : ∃ y_ : List (S37), y_ = (([(⟨a1, a2⟩ : S37)] : List (S37))) := ⟨_, rfl⟩
                        replace H : (if y192.length + y195.length < 5864062014805 then ((some (y192 ++ y195 : List (S37))).bind fun y198 => ((some (l0.drop (x10_1 : Int).toNat : List (S37))).bind fun y201 => (if y198.length + y201.length < 5864062014805 then (some ((y198 ++ y201), 0)) else (none)))) else (none)) = some (r1, r2) := by first | (rw [hy195]; with_reducible exact H) | (have H2_ := (Option.bind_some _ _).symm.trans H; rw [hy195]; with_reducible exact H2_) | (have H2_ := (Option.bind_some _ _).symm.trans H; with_reducible exact H2_) | with_reducible exact H | (rw [hy195]; exact H) | exact H
                        have Ny195 := Aside0.mk hy195
                        clear hy195
                        by_cases c16 : y192.length + y195.length < 5864062014805
                        · rw [if_pos c16] at H
                          have LMc16 := Aside0.mk c16
                          clear c16
                          obtain ⟨y198, hy198⟩ : ∃ y_ : List (S37), y_ = (y192 ++ y195) := ⟨_, rfl⟩
                          replace H : ((some (l0.drop (x10_1 : Int).toNat : List (S37))).bind fun y201 => (if y198.length + y201.length < 5864062014805 then (some ((y198 ++ y201), 0)) else (none))) = some (r1, r2) := by first | (rw [hy198]; with_reducible exact H) | (have H2_ := (Option.bind_some _ _).symm.trans H; rw [hy198]; with_reducible exact H2_) | (have H2_ := (Option.bind_some _ _).symm.trans H; with_reducible exact H2_) | with_reducible exact H | (rw [hy198]; exact H) | exact H
                          have Ny198 := Aside0.mk hy198
                          clear hy198
                          have c17b0 := eq_true (of_decide_eq_true (by first | (with_reducible assumption) | assumption) : 0 ≤ x10_1)
                          have c18b0 := eq_true (of_decide_eq_true (by first | (with_reducible assumption) | assumption) : x10_1 ≤ (l0.length : Int))
                          obtain ⟨y201, hy201⟩ : ∃ y_ : List (S37), y_ = (l0.drop (x10_1 : Int).toNat) := ⟨_, rfl⟩
                          replace H : (if y198.length + y201.length < 5864062014805 then (some ((y198 ++ y201), 0)) else (none)) = some (r1, r2) := by first | (rw [hy201]; with_reducible exact H) | (have H2_ := (Option.bind_some _ _).symm.trans H; rw [hy201]; with_reducible exact H2_) | (have H2_ := (Option.bind_some _ _).symm.trans H; with_reducible exact H2_) | with_reducible exact H | (rw [hy201]; exact H) | exact H
                          have Ny201 := Aside0.mk hy201
                          clear hy201
                          by_cases c19 : y198.length + y201.length < 5864062014805
                          · rw [if_pos c19] at H
                            have LMc19 := Aside0.mk c19
                            clear c19
                            obtain ⟨y205, hy205⟩ : ∃ y_ : List (S37), y_ = (y198 ++ y201) := ⟨_, rfl⟩
                            replace H : (some (y205, 0)) = some (r1, r2) := by first | (rw [hy205]; with_reducible exact H) | (have H2_ := (Option.bind_some _ _).symm.trans H; rw [hy205]; with_reducible exact H2_) | (have H2_ := (Option.bind_some _ _).symm.trans H; with_reducible exact H2_) | with_reducible exact H | (rw [hy205]; exact H) | exact H
                            have Ny205 := Aside0.mk hy205
                            clear hy205
                            simp only [Option.some.injEq, Prod.mk.injEq] at H
                            obtain ⟨rfl, rfl⟩ := H
                            have p184 : 0 ≤ (x10_1 : Int) := of_decide_eq_true (by first | (with_reducible assumption) | assumption)
                            have q184 : x10_1 < (l0.length : Int) := of_decide_eq_true (by first | (with_reducible assumption) | assumption)
                            obtain ⟨ad184, e184, hx184_0, hx184_1⟩ := at_T37 HR0.out x10_1 p184 q184
                            cases e184
                            replace hx184_0 := (HB.out.cell (World.block_lt_of_cell? w _ hx184_0)).trans hx184_0
                            replace hx184_1 := (HB.out.cell (World.block_lt_of_cell? w _ hx184_1)).trans hx184_1
                            replace p184 := eq_true p184
                            replace q184 := eq_true q184
                            try go_wp2
                            have n0_ := Aside0.mk (below_drew1 HB.out)
                            clear HB
                            have HB := n0_
                            clear n0_
                            have q21 : (x10_1 : Int) ≤ ((l0.length : Int) : Int) := of_decide_eq_true (by first | (with_reducible assumption) | assumption)
                            obtain ⟨i021, hi021, _, hsz21, _⟩ := info_parts info37
                            have hroom21 : l0.length ≤ c0 := HC0.out
                            have hC21 : Kd.C k37 _ (some ad184) l0.length l0 := HR0.out
                            have hcut21 := cut_to (P := Try.prog) 22 37 .i64 Try.underlying22 hi021 (some ad184) l0.length c0 x10_1 (of_decide_eq_true (by first | (with_reducible assumption) | assumption)) q21 hroom21
                            have hr21 := Kd.C_take (m := (x10_1 : Int).toNat) hC21 (by omega)
                            have hy21 : y188.length = (x10_1 : Int).toNat := (by rw [Ny188.out, List.length_take]; omega)
                            rw [← Ny188.out] at hr21
                            rw [← hy21] at hcut21
                            have HR191 := Aside0.mk hr21
                            have HC191 := Aside0.mk (show y188.length ≤ c0 from by omega)
                            clear hr21 hC21 hroom21 hi021 hsz21
                            have KY21 := Aside0.mk hy21
                            clear hy21
                            replace q21 := eq_true q21
                            have q22 : (x10_1 : Int) ≤ ((l0.length : Int) : Int) := of_decide_eq_true (by first | (with_reducible assumption) | assumption)
                            obtain ⟨i022, hi022, _, hsz22, _⟩ := info_parts info37
                            have hroom22 : l0.length ≤ c0 := HC0.out
                            have hC22 : Kd.C k37 _ (some ad184) l0.length l0 := HR0.out
                            have q022 : (0 : Int) ≤ (x10_1 : Int) := of_decide_eq_true (by first | (with_reducible assumption) | assumption)
                            have hcut22 := cut_from (P := Try.prog) 22 37 .i64 Try.underlying22 hi022 2 hsz22 (some ad184) l0.length c0 x10_1 q022 q22
                            have hr22 := Kd.C_drop (m := (x10_1 : Int).toNat) (c := c0) hC22 (by omega) hroom22
                            obtain ⟨A22, hA22⟩ : ∃ A1, A1 = (if c0 = (x10_1 : Int).toNat then (some ad184) else ((some ad184) : Option Addr).map (·.add ((x10_1 : Int).toNat * 2))) := ⟨_, rfl⟩
                            obtain ⟨c22, hc22⟩ : ∃ c1, c1 = c0 - (x10_1 : Int).toNat := ⟨_, rfl⟩
                            have hy22 : y201.length = l0.length - (x10_1 : Int).toNat := (by rw [Ny201.out, List.length_drop] <;> omega)
                            rw [show (l0).drop (x10_1 : Int).toNat = y201 from Ny201.out.symm] at hr22
                            replace hr22 : Kd.C k37 _ A22 y201.length y201 := (by rw [hA22]; exact hr22)
                            rw [← hy22, ← hA22, ← hc22] at hcut22
                            have HR204 := Aside0.mk hr22
                            have HC204 := Aside0.mk (show y201.length ≤ c22 from by rw [hy22, hc22]; exact Nat.sub_le_sub_right hroom22 _)
                            clear hr22 hC22 hroom22 hi022 hsz22 hc22
                            have KY22 := Aside0.mk hy22
                            have KA22 := Aside0.mk hA22
                            clear hy22 hA22
                            replace q22 := eq_true q22
                            refine start_ (n := 16) (S := fun w' => True) (ds := []) #[false, false, false, false, false, false, false, false, false, false, false, false, false, false, false, false] (by kernel_rfl) rfl rfl trivial (fun hHeld => ?_); refine with_tabW sutlerref07_Add.tab13 sutlerref07_Add.bits13 (fun HT_ HW_ => ?_)
                            generalize wr.drew = w20 at HB HR191 HR204 hHeld ⊢
                            refine pure_ (i := 1) (N := some 44) (v := ?_) (a' := ?_) #[false, true, false, false, false, false, false, false, false, false, false, false, false, false, false, false] rfl rfl (any_of HT_.out (by kernel_rfl)) (fun _ _ _ h => h) (Or.inl ⟨by rfl, ?_⟩) ?_ ?_
                            rotate_left
                            · intro w'
                              go_simp
                              with_reducible rfl
                            rotate_left
                            · simp only [Act.put, List.setIfInBounds_toArray, List.set_cons_zero, List.set_cons_succ, i64_w, i32_w]
                              rfl
                            refine pure_ (i := 2) (N := some 45) (v := ?_) (a' := ?_) #[false, true, true, false, false, false, false, false, false, false, false, false, false, false, false, false] rfl rfl (any_of HT_.out (by kernel_rfl)) (fun _ _ _ h => h) (Or.inl ⟨by rfl, ?_⟩) ?_ ?_
                            rotate_left
                            · intro w'
                              go_simp
                              with_reducible rfl
                            rotate_left
                            · simp only [Act.put, List.setIfInBounds_toArray, List.set_cons_zero, List.set_cons_succ, i64_w, i32_w]
                              rfl
                            refine pure_ (i := 3) (N := some 46) (v := ?_) (a' := ?_) #[false, true, true, true, false, false, false, false, false, false, false, false, false, false, false, false] rfl rfl (any_of HT_.out (by kernel_rfl)) (fun _ _ _ h => h) (Or.inl ⟨by rfl, ?_⟩) ?_ ?_
                            rotate_left
                            · intro w'
                              go_simp
                              with_reducible rfl
                            rotate_left
                            · simp only [Act.put, List.setIfInBounds_toArray, List.set_cons_zero, List.set_cons_succ, i64_w, i32_w]
                              rfl
                            refine pure_ (i := 5) (N := some 48) (v := ?_) (a' := ?_) #[false, true, true, true, false, true, false, false, false, false, false, false, false, false, false, false] rfl rfl (any_of HT_.out (by kernel_rfl)) (fun _ _ _ h => h) (Or.inl ⟨by rfl, ?_⟩) ?_ ?_
                            rotate_left
                            · intro w'
                              go_simp
                              with_reducible rfl
                            rotate_left
                            · simp only [Act.put, List.setIfInBounds_toArray, List.set_cons_zero, List.set_cons_succ, i64_w, i32_w]
                              rfl
                            refine pure_ (i := 6) (N := some 49) (v := ?_) (a' := ?_) #[false, true, true, true, false, true, true, false, false, false, false, false, false, false, false, false] rfl rfl (any_of HT_.out (by kernel_rfl)) (fun _ _ _ h => h) (Or.inl ⟨by rfl, ?_⟩) ?_ ?_
                            rotate_left
                            · intro w'
                              go_simp
                              with_reducible rfl
                            rotate_left
                            · simp only [Act.put, List.setIfInBounds_toArray, List.set_cons_zero, List.set_cons_succ, i64_w, i32_w]
                              rfl
                            refine pure_ (i := 7) (N := some 50) (v := ?_) (a' := ?_) #[false, true, true, true, false, true, true, true, false, false, false, false, false, false, false, false] rfl rfl (any_of HT_.out (by kernel_rfl)) (fun _ _ _ h => h) (Or.inl ⟨by rfl, ?_⟩) ?_ ?_
                            rotate_left
                            · intro w'
                              go_simp
                              with_reducible rfl
                            rotate_left
                            · simp only [Act.put, List.setIfInBounds_toArray, List.set_cons_zero, List.set_cons_succ, i64_w, i32_w]
                              rfl
                            refine pure_ (i := 10) (N := some 53) (v := ?_) (a' := ?_) #[false, true, true, true, false, true, true, true, false, false, true, false, false, false, false, false] rfl rfl (any_of HT_.out (by kernel_rfl)) (fun _ _ _ h => h) (Or.inl ⟨by rfl, ?_⟩) ?_ ?_
                            rotate_left
                            · intro w'
                              go_simp
                              with_reducible rfl
                            rotate_left
                            · simp only [Act.put, List.setIfInBounds_toArray, List.set_cons_zero, List.set_cons_succ, i64_w, i32_w]
                              rfl
                            refine pure_ (i := 11) (N := some 54) (v := ?_) (a' := ?_) #[false, true, true, true, false, true, true, true, false, false, true, true, false, false, false, false] rfl rfl (any_of HT_.out (by kernel_rfl)) (fun _ _ _ h => h) (Or.inl ⟨by rfl, ?_⟩) ?_ ?_
                            rotate_left
                            · intro w'
                              go_simp
                              with_reducible rfl
                            rotate_left
                            · simp only [Act.put, List.setIfInBounds_toArray, List.set_cons_zero, List.set_cons_succ, i64_w, i32_w]
                              rfl
                            refine pure_ (i := 12) (N := some 55) (v := ?_) (a' := ?_) #[false, true, true, true, false, true, true, true, false, false, true, true, true, false, false, false] rfl rfl (any_of HT_.out (by kernel_rfl)) (fun _ _ _ h => h) (Or.inl ⟨by rfl, ?_⟩) ?_ ?_
                            rotate_left
                            · intro w'
                              go_simp
                              with_reducible rfl
                            rotate_left
                            · simp only [Act.put, List.setIfInBounds_toArray, List.set_cons_zero, List.set_cons_succ, i64_w, i32_w]
                              rfl
                            refine join_ (σ := Value × Value × Value) 4 #[true, true, true, true, true, true, true, true, true, false, true, true, true, false, false, false] (fun s_ => [(43, s_.1), (47, s_.2.1), (51, s_.2.2)]) (fun s_ w' => (Kd.R k37 37 w' w.heap.size (fun k_ => some k_ ≠ (s_.2.2 : Value).ownBlock) s_.2.1 y192) ∧ (Kd.R k37 37 w' w.heap.size (fun k_ => some k_ ≠ (s_.2.1 : Value).ownBlock) s_.2.2 y195) ∧ (Below w.heap.size w w')) ?_ ?_
                            rotate_left
                            · intro hCont
                              refine two_ (i := 0) (j := 8) (Ni := some 43) (Nj := some 51) #[true, true, true, true, false, true, true, true, false, false, true, true, true, false, false, false] #[false, true, true, true, false, true, true, true, true, false, true, true, true, false, false, false] rfl rfl rfl rfl (two_of HT_.out (by kernel_rfl)) (by decide) (by decide) (fun K hK => ?_) (fun K hK => ?_)
                              · skip
                                refine Kd.R_lit_step k37 _ 37 ?hg (N := 43) ?hd (xs := ([] : List (S37))) (inner := []) (ok := fun _ => True) (okp := fun _ => True) ?hr ?hp (fun _ hk => hk) trivial (Below.refl _ _) (Nat.le_refl _) (by simp) ?_; (case hd => rfl); (case hg => rfl); (case hr => first | (go_simp; done) | (go_simp; rfl)); (case hp => exact (Reps.none _ _))
                                intro v186 w23 ho24 hb hg_ hnew_
                                clear hg_ hnew_
                                (first | rw [← Ny185.out] at ho24 | (simp only [Int.reduceToNat] at ho24; rw [← Ny185.out] at ho24))
                                have n0_ := Aside0.mk (Kd.R_lower ho24 (below_size (by repeat (first | (with_reducible first | exact HB.out | apply below_alloc | apply pw_below_drewN | apply below_drew1) | exact HB.out))))
                                have n1_ := Aside0.mk (below_step (by repeat (first | (with_reducible first | exact HB.out | apply below_alloc | apply pw_below_drewN | apply below_drew1) | exact HB.out)) hb)
                                clear HB
                                have HO187 := n0_
                                have HB := n1_
                                clear n0_ n1_
                                clear hb ho24
                                refine hK.out _ _ trivial (fun hHeld => ?_)
                                clear hK K
                                refine norm_ (a' := ?_) ?_ ?_
                                rotate_left
                                · show Act.put _ (some 43) _ = _
                                  simp only [Act.put, List.setIfInBounds_toArray, List.set_cons_zero, List.set_cons_succ, i64_w, i32_w]
                                  rfl
                                refine two_ (i := 4) (j := 8) (Ni := some 47) (Nj := some 51) #[true, true, true, true, true, true, true, true, false, false, true, true, true, false, false, false] #[true, true, true, true, false, true, true, true, true, false, true, true, true, false, false, false] rfl rfl rfl rfl (two_of HT_.out (by kernel_rfl)) (by decide) (by decide) (fun K hK => ?_) (fun K hK => ?_)
                                · skip
                                  refine Kd.R_append_rows_step k37 (w0 := w) w.heap.size (by rfl) (.tmp 43) (.tmp 46) 22 37 (.agg #[(.string ⟨#[]⟩), (.int .i64 0)]) 24 rfl Try.underlying22 info37 rfl (by decide) (by omega) v186 y185 y188 _ _ _ (fun _ => True) (fun _ => False) rfl rfl ?aO ?aR (fun _ _ h => h) (fun _ h => h.elim) ?aF ?aB ?aS ?aL ?_
                                  (case aR => repeat (first | exact (Kd.C_below HR191.out HB.out) | (with_reducible refine Kd.C_alloc ?_ _) | (with_reducible refine Kd.C_drewN ?_ _) | (with_reducible refine Kd.C_drew ?_)))
                                  (case aB => exact (by repeat (first | (with_reducible first | exact HB.out | apply below_alloc | apply pw_below_drewN | apply below_drew1) | exact HB.out)))
                                  (case aF => exact (fun _ _ => trivial))
                                  (case aO => exact (by (with_reducible repeat (first | apply Kd.R_alloc | apply Kd.R_drewN | apply Kd.R_drew)); exact HO187.out))
                                  (case aS => exact (below_size (by repeat (first | (with_reducible first | exact HB.out | apply below_alloc | apply pw_below_drewN | apply below_drew1) | exact HB.out))))
                                  (case aL => have := LMc15.out; omega)
                                  intro v193 w25 ho hb hg hat
                                  rw [← Ny192.out] at ho
                                  have n0_ := Aside0.mk (hb)
                                  have n1_ := Aside0.mk (ho)
                                  clear HB
                                  clear HO187
                                  have HB := n0_
                                  have HO194 := n1_
                                  clear n0_ n1_
                                  clear ho hb hg hat
                                  refine hK.out _ _ trivial (fun hHeld => ?_)
                                  clear hK K
                                  refine norm_ (a' := ?_) ?_ ?_
                                  rotate_left
                                  · show Act.put _ (some 47) _ = _
                                    simp only [Act.put, List.setIfInBounds_toArray, List.set_cons_zero, List.set_cons_succ, i64_w, i32_w]
                                    rfl
                                  refine one_ (i := 8) (N := some 51) #[true, true, true, true, true, true, true, true, true, false, true, true, true, false, false, false] rfl rfl (one_of HT_.out (by kernel_rfl)) (by decide) (fun K hK => ?_)
                                  refine Kd.R_lit_step k37 _ 37 ?hg (N := 51) ?hd (xs := ([(⟨a1, a2⟩ : S37)] : List (S37))) (inner := [.string a1, .int .i64 a2]) (ok := fun _ => True) (okp := fun _ => True) ?hr ?hp (fun _ hk => hk) trivial (Below.refl _ _) (Nat.le_refl _) (by simp) ?_; (case hd => rfl); (case hg => rfl); (case hr => first | (go_simp; done) | (go_simp; rfl)); (case hp => exact (Reps.c2 (show Kd.M k37 _ _ _ (⟨a1, a2⟩ : S37) [.string a1, .int .i64 a2] from (k37_mkM _ _ _ (⟨a1, a2⟩ : S37) )) (Reps.none _ _)))
                                  intro v196 w26 ho27 hb hg_ hnew_
                                  clear hg_ hnew_
                                  (first | rw [← Ny195.out] at ho27 | (simp only [Int.reduceToNat] at ho27; rw [← Ny195.out] at ho27))
                                  have n0_ := Aside0.mk (Kd.R_elder' (by (with_reducible repeat (first | apply Kd.R_alloc | apply Kd.R_drewN | apply Kd.R_drew)); exact HO194.out) (Kd.R_base ho27) hb)
                                  have n1_ := Aside0.mk (Kd.R_lower (Kd.R_new' ho27 (Kd.R_lt (by (with_reducible repeat (first | apply Kd.R_alloc | apply Kd.R_drewN | apply Kd.R_drew)); exact HO194.out))) (below_size (by repeat (first | (with_reducible first | exact HB.out | apply below_alloc | apply pw_below_drewN | apply below_drew1) | exact HB.out))))
                                  have n2_ := Aside0.mk (below_step (by repeat (first | (with_reducible first | exact HB.out | apply below_alloc | apply pw_below_drewN | apply below_drew1) | exact HB.out)) hb)
                                  clear HO194
                                  clear HB
                                  have HO194 := n0_
                                  have HO197 := n1_
                                  have HB := n2_
                                  clear n0_ n1_ n2_
                                  clear hb ho27
                                  refine hK.out _ _ trivial (fun hHeld => ?_)
                                  clear hK K
                                  refine norm_ (a' := ?_) ?_ ?_
                                  rotate_left
                                  · show Act.put _ (some 51) _ = _
                                    simp only [Act.put, List.setIfInBounds_toArray, List.set_cons_zero, List.set_cons_succ, i64_w, i32_w]
                                    rfl
                                  exact norm_ (by simp only [putAll, Act.put, List.setIfInBounds_toArray, List.set_cons_zero, List.set_cons_succ]) (hCont (v186, v193, v196) _ ⟨(by (with_reducible repeat (first | apply Kd.R_alloc | apply Kd.R_drewN | apply Kd.R_drew)); exact Kd.R_mono HO194.out (fun _ hk => hk.2)), (by (with_reducible repeat (first | apply Kd.R_alloc | apply Kd.R_drewN | apply Kd.R_drew)); exact Kd.R_mono HO197.out (fun _ hk => hk.2)), (by repeat (first | (with_reducible first | exact HB.out | apply below_alloc | apply pw_below_drewN | apply below_drew1) | exact HB.out))⟩)
                                · skip
                                  refine Kd.R_lit_step k37 _ 37 ?hg (N := 51) ?hd (xs := ([(⟨a1, a2⟩ : S37)] : List (S37))) (inner := [.string a1, .int .i64 a2]) (ok := fun _ => True) (okp := fun _ => True) ?hr ?hp (fun _ hk => hk) trivial (Below.refl _ _) (Nat.le_refl _) (by simp) ?_; (case hd => rfl); (case hg => rfl); (case hr => first | (go_simp; done) | (go_simp; rfl)); (case hp => exact (Reps.c2 (show Kd.M k37 _ _ _ (⟨a1, a2⟩ : S37) [.string a1, .int .i64 a2] from (k37_mkM _ _ _ (⟨a1, a2⟩ : S37) )) (Reps.none _ _)))
                                  intro v196 w25 ho26 hb hg_ hnew_
                                  clear hg_ hnew_
                                  (first | rw [← Ny195.out] at ho26 | (simp only [Int.reduceToNat] at ho26; rw [← Ny195.out] at ho26))
                                  have n0_ := Aside0.mk (Kd.R_elder' (by (with_reducible repeat (first | apply Kd.R_alloc | apply Kd.R_drewN | apply Kd.R_drew)); exact HO187.out) (Kd.R_base ho26) hb)
                                  have n1_ := Aside0.mk (Kd.R_lower (Kd.R_new' ho26 (Kd.R_lt (by (with_reducible repeat (first | apply Kd.R_alloc | apply Kd.R_drewN | apply Kd.R_drew)); exact HO187.out))) (below_size (by repeat (first | (with_reducible first | exact HB.out | apply below_alloc | apply pw_below_drewN | apply below_drew1) | exact HB.out))))
                                  have n2_ := Aside0.mk (below_step (by repeat (first | (with_reducible first | exact HB.out | apply below_alloc | apply pw_below_drewN | apply below_drew1) | exact HB.out)) hb)
                                  clear HO187
                                  clear HB
                                  have HO187 := n0_
                                  have HO197 := n1_
                                  have HB := n2_
                                  clear n0_ n1_ n2_
                                  clear hb ho26
                                  refine hK.out _ _ trivial (fun hHeld => ?_)
                                  clear hK K
                                  refine norm_ (a' := ?_) ?_ ?_
                                  rotate_left
                                  · show Act.put _ (some 51) _ = _
                                    simp only [Act.put, List.setIfInBounds_toArray, List.set_cons_zero, List.set_cons_succ, i64_w, i32_w]
                                    rfl
                                  refine one_ (i := 4) (N := some 47) #[true, true, true, true, true, true, true, true, true, false, true, true, true, false, false, false] rfl rfl (one_of HT_.out (by kernel_rfl)) (by decide) (fun K hK => ?_)
                                  refine Kd.R_append_rows_step k37 (w0 := w) w.heap.size (by rfl) (.tmp 43) (.tmp 46) 22 37 (.agg #[(.string ⟨#[]⟩), (.int .i64 0)]) 24 rfl Try.underlying22 info37 rfl (by decide) (by omega) v186 y185 y188 _ _ _ (fun k_ => some k_ ≠ (v196 : Value).ownBlock) (fun _ => False) rfl rfl ?aO ?aR (fun _ _ h => h) (fun _ h => h.elim) ?aF ?aB ?aS ?aL ?_
                                  (case aR => repeat (first | exact (Kd.C_below HR191.out HB.out) | (with_reducible refine Kd.C_alloc ?_ _) | (with_reducible refine Kd.C_drewN ?_ _) | (with_reducible refine Kd.C_drew ?_)))
                                  (case aB => exact (by repeat (first | (with_reducible first | exact HB.out | apply below_alloc | apply pw_below_drewN | apply below_drew1) | exact HB.out)))
                                  (case aF => exact (fun k_ hk => Kd.fresh' (Kd.R_lt (by (with_reducible repeat (first | apply Kd.R_alloc | apply Kd.R_drewN | apply Kd.R_drew)); exact HO197.out)) k_ hk))
                                  (case aO => exact (by (with_reducible repeat (first | apply Kd.R_alloc | apply Kd.R_drewN | apply Kd.R_drew)); exact Kd.R_mono HO187.out (fun _ hk => hk.2)))
                                  (case aS => exact (below_size (by repeat (first | (with_reducible first | exact HB.out | apply below_alloc | apply pw_below_drewN | apply below_drew1) | exact HB.out))))
                                  (case aL => have := LMc15.out; omega)
                                  intro v193 w27 ho hb hg hat
                                  rw [← Ny192.out] at ho
                                  have n0_ := Aside0.mk (Kd.R_after (ok := (fun _ => True)) (by (with_reducible repeat (first | apply Kd.R_alloc | apply Kd.R_drewN | apply Kd.R_drew)); exact HO197.out) hg hat)
                                  have n1_ := Aside0.mk (hb)
                                  have n2_ := Aside0.mk (ho)
                                  clear HO197
                                  clear HB
                                  clear HO187
                                  have HO197 := n0_
                                  have HB := n1_
                                  have HO194 := n2_
                                  clear n0_ n1_ n2_
                                  clear ho hb hg hat
                                  refine hK.out _ _ trivial (fun hHeld => ?_)
                                  clear hK K
                                  refine norm_ (a' := ?_) ?_ ?_
                                  rotate_left
                                  · show Act.put _ (some 47) _ = _
                                    simp only [Act.put, List.setIfInBounds_toArray, List.set_cons_zero, List.set_cons_succ, i64_w, i32_w]
                                    rfl
                                  exact norm_ (by simp only [putAll, Act.put, List.setIfInBounds_toArray, List.set_cons_zero, List.set_cons_succ]) (hCont (v186, v193, v196) _ ⟨(by (with_reducible repeat (first | apply Kd.R_alloc | apply Kd.R_drewN | apply Kd.R_drew)); exact HO194.out), (by (with_reducible repeat (first | apply Kd.R_alloc | apply Kd.R_drewN | apply Kd.R_drew)); exact Kd.R_mono HO197.out (fun _ hk => hk.2)), (by repeat (first | (with_reducible first | exact HB.out | apply below_alloc | apply pw_below_drewN | apply below_drew1) | exact HB.out))⟩)
                              · skip
                                refine Kd.R_lit_step k37 _ 37 ?hg (N := 51) ?hd (xs := ([(⟨a1, a2⟩ : S37)] : List (S37))) (inner := [.string a1, .int .i64 a2]) (ok := fun _ => True) (okp := fun _ => True) ?hr ?hp (fun _ hk => hk) trivial (Below.refl _ _) (Nat.le_refl _) (by simp) ?_; (case hd => rfl); (case hg => rfl); (case hr => first | (go_simp; done) | (go_simp; rfl)); (case hp => exact (Reps.c2 (show Kd.M k37 _ _ _ (⟨a1, a2⟩ : S37) [.string a1, .int .i64 a2] from (k37_mkM _ _ _ (⟨a1, a2⟩ : S37) )) (Reps.none _ _)))
                                intro v196 w23 ho24 hb hg_ hnew_
                                clear hg_ hnew_
                                (first | rw [← Ny195.out] at ho24 | (simp only [Int.reduceToNat] at ho24; rw [← Ny195.out] at ho24))
                                have n0_ := Aside0.mk (Kd.R_lower ho24 (below_size (by repeat (first | (with_reducible first | exact HB.out | apply below_alloc | apply pw_below_drewN | apply below_drew1) | exact HB.out))))
                                have n1_ := Aside0.mk (below_step (by repeat (first | (with_reducible first | exact HB.out | apply below_alloc | apply pw_below_drewN | apply below_drew1) | exact HB.out)) hb)
                                clear HB
                                have HO197 := n0_
                                have HB := n1_
                                clear n0_ n1_
                                clear hb ho24
                                refine hK.out _ _ trivial (fun hHeld => ?_)
                                clear hK K
                                refine norm_ (a' := ?_) ?_ ?_
                                rotate_left
                                · show Act.put _ (some 51) _ = _
                                  simp only [Act.put, List.setIfInBounds_toArray, List.set_cons_zero, List.set_cons_succ, i64_w, i32_w]
                                  rfl
                                refine one_ (i := 0) (N := some 43) #[true, true, true, true, false, true, true, true, true, false, true, true, true, false, false, false] rfl rfl (one_of HT_.out (by kernel_rfl)) (by decide) (fun K hK => ?_)
                                refine Kd.R_lit_step k37 _ 37 ?hg (N := 43) ?hd (xs := ([] : List (S37))) (inner := []) (ok := fun _ => True) (okp := fun _ => True) ?hr ?hp (fun _ hk => hk) trivial (Below.refl _ _) (Nat.le_refl _) (by simp) ?_; (case hd => rfl); (case hg => rfl); (case hr => first | (go_simp; done) | (go_simp; rfl)); (case hp => exact (Reps.none _ _))
                                intro v186 w25 ho26 hb hg_ hnew_
                                clear hg_ hnew_
                                (first | rw [← Ny185.out] at ho26 | (simp only [Int.reduceToNat] at ho26; rw [← Ny185.out] at ho26))
                                have n0_ := Aside0.mk (Kd.R_elder' (by (with_reducible repeat (first | apply Kd.R_alloc | apply Kd.R_drewN | apply Kd.R_drew)); exact HO197.out) (Kd.R_base ho26) hb)
                                have n1_ := Aside0.mk (Kd.R_lower (Kd.R_new' ho26 (Kd.R_lt (by (with_reducible repeat (first | apply Kd.R_alloc | apply Kd.R_drewN | apply Kd.R_drew)); exact HO197.out))) (below_size (by repeat (first | (with_reducible first | exact HB.out | apply below_alloc | apply pw_below_drewN | apply below_drew1) | exact HB.out))))
                                have n2_ := Aside0.mk (below_step (by repeat (first | (with_reducible first | exact HB.out | apply below_alloc | apply pw_below_drewN | apply below_drew1) | exact HB.out)) hb)
                                clear HO197
                                clear HB
                                have HO197 := n0_
                                have HO187 := n1_
                                have HB := n2_
                                clear n0_ n1_ n2_
                                clear hb ho26
                                refine hK.out _ _ trivial (fun hHeld => ?_)
                                clear hK K
                                refine norm_ (a' := ?_) ?_ ?_
                                rotate_left
                                · show Act.put _ (some 43) _ = _
                                  simp only [Act.put, List.setIfInBounds_toArray, List.set_cons_zero, List.set_cons_succ, i64_w, i32_w]
                                  rfl
                                refine one_ (i := 4) (N := some 47) #[true, true, true, true, true, true, true, true, true, false, true, true, true, false, false, false] rfl rfl (one_of HT_.out (by kernel_rfl)) (by decide) (fun K hK => ?_)
                                refine Kd.R_append_rows_step k37 (w0 := w) w.heap.size (by rfl) (.tmp 43) (.tmp 46) 22 37 (.agg #[(.string ⟨#[]⟩), (.int .i64 0)]) 24 rfl Try.underlying22 info37 rfl (by decide) (by omega) v186 y185 y188 _ _ _ (fun k_ => some k_ ≠ (v196 : Value).ownBlock) (fun _ => False) rfl rfl ?aO ?aR (fun _ _ h => h) (fun _ h => h.elim) ?aF ?aB ?aS ?aL ?_
                                (case aR => repeat (first | exact (Kd.C_below HR191.out HB.out) | (with_reducible refine Kd.C_alloc ?_ _) | (with_reducible refine Kd.C_drewN ?_ _) | (with_reducible refine Kd.C_drew ?_)))
                                (case aB => exact (by repeat (first | (with_reducible first | exact HB.out | apply below_alloc | apply pw_below_drewN | apply below_drew1) | exact HB.out)))
                                (case aF => exact (fun k_ hk => Kd.fresh' (Kd.R_lt (by (with_reducible repeat (first | apply Kd.R_alloc | apply Kd.R_drewN | apply Kd.R_drew)); exact HO197.out)) k_ hk))
                                (case aO => exact (by (with_reducible repeat (first | apply Kd.R_alloc | apply Kd.R_drewN | apply Kd.R_drew)); exact Kd.R_mono HO187.out (fun _ hk => hk.2)))
                                (case aS => exact (below_size (by repeat (first | (with_reducible first | exact HB.out | apply below_alloc | apply pw_below_drewN | apply below_drew1) | exact HB.out))))
                                (case aL => have := LMc15.out; omega)
                                intro v193 w27 ho hb hg hat
                                rw [← Ny192.out] at ho
                                have n0_ := Aside0.mk (Kd.R_after (ok := (fun _ => True)) (by (with_reducible repeat (first | apply Kd.R_alloc | apply Kd.R_drewN | apply Kd.R_drew)); exact HO197.out) hg hat)
                                have n1_ := Aside0.mk (hb)
                                have n2_ := Aside0.mk (ho)
                                clear HO197
                                clear HB
                                clear HO187
                                have HO197 := n0_
                                have HB := n1_
                                have HO194 := n2_
                                clear n0_ n1_ n2_
                                clear ho hb hg hat
                                refine hK.out _ _ trivial (fun hHeld => ?_)
                                clear hK K
                                refine norm_ (a' := ?_) ?_ ?_
                                rotate_left
                                · show Act.put _ (some 47) _ = _
                                  simp only [Act.put, List.setIfInBounds_toArray, List.set_cons_zero, List.set_cons_succ, i64_w, i32_w]
                                  rfl
                                exact norm_ (by simp only [putAll, Act.put, List.setIfInBounds_toArray, List.set_cons_zero, List.set_cons_succ]) (hCont (v186, v193, v196) _ ⟨(by (with_reducible repeat (first | apply Kd.R_alloc | apply Kd.R_drewN | apply Kd.R_drew)); exact HO194.out), (by (with_reducible repeat (first | apply Kd.R_alloc | apply Kd.R_drewN | apply Kd.R_drew)); exact Kd.R_mono HO197.out (fun _ hk => hk.2)), (by repeat (first | (with_reducible first | exact HB.out | apply below_alloc | apply pw_below_drewN | apply below_drew1) | exact HB.out))⟩)
                            rintro ⟨v186, v193, v196⟩ w28 ⟨h0_, h1_, h2_⟩
                            have n0_ : Aside0 (Kd.R k37 37 w28 w.heap.size (fun k_ => some k_ ≠ (v196 : Value).ownBlock) v193 y192) := ⟨h0_⟩
                            have n1_ : Aside0 (Kd.R k37 37 w28 w.heap.size (fun k_ => some k_ ≠ (v193 : Value).ownBlock) v196 y195) := ⟨h1_⟩
                            have n2_ : Aside0 (Below w.heap.size w w28) := ⟨h2_⟩
                            clear HB
                            clear h0_ h1_ h2_
                            have HO194 := n0_
                            have HO197 := n1_
                            have HB := n2_
                            clear n0_ n1_ n2_
                            have hHeld := trivial
                            obtain ⟨Ao30, co30, eo30⟩ := Kd.R_slice HO197.out
                            (first | subst eo30 | (injection eo30 with f1_ f2_ f3_; have f4_ := f1_.symm; have f5_ := f3_.symm; clear f1_ f2_ f3_; subst f4_; subst f5_))
                            refine norm_ (a' := ?_) ?_ ?_
                            rotate_left
                            · simp only [putAll, Act.put, List.setIfInBounds_toArray, List.set_cons_zero, List.set_cons_succ]
                              rfl
                            refine one_ (i := 9) (N := some 52) #[true, true, true, true, true, true, true, true, true, true, true, true, true, false, false, false] rfl rfl (one_of HT_.out (by kernel_rfl)) (by decide) (fun K hK => ?_)
                            refine Kd.R_append_rows_step k37 (w0 := w) w.heap.size (by rfl) (.tmp 47) (.tmp 51) 22 37 (.agg #[(.string ⟨#[]⟩), (.int .i64 0)]) 24 rfl Try.underlying22 info37 rfl (by decide) (by omega) v193 y192 y195 _ _ _ (fun k_ => some k_ ≠ (.slice Ao30 y195.length co30 : Value).ownBlock) (fun _ => False) rfl rfl ?aO ?aR (fun _ _ h => h) (fun _ h => h.elim) ?aF ?aB ?aS ?aL ?_
                            (case aR => repeat (first | exact (Kd.R_reads' HO197.out).2.2 | (with_reducible refine Kd.C_alloc ?_ _) | (with_reducible refine Kd.C_drewN ?_ _) | (with_reducible refine Kd.C_drew ?_)))
                            (case aB => exact (by repeat (first | (with_reducible first | exact HB.out | apply below_alloc | apply pw_below_drewN | apply below_drew1) | exact HB.out)))
                            (case aF => exact (fun k_ hk => Kd.fresh' (Kd.R_lt (by (with_reducible repeat (first | apply Kd.R_alloc | apply Kd.R_drewN | apply Kd.R_drew)); exact HO197.out)) k_ hk))
                            (case aO => exact (by (with_reducible repeat (first | apply Kd.R_alloc | apply Kd.R_drewN | apply Kd.R_drew)); exact HO194.out))
                            (case aS => exact (below_size (by repeat (first | (with_reducible first | exact HB.out | apply below_alloc | apply pw_below_drewN | apply below_drew1) | exact HB.out))))
                            (case aL => have := LMc16.out; omega)
                            intro v199 w29 ho hb hg hat
                            rw [← Ny198.out] at ho
                            have n0_ := Aside0.mk (Kd.R_after (ok := (fun _ => True)) (by (with_reducible repeat (first | apply Kd.R_alloc | apply Kd.R_drewN | apply Kd.R_drew)); exact Kd.R_mono HO197.out (fun _ hk => ⟨trivial, hk⟩)) hg hat)
                            have n1_ := Aside0.mk (hb)
                            have n2_ := Aside0.mk (ho)
                            clear HO197
                            clear HB
                            clear HO194
                            have HO197 := n0_
                            have HB := n1_
                            have HO200 := n2_
                            clear n0_ n1_ n2_
                            clear ho hb hg hat
                            refine hK.out _ _ trivial (fun hHeld => ?_)
                            clear hK K
                            refine norm_ (a' := ?_) ?_ ?_
                            rotate_left
                            · show Act.put _ (some 52) _ = _
                              simp only [Act.put, List.setIfInBounds_toArray, List.set_cons_zero, List.set_cons_succ, i64_w, i32_w]
                              rfl
                            refine one_ (i := 13) (N := some 56) #[true, true, true, true, true, true, true, true, true, true, true, true, true, true, false, false] rfl rfl (one_of HT_.out (by kernel_rfl)) (by decide) (fun K hK => ?_)
                            refine Kd.R_append_rows_step k37 (w0 := w) w.heap.size (by rfl) (.tmp 52) (.tmp 55) 22 37 (.agg #[(.string ⟨#[]⟩), (.int .i64 0)]) 24 rfl Try.underlying22 info37 rfl (by decide) (by omega) v199 y198 y201 _ _ _ (fun k_ => some k_ ≠ (.slice Ao30 y195.length co30 : Value).ownBlock) (fun _ => False) rfl rfl ?aO ?aR (fun _ _ h => h) (fun _ h => h.elim) ?aF ?aB ?aS ?aL ?_
                            (case aR => repeat (first | exact (Kd.C_below HR204.out HB.out) | (with_reducible refine Kd.C_alloc ?_ _) | (with_reducible refine Kd.C_drewN ?_ _) | (with_reducible refine Kd.C_drew ?_)))
                            (case aB => exact (by repeat (first | (with_reducible first | exact HB.out | apply below_alloc | apply pw_below_drewN | apply below_drew1) | exact HB.out)))
                            (case aF => exact (fun k_ hk => Kd.fresh' (Kd.R_lt (by (with_reducible repeat (first | apply Kd.R_alloc | apply Kd.R_drewN | apply Kd.R_drew)); exact HO197.out)) k_ hk))
                            (case aO => exact (by (with_reducible repeat (first | apply Kd.R_alloc | apply Kd.R_drewN | apply Kd.R_drew)); exact HO200.out))
                            (case aS => exact (below_size (by repeat (first | (with_reducible first | exact HB.out | apply below_alloc | apply pw_below_drewN | apply below_drew1) | exact HB.out))))
                            (case aL => have := LMc19.out; omega)
                            intro v206 w31 ho hb hg hat
                            rw [← Ny205.out] at ho
                            have n0_ := Aside0.mk (Kd.R_after (ok := (fun _ => True)) (by (with_reducible repeat (first | apply Kd.R_alloc | apply Kd.R_drewN | apply Kd.R_drew)); exact HO197.out) hg hat)
                            have n1_ := Aside0.mk (hb)
                            have n2_ := Aside0.mk (ho)
                            clear HO197
                            clear HB
                            clear HO200
                            have HO197 := n0_
                            have HB := n1_
                            have HO207 := n2_
                            clear n0_ n1_ n2_
                            clear ho hb hg hat
                            refine hK.out _ _ trivial (fun hHeld => ?_)
                            clear hK K
                            refine norm_ (a' := ?_) ?_ ?_
                            rotate_left
                            · show Act.put _ (some 56) _ = _
                              simp only [Act.put, List.setIfInBounds_toArray, List.set_cons_zero, List.set_cons_succ, i64_w, i32_w]
                              rfl
                            refine pure_ (i := 14) (N := some 6) (v := ?_) (a' := ?_) #[true, true, true, true, true, true, true, true, true, true, true, true, true, true, true, false] rfl rfl (any_of HT_.out (by kernel_rfl)) (fun _ _ _ h => h) (Or.inl ⟨by rfl, ?_⟩) ?_ ?_
                            rotate_left
                            · intro w'
                              go_simp
                              with_reducible rfl
                            rotate_left
                            · simp only [Act.put, List.setIfInBounds_toArray, List.set_cons_zero, List.set_cons_succ, i64_w, i32_w]
                              rfl
                            refine pure_ (i := 15) (N := some 7) (v := ?_) (a' := ?_) #[true, true, true, true, true, true, true, true, true, true, true, true, true, true, true, true] rfl rfl (any_of HT_.out (by kernel_rfl)) (fun _ _ _ h => h) (Or.inl ⟨by rfl, ?_⟩) ?_ ?_
                            rotate_left
                            · intro w'
                              go_simp
                              with_reducible rfl
                            rotate_left
                            · simp only [Act.put, List.setIfInBounds_toArray, List.set_cons_zero, List.set_cons_succ, i64_w, i32_w]
                              rfl
                            refine done_ (done_of HT_.out (by kernel_rfl)) ?_
                            try go_wp2
                            go_ret2
                            exact ⟨_, by first | rfl | (simp [errW_none, errW_some] <;> rfl) | (simp [*, errW_none, errW_some] <;> rfl), by (with_reducible repeat (first | apply Kd.R_alloc | apply Kd.R_drewN | apply Kd.R_drew)); exact Kd.R_mono HO207.out (fun _ hk => trivial), by repeat (first | (with_reducible first | exact HB.out | apply below_alloc | apply pw_below_drewN | apply below_drew1) | exact HB.out)⟩
                          · rw [if_neg c19] at H
                            exact absurd H (by simp)
                        · rw [if_neg c16] at H
                          exact absurd H (by simp)
                      · rw [if_neg c15] at H
                        exact absurd H (by simp)
                    · rw [if_neg c14] at H
                      exact absurd H (by simp)
                  · rw [if_neg c12] at H
                    have c12b0 : (Op.bytesLess a1.toList (((rd_T37 l0 x10_1).f0).toList)) = false := by simpa using c12
                    clear c12
                    have H' := Aside0.mk H
                    clear H
                    have p184 : 0 ≤ (x10_1 : Int) := of_decide_eq_true (by first | (with_reducible assumption) | assumption)
                    have q184 : x10_1 < (l0.length : Int) := of_decide_eq_true (by first | (with_reducible assumption) | assumption)
                    obtain ⟨ad184, e184, hx184_0, hx184_1⟩ := at_T37 HR0.out x10_1 p184 q184
                    cases e184
                    replace hx184_0 := (HB.out.cell (World.block_lt_of_cell? w _ hx184_0)).trans hx184_0
                    replace hx184_1 := (HB.out.cell (World.block_lt_of_cell? w _ hx184_1)).trans hx184_1
                    replace p184 := eq_true p184
                    replace q184 := eq_true q184
                    go_wp2
                    go_roundg k1
                    case measure => have := HK1.out; omega
                    case rel => exact ⟨(wrap64 (x10_1 + 1)), (by first | rfl | (simp; done) | (simp [*]; done)), H', ⟨by have := HK1.out; omega⟩, ⟨by repeat (first | (with_reducible first | exact HB.out | apply below_alloc | apply pw_below_drewN | apply below_drew1) | exact HB.out)⟩⟩
                · rw [if_neg c11] at H
                  exact absurd H (by simp)
              · rw [if_neg c10] at H
                have c10b0 : decide (x10_1 < (l0.length : Int)) = false := decide_eq_false c10
                clear c10
                obtain ⟨y208, hy208⟩ : ∃ y_ : List (S37), y_ = (([] : List (S37))) := ⟨_, rfl⟩
                replace H : (if 0 ≤ x10_1 then (if x10_1 ≤ (l0.length : Int) then ((some (l0.take (x10_1 : Int).toNat : List (S37))).bind fun y211 => (if y208.length + y211.length < 5864062014805 then ((some (y208 ++ y211 : List (S37))).bind fun y215 => ((some (([(⟨a1, a2⟩ : S37)] : List (S37)) : List (S37))).bind fun y218 => (if y215.length + y218.length < 5864062014805 then ((some (y215 ++ y218 : List (S37))).bind fun y221 => ((some (l0.drop (x10_1 : Int).toNat : List (S37))).bind fun y224 => (if y221.length + y224.length < 5864062014805 then (some ((y221 ++ y224), 0)) else (none)))) else (none)))) else (none))) else (none)) else (none)) = some (r1, r2) := by first | (rw [hy208]; with_reducible exact H) | (have H2_ := (Option.bind_some _ _).symm.trans H; rw [hy208]; with_reducible exact H2_) | (have H2_ := (Option.bind_some _ _).symm.trans H; with_reducible exact H2_) | with_reducible exact H | (rw [hy208]; exact H) | exact H
                have Ny208 := Aside0.mk hy208
                clear hy208
                by_cases c32 : 0 ≤ x10_1
                · rw [if_pos c32] at H
                  have c32b0 := eq_true c32
                  have c32b1 : decide (0 ≤ x10_1) = true := decide_eq_true c32
                  clear c32
                  by_cases c33 : x10_1 ≤ (l0.length : Int)
                  · rw [if_pos c33] at H
                    have c33b0 := eq_true c33
                    have c33b1 : decide (x10_1 ≤ (l0.length : Int)) = true := decide_eq_true c33
                    clear c33
                    obtain ⟨y211, hy211⟩ : ∃ y_ : List (S37), y_ = (l0.take (x10_1 : Int).toNat) := ⟨_, rfl⟩
                    replace H : (if y208.length + y211.length < 5864062014805 then ((some (y208 ++ y211 : List (S37))).bind fun y215 => ((some (([(⟨a1, a2⟩ : S37)] : List (S37)) : List (S37))).bind fun y218 => (if y215.length + y218.length < 5864062014805 then ((some (y215 ++ y218 : List (S37))).bind fun y221 => ((some (l0.drop (x10_1 : Int).toNat : List (S37))).bind fun y224 => (if y221.length + y224.length < 5864062014805 then (some ((y221 ++ y224), 0)) else (none)))) else (none)))) else (none)) = some (r1, r2) := by first | (rw [hy211]; with_reducible exact H) | (have H2_ := (Option.bind_some _ _).symm.trans H; rw [hy211]; with_reducible exact H2_) | (have H2_ := (Option.bind_some _ _).symm.trans H; with_reducible exact H2_) | with_reducible exact H | (rw [hy211]; exact H) | exact H
                    have Ny211 := Aside0.mk hy211
                    clear hy211
                    by_cases c34 : y208.length + y211.length < 5864062014805
                    · rw [if_pos c34] at H
                      have LMc34 := Aside0.mk c34
                      clear c34
                      obtain ⟨y215, hy215⟩ : ∃ y_ : List (S37), y_ = (y208 ++ y211) := ⟨_, rfl⟩
                      replace H : ((some (([(⟨a1, a2⟩ : S37)] : List (S37)) : List (S37))).bind fun y218 => (if y215.length + y218.length < 5864062014805 then ((some (y215 ++ y218 : List (S37))).bind fun y221 => ((some (l0.drop (x10_1 : Int).toNat : List (S37))).bind fun y224 => (if y221.length + y224.length < 5864062014805 then (some ((y221 ++ y224), 0)) else (none)))) else (none))) = some (r1, r2) := by first | (rw [hy215]; with_reducible exact H) | (have H2_ := (Option.bind_some _ _).symm.trans H; rw [hy215]; with_reducible exact H2_) | (have H2_ := (Option.bind_some _ _).symm.trans H; with_reducible exact H2_) | with_reducible exact H | (rw [hy215]; exact H) | exact H
                      have Ny215 := Aside0.mk hy215
                      clear hy215
                      obtain ⟨y218, hy218⟩ : ∃ y_ : List (S37), y_ = (([(⟨a1, a2⟩ : S37)] : List (S37))) := ⟨_, rfl⟩
                      replace H : (if y215.length + y218.length < 5864062014805 then ((some (y215 ++ y218 : List (S37))).bind fun y221 => ((some (l0.drop (x10_1 : Int).toNat : List (S37))).bind fun y224 => (if y221.length + y224.length < 5864062014805 then (some ((y221 ++ y224), 0)) else (none)))) else (none)) = some (r1, r2) := by first | (rw [hy218]; with_reducible exact H) | (have H2_ := (Option.bind_some _ _).symm.trans H; rw [hy218]; with_reducible exact H2_) | (have H2_ := (Option.bind_some _ _).symm.trans H; with_reducible exact H2_) | with_reducible exact H | (rw [hy218]; exact H) | exact H
                      have Ny218 := Aside0.mk hy218
                      clear hy218
                      by_cases c35 : y215.length + y218.length < 5864062014805
                      · rw [if_pos c35] at H
                        have LMc35 := Aside0.mk c35
                        clear c35
                        obtain ⟨y221, hy221⟩ : ∃ y_ : List (S37), y_ = (y215 ++ y218) := ⟨_, rfl⟩
                        replace H : ((some (l0.drop (x10_1 : Int).toNat : List (S37))).bind fun y224 => (if y221.length + y224.length < 5864062014805 then (some ((y221 ++ y224), 0)) else (none))) = some (r1, r2) := by first | (rw [hy221]; with_reducible exact H) | (have H2_ := (Option.bind_some _ _).symm.trans H; rw [hy221]; with_reducible exact H2_) | (have H2_ := (Option.bind_some _ _).symm.trans H; with_reducible exact H2_) | with_reducible exact H | (rw [hy221]; exact H) | exact H
                        have Ny221 := Aside0.mk hy221
                        clear hy221
                        have c36b0 := eq_true (of_decide_eq_true (by first | (with_reducible assumption) | assumption) : 0 ≤ x10_1)
                        have c37b0 := eq_true (of_decide_eq_true (by first | (with_reducible assumption) | assumption) : x10_1 ≤ (l0.length : Int))
                        obtain ⟨y224, hy224⟩ : ∃ y_ : List (S37), y_ = (l0.drop (x10_1 : Int).toNat) := ⟨_, rfl⟩
                        replace H : (if y221.length + y224.length < 5864062014805 then (some ((y221 ++ y224), 0)) else (none)) = some (r1, r2) := by first | (rw [hy224]; with_reducible exact H) | (have H2_ := (Option.bind_some _ _).symm.trans H; rw [hy224]; with_reducible exact H2_) | (have H2_ := (Option.bind_some _ _).symm.trans H; with_reducible exact H2_) | with_reducible exact H | (rw [hy224]; exact H) | exact H
                        have Ny224 := Aside0.mk hy224
                        clear hy224
                        by_cases c38 : y221.length + y224.length < 5864062014805
                        · rw [if_pos c38] at H
                          have LMc38 := Aside0.mk c38
                          clear c38
                          obtain ⟨y228, hy228⟩ : ∃ y_ : List (S37), y_ = (y221 ++ y224) := ⟨_, rfl⟩
                          replace H : (some (y228, 0)) = some (r1, r2) := by first | (rw [hy228]; with_reducible exact H) | (have H2_ := (Option.bind_some _ _).symm.trans H; rw [hy228]; with_reducible exact H2_) | (have H2_ := (Option.bind_some _ _).symm.trans H; with_reducible exact H2_) | with_reducible exact H | (rw [hy228]; exact H) | exact H
                          have Ny228 := Aside0.mk hy228
                          clear hy228
                          simp only [Option.some.injEq, Prod.mk.injEq] at H
                          obtain ⟨rfl, rfl⟩ := H
                          try go_wp2
                          have n0_ := Aside0.mk (below_drew1 HB.out)
                          clear HB
                          have HB := n0_
                          clear n0_
                          have q40 : (x10_1 : Int) ≤ ((l0.length : Int) : Int) := of_decide_eq_true (by first | (with_reducible assumption) | assumption)
                          obtain ⟨i040, hi040, _, hsz40, _⟩ := info_parts info37
                          have hroom40 : l0.length ≤ c0 := HC0.out
                          have hC40 : Kd.C k37 _ A0 l0.length l0 := HR0.out
                          have hcut40 := cut_to (P := Try.prog) 22 37 .i64 Try.underlying22 hi040 A0 l0.length c0 x10_1 (of_decide_eq_true (by first | (with_reducible assumption) | assumption)) q40 hroom40
                          have hr40 := Kd.C_take (m := (x10_1 : Int).toNat) hC40 (by omega)
                          have hy40 : y211.length = (x10_1 : Int).toNat := (by rw [Ny211.out, List.length_take]; omega)
                          rw [← Ny211.out] at hr40
                          rw [← hy40] at hcut40
                          have HR214 := Aside0.mk hr40
                          have HC214 := Aside0.mk (show y211.length ≤ c0 from by omega)
                          clear hr40 hC40 hroom40 hi040 hsz40
                          have KY40 := Aside0.mk hy40
                          clear hy40
                          replace q40 := eq_true q40
                          have q41 : (x10_1 : Int) ≤ ((l0.length : Int) : Int) := of_decide_eq_true (by first | (with_reducible assumption) | assumption)
                          obtain ⟨i041, hi041, _, hsz41, _⟩ := info_parts info37
                          have hroom41 : l0.length ≤ c0 := HC0.out
                          have hC41 : Kd.C k37 _ A0 l0.length l0 := HR0.out
                          have q041 : (0 : Int) ≤ (x10_1 : Int) := of_decide_eq_true (by first | (with_reducible assumption) | assumption)
                          have hcut41 := cut_from (P := Try.prog) 22 37 .i64 Try.underlying22 hi041 2 hsz41 A0 l0.length c0 x10_1 q041 q41
                          have hr41 := Kd.C_drop (m := (x10_1 : Int).toNat) (c := c0) hC41 (by omega) hroom41
                          obtain ⟨A41, hA41⟩ : ∃ A1, A1 = (if c0 = (x10_1 : Int).toNat then A0 else (A0 : Option Addr).map (·.add ((x10_1 : Int).toNat * 2))) := ⟨_, rfl⟩
                          obtain ⟨c41, hc41⟩ : ∃ c1, c1 = c0 - (x10_1 : Int).toNat := ⟨_, rfl⟩
                          have hy41 : y224.length = l0.length - (x10_1 : Int).toNat := (by rw [Ny224.out, List.length_drop] <;> omega)
                          rw [show (l0).drop (x10_1 : Int).toNat = y224 from Ny224.out.symm] at hr41
                          replace hr41 : Kd.C k37 _ A41 y224.length y224 := (by rw [hA41]; exact hr41)
                          rw [← hy41, ← hA41, ← hc41] at hcut41
                          have HR227 := Aside0.mk hr41
                          have HC227 := Aside0.mk (show y224.length ≤ c41 from by rw [hy41, hc41]; exact Nat.sub_le_sub_right hroom41 _)
                          clear hr41 hC41 hroom41 hi041 hsz41 hc41
                          have KY41 := Aside0.mk hy41
                          have KA41 := Aside0.mk hA41
                          clear hy41 hA41
                          replace q41 := eq_true q41
                          refine start_ (n := 16) (S := fun w' => True) (ds := []) #[false, false, false, false, false, false, false, false, false, false, false, false, false, false, false, false] (by kernel_rfl) rfl rfl trivial (fun hHeld => ?_); refine with_tabW sutlerref07_Add.tab13 sutlerref07_Add.bits13 (fun HT_ HW_ => ?_)
                          generalize wr.drew = w39 at HB HR214 HR227 hHeld ⊢
                          refine pure_ (i := 1) (N := some 44) (v := ?_) (a' := ?_) #[false, true, false, false, false, false, false, false, false, false, false, false, false, false, false, false] rfl rfl (any_of HT_.out (by kernel_rfl)) (fun _ _ _ h => h) (Or.inl ⟨by rfl, ?_⟩) ?_ ?_
                          rotate_left
                          · intro w'
                            go_simp
                            with_reducible rfl
                          rotate_left
                          · simp only [Act.put, List.setIfInBounds_toArray, List.set_cons_zero, List.set_cons_succ, i64_w, i32_w]
                            rfl
                          refine pure_ (i := 2) (N := some 45) (v := ?_) (a' := ?_) #[false, true, true, false, false, false, false, false, false, false, false, false, false, false, false, false] rfl rfl (any_of HT_.out (by kernel_rfl)) (fun _ _ _ h => h) (Or.inl ⟨by rfl, ?_⟩) ?_ ?_
                          rotate_left
                          · intro w'
                            go_simp
                            with_reducible rfl
                          rotate_left
                          · simp only [Act.put, List.setIfInBounds_toArray, List.set_cons_zero, List.set_cons_succ, i64_w, i32_w]
                            rfl
                          refine pure_ (i := 3) (N := some 46) (v := ?_) (a' := ?_) #[false, true, true, true, false, false, false, false, false, false, false, false, false, false, false, false] rfl rfl (any_of HT_.out (by kernel_rfl)) (fun _ _ _ h => h) (Or.inl ⟨by rfl, ?_⟩) ?_ ?_
                          rotate_left
                          · intro w'
                            go_simp
                            with_reducible rfl
                          rotate_left
                          · simp only [Act.put, List.setIfInBounds_toArray, List.set_cons_zero, List.set_cons_succ, i64_w, i32_w]
                            rfl
                          refine pure_ (i := 5) (N := some 48) (v := ?_) (a' := ?_) #[false, true, true, true, false, true, false, false, false, false, false, false, false, false, false, false] rfl rfl (any_of HT_.out (by kernel_rfl)) (fun _ _ _ h => h) (Or.inl ⟨by rfl, ?_⟩) ?_ ?_
                          rotate_left
                          · intro w'
                            go_simp
                            with_reducible rfl
                          rotate_left
                          · simp only [Act.put, List.setIfInBounds_toArray, List.set_cons_zero, List.set_cons_succ, i64_w, i32_w]
                            rfl
                          refine pure_ (i := 6) (N := some 49) (v := ?_) (a' := ?_) #[false, true, true, true, false, true, true, false, false, false, false, false, false, false, false, false] rfl rfl (any_of HT_.out (by kernel_rfl)) (fun _ _ _ h => h) (Or.inl ⟨by rfl, ?_⟩) ?_ ?_
                          rotate_left
                          · intro w'
                            go_simp
                            with_reducible rfl
                          rotate_left
                          · simp only [Act.put, List.setIfInBounds_toArray, List.set_cons_zero, List.set_cons_succ, i64_w, i32_w]
                            rfl
                          refine pure_ (i := 7) (N := some 50) (v := ?_) (a' := ?_) #[false, true, true, true, false, true, true, true, false, false, false, false, false, false, false, false] rfl rfl (any_of HT_.out (by kernel_rfl)) (fun _ _ _ h => h) (Or.inl ⟨by rfl, ?_⟩) ?_ ?_
                          rotate_left
                          · intro w'
                            go_simp
                            with_reducible rfl
                          rotate_left
                          · simp only [Act.put, List.setIfInBounds_toArray, List.set_cons_zero, List.set_cons_succ, i64_w, i32_w]
                            rfl
                          refine pure_ (i := 10) (N := some 53) (v := ?_) (a' := ?_) #[false, true, true, true, false, true, true, true, false, false, true, false, false, false, false, false] rfl rfl (any_of HT_.out (by kernel_rfl)) (fun _ _ _ h => h) (Or.inl ⟨by rfl, ?_⟩) ?_ ?_
                          rotate_left
                          · intro w'
                            go_simp
                            with_reducible rfl
                          rotate_left
                          · simp only [Act.put, List.setIfInBounds_toArray, List.set_cons_zero, List.set_cons_succ, i64_w, i32_w]
                            rfl
                          refine pure_ (i := 11) (N := some 54) (v := ?_) (a' := ?_) #[false, true, true, true, false, true, true, true, false, false, true, true, false, false, false, false] rfl rfl (any_of HT_.out (by kernel_rfl)) (fun _ _ _ h => h) (Or.inl ⟨by rfl, ?_⟩) ?_ ?_
                          rotate_left
                          · intro w'
                            go_simp
                            with_reducible rfl
                          rotate_left
                          · simp only [Act.put, List.setIfInBounds_toArray, List.set_cons_zero, List.set_cons_succ, i64_w, i32_w]
                            rfl
                          refine pure_ (i := 12) (N := some 55) (v := ?_) (a' := ?_) #[false, true, true, true, false, true, true, true, false, false, true, true, true, false, false, false] rfl rfl (any_of HT_.out (by kernel_rfl)) (fun _ _ _ h => h) (Or.inl ⟨by rfl, ?_⟩) ?_ ?_
                          rotate_left
                          · intro w'
                            go_simp
                            with_reducible rfl
                          rotate_left
                          · simp only [Act.put, List.setIfInBounds_toArray, List.set_cons_zero, List.set_cons_succ, i64_w, i32_w]
                            rfl
                          refine join_ (σ := Value × Value × Value) 4 #[true, true, true, true, true, true, true, true, true, false, true, true, true, false, false, false] (fun s_ => [(43, s_.1), (47, s_.2.1), (51, s_.2.2)]) (fun s_ w' => (Kd.R k37 37 w' w.heap.size (fun k_ => some k_ ≠ (s_.2.2 : Value).ownBlock) s_.2.1 y215) ∧ (Kd.R k37 37 w' w.heap.size (fun k_ => some k_ ≠ (s_.2.1 : Value).ownBlock) s_.2.2 y218) ∧ (Below w.heap.size w w')) ?_ ?_
                          rotate_left
                          · intro hCont
                            refine two_ (i := 0) (j := 8) (Ni := some 43) (Nj := some 51) #[true, true, true, true, false, true, true, true, false, false, true, true, true, false, false, false] #[false, true, true, true, false, true, true, true, true, false, true, true, true, false, false, false] rfl rfl rfl rfl (two_of HT_.out (by kernel_rfl)) (by decide) (by decide) (fun K hK => ?_) (fun K hK => ?_)
                            · skip
                              refine Kd.R_lit_step k37 _ 37 ?hg (N := 43) ?hd (xs := ([] : List (S37))) (inner := []) (ok := fun _ => True) (okp := fun _ => True) ?hr ?hp (fun _ hk => hk) trivial (Below.refl _ _) (Nat.le_refl _) (by simp) ?_; (case hd => rfl); (case hg => rfl); (case hr => first | (go_simp; done) | (go_simp; rfl)); (case hp => exact (Reps.none _ _))
                              intro v209 w42 ho43 hb hg_ hnew_
                              clear hg_ hnew_
                              (first | rw [← Ny208.out] at ho43 | (simp only [Int.reduceToNat] at ho43; rw [← Ny208.out] at ho43))
                              have n0_ := Aside0.mk (Kd.R_lower ho43 (below_size (by repeat (first | (with_reducible first | exact HB.out | apply below_alloc | apply pw_below_drewN | apply below_drew1) | exact HB.out))))
                              have n1_ := Aside0.mk (below_step (by repeat (first | (with_reducible first | exact HB.out | apply below_alloc | apply pw_below_drewN | apply below_drew1) | exact HB.out)) hb)
                              clear HB
                              have HO210 := n0_
                              have HB := n1_
                              clear n0_ n1_
                              clear hb ho43
                              refine hK.out _ _ trivial (fun hHeld => ?_)
                              clear hK K
                              refine norm_ (a' := ?_) ?_ ?_
                              rotate_left
                              · show Act.put _ (some 43) _ = _
                                simp only [Act.put, List.setIfInBounds_toArray, List.set_cons_zero, List.set_cons_succ, i64_w, i32_w]
                                rfl
                              refine two_ (i := 4) (j := 8) (Ni := some 47) (Nj := some 51) #[true, true, true, true, true, true, true, true, false, false, true, true, true, false, false, false] #[true, true, true, true, false, true, true, true, true, false, true, true, true, false, false, false] rfl rfl rfl rfl (two_of HT_.out (by kernel_rfl)) (by decide) (by decide) (fun K hK => ?_) (fun K hK => ?_)
                              · skip
                                refine Kd.R_append_rows_step k37 (w0 := w) w.heap.size (by rfl) (.tmp 43) (.tmp 46) 22 37 (.agg #[(.string ⟨#[]⟩), (.int .i64 0)]) 24 rfl Try.underlying22 info37 rfl (by decide) (by omega) v209 y208 y211 _ _ _ (fun _ => True) (fun _ => False) rfl rfl ?aO ?aR (fun _ _ h => h) (fun _ h => h.elim) ?aF ?aB ?aS ?aL ?_
                                (case aR => repeat (first | exact (Kd.C_below HR214.out HB.out) | (with_reducible refine Kd.C_alloc ?_ _) | (with_reducible refine Kd.C_drewN ?_ _) | (with_reducible refine Kd.C_drew ?_)))
                                (case aB => exact (by repeat (first | (with_reducible first | exact HB.out | apply below_alloc | apply pw_below_drewN | apply below_drew1) | exact HB.out)))
                                (case aF => exact (fun _ _ => trivial))
                                (case aO => exact (by (with_reducible repeat (first | apply Kd.R_alloc | apply Kd.R_drewN | apply Kd.R_drew)); exact HO210.out))
                                (case aS => exact (below_size (by repeat (first | (with_reducible first | exact HB.out | apply below_alloc | apply pw_below_drewN | apply below_drew1) | exact HB.out))))
                                (case aL => have := LMc34.out; omega)
                                intro v216 w44 ho hb hg hat
                                rw [← Ny215.out] at ho
                                have n0_ := Aside0.mk (hb)
                                have n1_ := Aside0.mk (ho)
                                clear HB
                                clear HO210
                                have HB := n0_
                                have HO217 := n1_
                                clear n0_ n1_
                                clear ho hb hg hat
                                refine hK.out _ _ trivial (fun hHeld => ?_)
                                clear hK K
                                refine norm_ (a' := ?_) ?_ ?_
                                rotate_left
                                · show Act.put _ (some 47) _ = _
                                  simp only [Act.put, List.setIfInBounds_toArray, List.set_cons_zero, List.set_cons_succ, i64_w, i32_w]
                                  rfl
                                refine one_ (i := 8) (N := some 51) #[true, true, true, true, true, true, true, true, true, false, true, true, true, false, false, false] rfl rfl (one_of HT_.out (by kernel_rfl)) (by decide) (fun K hK => ?_)
                                refine Kd.R_lit_step k37 _ 37 ?hg (N := 51) ?hd (xs := ([(⟨a1, a2⟩ : S37)] : List (S37))) (inner := [.string a1, .int .i64 a2]) (ok := fun _ => True) (okp := fun _ => True) ?hr ?hp (fun _ hk => hk) trivial (Below.refl _ _) (Nat.le_refl _) (by simp) ?_; (case hd => rfl); (case hg => rfl); (case hr => first | (go_simp; done) | (go_simp; rfl)); (case hp => exact (Reps.c2 (show Kd.M k37 _ _ _ (⟨a1, a2⟩ : S37) [.string a1, .int .i64 a2] from (k37_mkM _ _ _ (⟨a1, a2⟩ : S37) )) (Reps.none _ _)))
                                intro v219 w45 ho46 hb hg_ hnew_
                                clear hg_ hnew_
                                (first | rw [← Ny218.out] at ho46 | (simp only [Int.reduceToNat] at ho46; rw [← Ny218.out] at ho46))
                                have n0_ := Aside0.mk (Kd.R_elder' (by (with_reducible repeat (first | apply Kd.R_alloc | apply Kd.R_drewN | apply Kd.R_drew)); exact HO217.out) (Kd.R_base ho46) hb)
                                have n1_ := Aside0.mk (Kd.R_lower (Kd.R_new' ho46 (Kd.R_lt (by (with_reducible repeat (first | apply Kd.R_alloc | apply Kd.R_drewN | apply Kd.R_drew)); exact HO217.out))) (below_size (by repeat (first | (with_reducible first | exact HB.out | apply below_alloc | apply pw_below_drewN | apply below_drew1) | exact HB.out))))
                                have n2_ := Aside0.mk (below_step (by repeat (first | (with_reducible first | exact HB.out | apply below_alloc | apply pw_below_drewN | apply below_drew1) | exact HB.out)) hb)
                                clear HO217
                                clear HB
                                have HO217 := n0_
                                have HO220 := n1_
                                have HB := n2_
                                clear n0_ n1_ n2_
                                clear hb ho46
                                refine hK.out _ _ trivial (fun hHeld => ?_)
                                clear hK K
                                refine norm_ (a' := ?_) ?_ ?_
                                rotate_left
                                · show Act.put _ (some 51) _ = _
                                  simp only [Act.put, List.setIfInBounds_toArray, List.set_cons_zero, List.set_cons_succ, i64_w, i32_w]
                                  rfl
                                exact norm_ (by simp only [putAll, Act.put, List.setIfInBounds_toArray, List.set_cons_zero, List.set_cons_succ]) (hCont (v209, v216, v219) _ ⟨(by (with_reducible repeat (first | apply Kd.R_alloc | apply Kd.R_drewN | apply Kd.R_drew)); exact Kd.R_mono HO217.out (fun _ hk => hk.2)), (by (with_reducible repeat (first | apply Kd.R_alloc | apply Kd.R_drewN | apply Kd.R_drew)); exact Kd.R_mono HO220.out (fun _ hk => hk.2)), (by repeat (first | (with_reducible first | exact HB.out | apply below_alloc | apply pw_below_drewN | apply below_drew1) | exact HB.out))⟩)
                              · skip
                                refine Kd.R_lit_step k37 _ 37 ?hg (N := 51) ?hd (xs := ([(⟨a1, a2⟩ : S37)] : List (S37))) (inner := [.string a1, .int .i64 a2]) (ok := fun _ => True) (okp := fun _ => True) ?hr ?hp (fun _ hk => hk) trivial (Below.refl _ _) (Nat.le_refl _) (by simp) ?_; (case hd => rfl); (case hg => rfl); (case hr => first | (go_simp; done) | (go_simp; rfl)); (case hp => exact (Reps.c2 (show Kd.M k37 _ _ _ (⟨a1, a2⟩ : S37) [.string a1, .int .i64 a2] from (k37_mkM _ _ _ (⟨a1, a2⟩ : S37) )) (Reps.none _ _)))
                                intro v219 w44 ho45 hb hg_ hnew_
                                clear hg_ hnew_
                                (first | rw [← Ny218.out] at ho45 | (simp only [Int.reduceToNat] at ho45; rw [← Ny218.out] at ho45))
                                have n0_ := Aside0.mk (Kd.R_elder' (by (with_reducible repeat (first | apply Kd.R_alloc | apply Kd.R_drewN | apply Kd.R_drew)); exact HO210.out) (Kd.R_base ho45) hb)
                                have n1_ := Aside0.mk (Kd.R_lower (Kd.R_new' ho45 (Kd.R_lt (by (with_reducible repeat (first | apply Kd.R_alloc | apply Kd.R_drewN | apply Kd.R_drew)); exact HO210.out))) (below_size (by repeat (first | (with_reducible first | exact HB.out | apply below_alloc | apply pw_below_drewN | apply below_drew1) | exact HB.out))))
                                have n2_ := Aside0.mk (below_step (by repeat (first | (with_reducible first | exact HB.out | apply below_alloc | apply pw_below_drewN | apply below_drew1) | exact HB.out)) hb)
                                clear HO210
                                clear HB
                                have HO210 := n0_
                                have HO220 := n1_
                                have HB := n2_
                                clear n0_ n1_ n2_
                                clear hb ho45
                                refine hK.out _ _ trivial (fun hHeld => ?_)
                                clear hK K
                                refine norm_ (a' := ?_) ?_ ?_
                                rotate_left
                                · show Act.put _ (some 51) _ = _
                                  simp only [Act.put, List.setIfInBounds_toArray, List.set_cons_zero, List.set_cons_succ, i64_w, i32_w]
                                  rfl
                                refine one_ (i := 4) (N := some 47) #[true, true, true, true, true, true, true, true, true, false, true, true, true, false, false, false] rfl rfl (one_of HT_.out (by kernel_rfl)) (by decide) (fun K hK => ?_)
                                refine Kd.R_append_rows_step k37 (w0 := w) w.heap.size (by rfl) (.tmp 43) (.tmp 46) 22 37 (.agg #[(.string ⟨#[]⟩), (.int .i64 0)]) 24 rfl Try.underlying22 info37 rfl (by decide) (by omega) v209 y208 y211 _ _ _ (fun k_ => some k_ ≠ (v219 : Value).ownBlock) (fun _ => False) rfl rfl ?aO ?aR (fun _ _ h => h) (fun _ h => h.elim) ?aF ?aB ?aS ?aL ?_
                                (case aR => repeat (first | exact (Kd.C_below HR214.out HB.out) | (with_reducible refine Kd.C_alloc ?_ _) | (with_reducible refine Kd.C_drewN ?_ _) | (with_reducible refine Kd.C_drew ?_)))
                                (case aB => exact (by repeat (first | (with_reducible first | exact HB.out | apply below_alloc | apply pw_below_drewN | apply below_drew1) | exact HB.out)))
                                (case aF => exact (fun k_ hk => Kd.fresh' (Kd.R_lt (by (with_reducible repeat (first | apply Kd.R_alloc | apply Kd.R_drewN | apply Kd.R_drew)); exact HO220.out)) k_ hk))
                                (case aO => exact (by (with_reducible repeat (first | apply Kd.R_alloc | apply Kd.R_drewN | apply Kd.R_drew)); exact Kd.R_mono HO210.out (fun _ hk => hk.2)))
                                (case aS => exact (below_size (by repeat (first | (with_reducible first | exact HB.out | apply below_alloc | apply pw_below_drewN | apply below_drew1) | exact HB.out))))
                                (case aL => have := LMc34.out; omega)
                                intro v216 w46 ho hb hg hat
                                rw [← Ny215.out] at ho
                                have n0_ := Aside0.mk (Kd.R_after (ok := (fun _ => True)) (by (with_reducible repeat (first | apply Kd.R_alloc | apply Kd.R_drewN | apply Kd.R_drew)); exact HO220.out) hg hat)
                                have n1_ := Aside0.mk (hb)
                                have n2_ := Aside0.mk (ho)
                                clear HO220
                                clear HB
                                clear HO210
                                have HO220 := n0_
                                have HB := n1_
                                have HO217 := n2_
                                clear n0_ n1_ n2_
                                clear ho hb hg hat
                                refine hK.out _ _ trivial (fun hHeld => ?_)
                                clear hK K
                                refine norm_ (a' := ?_) ?_ ?_
                                rotate_left
                                · show Act.put _ (some 47) _ = _
                                  simp only [Act.put, List.setIfInBounds_toArray, List.set_cons_zero, List.set_cons_succ, i64_w, i32_w]
                                  rfl
                                exact norm_ (by simp only [putAll, Act.put, List.setIfInBounds_toArray, List.set_cons_zero, List.set_cons_succ]) (hCont (v209, v216, v219) _ ⟨(by (with_reducible repeat (first | apply Kd.R_alloc | apply Kd.R_drewN | apply Kd.R_drew)); exact HO217.out), (by (with_reducible repeat (first | apply Kd.R_alloc | apply Kd.R_drewN | apply Kd.R_drew)); exact Kd.R_mono HO220.out (fun _ hk => hk.2)), (by repeat (first | (with_reducible first | exact HB.out | apply below_alloc | apply pw_below_drewN | apply below_drew1) | exact HB.out))⟩)
                            · skip
                              refine Kd.R_lit_step k37 _ 37 ?hg (N := 51) ?hd (xs := ([(⟨a1, a2⟩ : S37)] : List (S37))) (inner := [.string a1, .int .i64 a2]) (ok := fun _ => True) (okp := fun _ => True) ?hr ?hp (fun _ hk => hk) trivial (Below.refl _ _) (Nat.le_refl _) (by simp) ?_; (case hd => rfl); (case hg => rfl); (case hr => first | (go_simp; done) | (go_simp; rfl)); (case hp => exact (Reps.c2 (show Kd.M k37 _ _ _ (⟨a1, a2⟩ : S37) [.string a1, .int .i64 a2] from (k37_mkM _ _ _ (⟨a1, a2⟩ : S37) )) (Reps.none _ _)))
                              intro v219 w42 ho43 hb hg_ hnew_
                              clear hg_ hnew_
                              (first | rw [← Ny218.out] at ho43 | (simp only [Int.reduceToNat] at ho43; rw [← Ny218.out] at ho43))
                              have n0_ := Aside0.mk (Kd.R_lower ho43 (below_size (by repeat (first | (with_reducible first | exact HB.out | apply below_alloc | apply pw_below_drewN | apply below_drew1) | exact HB.out))))
                              have n1_ := Aside0.mk (below_step (by repeat (first | (with_reducible first | exact HB.out | apply below_alloc | apply pw_below_drewN | apply below_drew1) | exact HB.out)) hb)
                              clear HB
                              have HO220 := n0_
                              have HB := n1_
                              clear n0_ n1_
                              clear hb ho43
                              refine hK.out _ _ trivial (fun hHeld => ?_)
                              clear hK K
                              refine norm_ (a' := ?_) ?_ ?_
                              rotate_left
                              · show Act.put _ (some 51) _ = _
                                simp only [Act.put, List.setIfInBounds_toArray, List.set_cons_zero, List.set_cons_succ, i64_w, i32_w]
                                rfl
                              refine one_ (i := 0) (N := some 43) #[true, true, true, true, false, true, true, true, true, false, true, true, true, false, false, false] rfl rfl (one_of HT_.out (by kernel_rfl)) (by decide) (fun K hK => ?_)
                              refine Kd.R_lit_step k37 _ 37 ?hg (N := 43) ?hd (xs := ([] : List (S37))) (inner := []) (ok := fun _ => True) (okp := fun _ => True) ?hr ?hp (fun _ hk => hk) trivial (Below.refl _ _) (Nat.le_refl _) (by simp) ?_; (case hd => rfl); (case hg => rfl); (case hr => first | (go_simp; done) | (go_simp; rfl)); (case hp => exact (Reps.none _ _))
                              intro v209 w44 ho45 hb hg_ hnew_
                              clear hg_ hnew_
                              (first | rw [← Ny208.out] at ho45 | (simp only [Int.reduceToNat] at ho45; rw [← Ny208.out] at ho45))
                              have n0_ := Aside0.mk (Kd.R_elder' (by (with_reducible repeat (first | apply Kd.R_alloc | apply Kd.R_drewN | apply Kd.R_drew)); exact HO220.out) (Kd.R_base ho45) hb)
                              have n1_ := Aside0.mk (Kd.R_lower (Kd.R_new' ho45 (Kd.R_lt (by (with_reducible repeat (first | apply Kd.R_alloc | apply Kd.R_drewN | apply Kd.R_drew)); exact HO220.out))) (below_size (by repeat (first | (with_reducible first | exact HB.out | apply below_alloc | apply pw_below_drewN | apply below_drew1) | exact HB.out))))
                              have n2_ := Aside0.mk (below_step (by repeat (first | (with_reducible first | exact HB.out | apply below_alloc | apply pw_below_drewN | apply below_drew1) | exact HB.out)) hb)
                              clear HO220
                              clear HB
                              have HO220 := n0_
                              have HO210 := n1_
                              have HB := n2_
                              clear n0_ n1_ n2_
                              clear hb ho45
                              refine hK.out _ _ trivial (fun hHeld => ?_)
                              clear hK K
                              refine norm_ (a' := ?_) ?_ ?_
                              rotate_left
                              · show Act.put _ (some 43) _ = _
                                simp only [Act.put, List.setIfInBounds_toArray, List.set_cons_zero, List.set_cons_succ, i64_w, i32_w]
                                rfl
                              refine one_ (i := 4) (N := some 47) #[true, true, true, true, true, true, true, true, true, false, true, true, true, false, false, false] rfl rfl (one_of HT_.out (by kernel_rfl)) (by decide) (fun K hK => ?_)
                              refine Kd.R_append_rows_step k37 (w0 := w) w.heap.size (by rfl) (.tmp 43) (.tmp 46) 22 37 (.agg #[(.string ⟨#[]⟩), (.int .i64 0)]) 24 rfl Try.underlying22 info37 rfl (by decide) (by omega) v209 y208 y211 _ _ _ (fun k_ => some k_ ≠ (v219 : Value).ownBlock) (fun _ => False) rfl rfl ?aO ?aR (fun _ _ h => h) (fun _ h => h.elim) ?aF ?aB ?aS ?aL ?_
                              (case aR => repeat (first | exact (Kd.C_below HR214.out HB.out) | (with_reducible refine Kd.C_alloc ?_ _) | (with_reducible refine Kd.C_drewN ?_ _) | (with_reducible refine Kd.C_drew ?_)))
                              (case aB => exact (by repeat (first | (with_reducible first | exact HB.out | apply below_alloc | apply pw_below_drewN | apply below_drew1) | exact HB.out)))
                              (case aF => exact (fun k_ hk => Kd.fresh' (Kd.R_lt (by (with_reducible repeat (first | apply Kd.R_alloc | apply Kd.R_drewN | apply Kd.R_drew)); exact HO220.out)) k_ hk))
                              (case aO => exact (by (with_reducible repeat (first | apply Kd.R_alloc | apply Kd.R_drewN | apply Kd.R_drew)); exact Kd.R_mono HO210.out (fun _ hk => hk.2)))
                              (case aS => exact (below_size (by repeat (first | (with_reducible first | exact HB.out | apply below_alloc | apply pw_below_drewN | apply below_drew1) | exact HB.out))))
                              (case aL => have := LMc34.out; omega)
                              intro v216 w46 ho hb hg hat
                              rw [← Ny215.out] at ho
                              have n0_ := Aside0.mk (Kd.R_after (ok := (fun _ => True)) (by (with_reducible repeat (first | apply Kd.R_alloc | apply Kd.R_drewN | apply Kd.R_drew)); exact HO220.out) hg hat)
                              have n1_ := Aside0.mk (hb)
                              have n2_ := Aside0.mk (ho)
                              clear HO220
                              clear HB
                              clear HO210
                              have HO220 := n0_
                              have HB := n1_
                              have HO217 := n2_
                              clear n0_ n1_ n2_
                              clear ho hb hg hat
                              refine hK.out _ _ trivial (fun hHeld => ?_)
                              clear hK K
                              refine norm_ (a' := ?_) ?_ ?_
                              rotate_left
                              · show Act.put _ (some 47) _ = _
                                simp only [Act.put, List.setIfInBounds_toArray, List.set_cons_zero, List.set_cons_succ, i64_w, i32_w]
                                rfl
                              exact norm_ (by simp only [putAll, Act.put, List.setIfInBounds_toArray, List.set_cons_zero, List.set_cons_succ]) (hCont (v209, v216, v219) _ ⟨(by (with_reducible repeat (first | apply Kd.R_alloc | apply Kd.R_drewN | apply Kd.R_drew)); exact HO217.out), (by (with_reducible repeat (first | apply Kd.R_alloc | apply Kd.R_drewN | apply Kd.R_drew)); exact Kd.R_mono HO220.out (fun _ hk => hk.2)), (by repeat (first | (with_reducible first | exact HB.out | apply below_alloc | apply pw_below_drewN | apply below_drew1) | exact HB.out))⟩)
                          rintro ⟨v209, v216, v219⟩ w47 ⟨h0_, h1_, h2_⟩
                          have n0_ : Aside0 (Kd.R k37 37 w47 w.heap.size (fun k_ => some k_ ≠ (v219 : Value).ownBlock) v216 y215) := ⟨h0_⟩
                          have n1_ : Aside0 (Kd.R k37 37 w47 w.heap.size (fun k_ => some k_ ≠ (v216 : Value).ownBlock) v219 y218) := ⟨h1_⟩
                          have n2_ : Aside0 (Below w.heap.size w w47) := ⟨h2_⟩
                          clear HB
                          clear h0_ h1_ h2_
                          have HO217 := n0_
                          have HO220 := n1_
                          have HB := n2_
                          clear n0_ n1_ n2_
                          have hHeld := trivial
                          obtain ⟨Ao49, co49, eo49⟩ := Kd.R_slice HO220.out
                          (first | subst eo49 | (injection eo49 with f1_ f2_ f3_; have f4_ := f1_.symm; have f5_ := f3_.symm; clear f1_ f2_ f3_; subst f4_; subst f5_))
                          refine norm_ (a' := ?_) ?_ ?_
                          rotate_left
                          · simp only [putAll, Act.put, List.setIfInBounds_toArray, List.set_cons_zero, List.set_cons_succ]
                            rfl
                          refine one_ (i := 9) (N := some 52) #[true, true, true, true, true, true, true, true, true, true, true, true, true, false, false, false] rfl rfl (one_of HT_.out (by kernel_rfl)) (by decide) (fun K hK => ?_)
                          refine Kd.R_append_rows_step k37 (w0 := w) w.heap.size (by rfl) (.tmp 47) (.tmp 51) 22 37 (.agg #[(.string ⟨#[]⟩), (.int .i64 0)]) 24 rfl Try.underlying22 info37 rfl (by decide) (by omega) v216 y215 y218 _ _ _ (fun k_ => some k_ ≠ (.slice Ao49 y218.length co49 : Value).ownBlock) (fun _ => False) rfl rfl ?aO ?aR (fun _ _ h => h) (fun _ h => h.elim) ?aF ?aB ?aS ?aL ?_
                          (case aR => repeat (first | exact (Kd.R_reads' HO220.out).2.2 | (with_reducible refine Kd.C_alloc ?_ _) | (with_reducible refine Kd.C_drewN ?_ _) | (with_reducible refine Kd.C_drew ?_)))
                          (case aB => exact (by repeat (first | (with_reducible first | exact HB.out | apply below_alloc | apply pw_below_drewN | apply below_drew1) | exact HB.out)))
                          (case aF => exact (fun k_ hk => Kd.fresh' (Kd.R_lt (by (with_reducible repeat (first | apply Kd.R_alloc | apply Kd.R_drewN | apply Kd.R_drew)); exact HO220.out)) k_ hk))
                          (case aO => exact (by (with_reducible repeat (first | apply Kd.R_alloc | apply Kd.R_drewN | apply Kd.R_drew)); exact HO217.out))
                          (case aS => exact (below_size (by repeat (first | (with_reducible first | exact HB.out | apply below_alloc | apply pw_below_drewN | apply below_drew1) | exact HB.out))))
                          (case aL => have := LMc35.out; omega)
                          intro v222 w48 ho hb hg hat
                          rw [← Ny221.out] at ho
                          have n0_ := Aside0.mk (Kd.R_after (ok := (fun _ => True)) (by (with_reducible repeat (first | apply Kd.R_alloc | apply Kd.R_drewN | apply Kd.R_drew)); exact Kd.R_mono HO220.out (fun _ hk => ⟨trivial, hk⟩)) hg hat)
                          have n1_ := Aside0.mk (hb)
                          have n2_ := Aside0.mk (ho)
                          clear HO220
                          clear HB
                          clear HO217
                          have HO220 := n0_
                          have HB := n1_
                          have HO223 := n2_
                          clear n0_ n1_ n2_
                          clear ho hb hg hat
                          refine hK.out _ _ trivial (fun hHeld => ?_)
                          clear hK K
                          refine norm_ (a' := ?_) ?_ ?_
                          rotate_left
                          · show Act.put _ (some 52) _ = _
                            simp only [Act.put, List.setIfInBounds_toArray, List.set_cons_zero, List.set_cons_succ, i64_w, i32_w]
                            rfl
                          refine one_ (i := 13) (N := some 56) #[true, true, true, true, true, true, true, true, true, true, true, true, true, true, false, false] rfl rfl (one_of HT_.out (by kernel_rfl)) (by decide) (fun K hK => ?_)
                          refine Kd.R_append_rows_step k37 (w0 := w) w.heap.size (by rfl) (.tmp 52) (.tmp 55) 22 37 (.agg #[(.string ⟨#[]⟩), (.int .i64 0)]) 24 rfl Try.underlying22 info37 rfl (by decide) (by omega) v222 y221 y224 _ _ _ (fun k_ => some k_ ≠ (.slice Ao49 y218.length co49 : Value).ownBlock) (fun _ => False) rfl rfl ?aO ?aR (fun _ _ h => h) (fun _ h => h.elim) ?aF ?aB ?aS ?aL ?_
                          (case aR => repeat (first | exact (Kd.C_below HR227.out HB.out) | (with_reducible refine Kd.C_alloc ?_ _) | (with_reducible refine Kd.C_drewN ?_ _) | (with_reducible refine Kd.C_drew ?_)))
                          (case aB => exact (by repeat (first | (with_reducible first | exact HB.out | apply below_alloc | apply pw_below_drewN | apply below_drew1) | exact HB.out)))
                          (case aF => exact (fun k_ hk => Kd.fresh' (Kd.R_lt (by (with_reducible repeat (first | apply Kd.R_alloc | apply Kd.R_drewN | apply Kd.R_drew)); exact HO220.out)) k_ hk))
                          (case aO => exact (by (with_reducible repeat (first | apply Kd.R_alloc | apply Kd.R_drewN | apply Kd.R_drew)); exact HO223.out))
                          (case aS => exact (below_size (by repeat (first | (with_reducible first | exact HB.out | apply below_alloc | apply pw_below_drewN | apply below_drew1) | exact HB.out))))
                          (case aL => have := LMc38.out; omega)
                          intro v229 w50 ho hb hg hat
                          rw [← Ny228.out] at ho
                          have n0_ := Aside0.mk (Kd.R_after (ok := (fun _ => True)) (by (with_reducible repeat (first | apply Kd.R_alloc | apply Kd.R_drewN | apply Kd.R_drew)); exact HO220.out) hg hat)
                          have n1_ := Aside0.mk (hb)
                          have n2_ := Aside0.mk (ho)
                          clear HO220
                          clear HB
                          clear HO223
                          have HO220 := n0_
                          have HB := n1_
                          have HO230 := n2_
                          clear n0_ n1_ n2_
                          clear ho hb hg hat
                          refine hK.out _ _ trivial (fun hHeld => ?_)
                          clear hK K
                          refine norm_ (a' := ?_) ?_ ?_
                          rotate_left
                          · show Act.put _ (some 56) _ = _
                            simp only [Act.put, List.setIfInBounds_toArray, List.set_cons_zero, List.set_cons_succ, i64_w, i32_w]
                            rfl
                          refine pure_ (i := 14) (N := some 6) (v := ?_) (a' := ?_) #[true, true, true, true, true, true, true, true, true, true, true, true, true, true, true, false] rfl rfl (any_of HT_.out (by kernel_rfl)) (fun _ _ _ h => h) (Or.inl ⟨by rfl, ?_⟩) ?_ ?_
                          rotate_left
                          · intro w'
                            go_simp
                            with_reducible rfl
                          rotate_left
                          · simp only [Act.put, List.setIfInBounds_toArray, List.set_cons_zero, List.set_cons_succ, i64_w, i32_w]
                            rfl
                          refine pure_ (i := 15) (N := some 7) (v := ?_) (a' := ?_) #[true, true, true, true, true, true, true, true, true, true, true, true, true, true, true, true] rfl rfl (any_of HT_.out (by kernel_rfl)) (fun _ _ _ h => h) (Or.inl ⟨by rfl, ?_⟩) ?_ ?_
                          rotate_left
                          · intro w'
                            go_simp
                            with_reducible rfl
                          rotate_left
                          · simp only [Act.put, List.setIfInBounds_toArray, List.set_cons_zero, List.set_cons_succ, i64_w, i32_w]
                            rfl
                          refine done_ (done_of HT_.out (by kernel_rfl)) ?_
                          try go_wp2
                          go_ret2
                          exact ⟨_, by first | rfl | (simp [errW_none, errW_some] <;> rfl) | (simp [*, errW_none, errW_some] <;> rfl), by (with_reducible repeat (first | apply Kd.R_alloc | apply Kd.R_drewN | apply Kd.R_drew)); exact Kd.R_mono HO230.out (fun _ hk => trivial), by repeat (first | (with_reducible first | exact HB.out | apply below_alloc | apply pw_below_drewN | apply below_drew1) | exact HB.out)⟩
                        · rw [if_neg c38] at H
                          exact absurd H (by simp)
                      · rw [if_neg c35] at H
                        exact absurd H (by simp)
                    · rw [if_neg c34] at H
                      exact absurd H (by simp)
                  · rw [if_neg c33] at H
                    exact absurd H (by simp)
                · rw [if_neg c32] at H
                  exact absurd H (by simp)
    · replace c7 := Bool.eq_false_iff.mpr c7
      subst c7
      have H1 : (some (([] : List (S37)), 2)) = some (r1, r2) := by rw [if_neg (show ¬ (false = true) by decide)] at H; exact H
      clear H
      have H := H1
      clear H1
      simp only [Option.some.injEq, Prod.mk.injEq] at H
      obtain ⟨rfl, rfl⟩ := H
      go_enter Try.func15, Try.ntmps15
      go_wp2_with (first | ((with_reducible refine gate_callee (f := 14) rfl ?_); refine goesL_ (some 14) rfl rfl Try.func14 (by kernel_rfl) rfl #[.slice A0 l0.length c0, .string a1] rfl (by (try simp only [List.map_toArray, List.map_cons, List.map_nil]); first | done | rfl | (simp only [List.length_drop, List.length_take]; rfl)) ?_; (with_reducible refine (sutlerref07_Look.calls k _ _ l0 a1 t181 t182 _ ?side1 ?side2 A4.out).mono ?_); (case side1 => repeat (first | exact HR0.out | (with_reducible refine Kd.C_alloc ?_ _) | (with_reducible refine Kd.C_drewN ?_ _) | (with_reducible refine Kd.C_drew ?_))); (case side2 => exact HC0.out); rintro e w' ⟨rfl, ⟨nd, rfl⟩⟩; refine ⟨_, rfl, ?_⟩) | ((with_reducible refine gate_callee (f := 33) rfl ?_); refine goesL_ (some 21) rfl rfl Try.func33 (by kernel_rfl) rfl #[.int .i64 a2] rfl (by (try simp only [List.map_toArray, List.map_cons, List.map_nil]); first | done | rfl | (simp only [List.length_drop, List.length_take]; rfl)) ?_; (with_reducible refine (sutlerref07_inode.calls a2 false _ A6.out).mono ?_); rintro e w' ⟨rfl, ⟨nd, rfl⟩⟩; refine ⟨_, rfl, ?_⟩))
      go_ret2
      exact ⟨_, by first | rfl | (simp [errW_none, errW_some] <;> rfl) | (simp [*, errW_none, errW_some] <;> rfl), by first | exact Kd.R_nil _ _ _ _ _ | exact Kd.N_nil _ _ _ _ _ | exact Kd.V_nil _ _ _ _ _ | exact Kd.Q_nil _ _ _ _ _ | exact Kd.S_nil _ _ _ _ _, by repeat (first | (with_reducible first | exact HB.out | apply below_alloc | apply pw_below_drewN | apply below_drew1) | exact HB.out)⟩

end Go.Proofs.Ytcklpecjcebekaa.PAll
end
section
-- Written by a tool of the kit (print.py) over the laws of this seat at once; Lean checks it.
namespace Go.Proofs.Ytcklpecjcebekaa.PAll
open Go.RowKit Go.Proofs.YtcklpecjcebekaaW.PrintWords Go.Proofs.YtcklpecjcebekaaW.PrintLast Go.Proofs.YtcklpecjcebekaaW.PrintMore
attribute [local go_sem] max2_int min2_int max_two min_two max_three min_three max_four min_four   -- for this text's walks alone
set_option linter.unusedVariables false
set_option linter.unusedSimpArgs false

/-! ### sutlerref07_Remove: function 16 -/
def sutlerref07_Remove.l0 : Nat → List (S37) → ByteArray → Int → Option ((List (S37)) × Int)
  | 0, _, _, _ => none
  | k + 1, x0, x1, x8 => if x8 < (x0.length : Int) then (if 0 ≤ x8 then (if ((rd_T37 x0 x8).f0).toList = x1.toList then ((some (([] : List (S37)) : List (S37))).bind fun y234 => (if x8 ≤ (x0.length : Int) then ((some (x0.take (x8 : Int).toNat : List (S37))).bind fun y237 => (if y234.length + y237.length < 5864062014805 then ((some (y234 ++ y237 : List (S37))).bind fun y241 => (if 0 ≤ (wrap64 (x8 + 1)) then (if (wrap64 (x8 + 1)) ≤ (x0.length : Int) then ((some (x0.drop ((wrap64 (x8 + 1)) : Int).toNat : List (S37))).bind fun y244 => (if y241.length + y244.length < 5864062014805 then (some ((y241 ++ y244), 0)) else (none))) else (none)) else (none))) else (none))) else (none))) else (sutlerref07_Remove.l0 k x0 x1 (wrap64 (x8 + 1)))) else (none)) else (some (([] : List (S37)), 5))
def sutlerref07_Remove.f (k : Nat) (l0 : List (S37)) (a1 : ByteArray) : Option ((List (S37)) × Int) := (sutlerref07_Look.f k l0 a1).bind fun bt231 => (if bt231.2 = 0 then (sutlerref07_Remove.l0 k l0 a1 0) else (some (([] : List (S37)), bt231.2)))
theorem sutlerref07_Remove.mono_l : ∀ k, (∀ y0 y1 y2, LeO (sutlerref07_Remove.l0 k y0 y1 y2) (sutlerref07_Remove.l0 (k + 1) y0 y1 y2))
  | 0 => fun _ _ _ r h => by simp [sutlerref07_Remove.l0] at h
  | k + 1 => by
    have ih0 := sutlerref07_Remove.mono_l k
    · intro y0 y1 y2
      unfold sutlerref07_Remove.l0
      repeat' first
      | (with_reducible exact ih0 _ _ _)
      | (with_reducible exact sutlerref07_Look.mono _ _ _)
      | (with_reducible exact LeO.refl _)
      | (with_reducible exact LeO.none _)
      | (with_reducible refine LeO.ite ?_ ?_)
      | (with_reducible refine LeO.bind ?_ (fun _ => ?_))
      | exact ih0 _ _ _
      | exact sutlerref07_Look.mono _ _ _
      | exact LeO.none _
      | refine LeO.ite ?_ ?_
      | refine LeO.bind ?_ (fun _ => ?_)
theorem sutlerref07_Remove.mono : ∀ a0 a1 k, LeO (sutlerref07_Remove.f k a0 a1) (sutlerref07_Remove.f (k + 1) a0 a1) := by
  intro a0 a1 k
  have ih0 := sutlerref07_Remove.mono_l k
  unfold sutlerref07_Remove.f
  repeat' first
      | (with_reducible exact ih0 _ _ _)
      | (with_reducible exact sutlerref07_Look.mono _ _ _)
      | (with_reducible exact LeO.refl _)
      | (with_reducible exact LeO.none _)
      | (with_reducible refine LeO.ite ?_ ?_)
      | (with_reducible refine LeO.bind ?_ (fun _ => ?_))
      | exact ih0 _ _ _
      | exact sutlerref07_Look.mono _ _ _
      | exact LeO.none _
      | refine LeO.ite ?_ ?_
      | refine LeO.bind ?_ (fun _ => ?_)
def sutlerref07_Remove.T8 : Bool × List (List Nat × List Nat) := (true, [([], []), ([], []), ([], []), ([1, 2], [1, 2]), ([0, 3], [0, 3]), ([], []), ([], []), ([6], [6]), ([5, 7], [5, 7]), ([4, 8, 4], [4, 8]), ([9, 9, 0, 1, 2, 3, 4, 5, 6, 7, 8, 9], [9]), ([10, 0, 1, 2, 3, 4, 5, 6, 7, 8, 9, 10], [])])
def sutlerref07_Remove.B8 : List Nat := [0, 0, 0, 6, 15, 0, 0, 64, 224, 511, 1023, 2047]
theorem sutlerref07_Remove.tab8 : rtab .any (opsOf Try.f16 8) = sutlerref07_Remove.T8 := by kernel_rfl
theorem sutlerref07_Remove.bits8 : waitsOk sutlerref07_Remove.T8.2 sutlerref07_Remove.B8 = true := by kernel_rfl
set_option maxHeartbeats 8000000 in
set_option maxRecDepth 100000 in
theorem sutlerref07_Remove.calls (k : Nat) (A0 : Option Addr) (c0 : Nat) (l0 : List (S37)) (a1 : ByteArray) (r1 : List (S37)) (r2 : Int) (w : World) (hr0 : Kd.C k37 w A0 l0.length l0) (hc0 : l0.length ≤ c0) (h : sutlerref07_Remove.f k l0 a1 = some (r1, r2)) :
    Calls Try.prog 16 #[.slice A0 l0.length c0, .string a1] w fun e w' => ∃ v0_ : Value, e = .returned (.tuple #[v0_, .int .i64 r2]) ∧ Kd.R k37 37 w' w.heap.size (fun _ => True) v0_ r1 ∧ Below w.heap.size w w' := by
  have HR0 := Aside0.mk hr0
  have HC0 := Aside0.mk hc0
  clear hr0 hc0
  have HB := Aside0.mk (Below.refl w.heap.size w)
  have H : ((sutlerref07_Look.f k l0 a1).bind fun bt231 => (if bt231.2 = 0 then (sutlerref07_Remove.l0 k l0 a1 0) else (some (([] : List (S37)), bt231.2)))) = some (r1, r2) := h
  clear h
  replace H := Option.bind_eq_some_iff.mp H
  obtain ⟨⟨t231, t232⟩, A30, H⟩ := H
  replace H : (if t232 = 0 then (sutlerref07_Remove.l0 k l0 a1 0) else (some (([] : List (S37)), t232))) = some (r1, r2) := H
  have A3 := Aside0.mk A30
  clear A30
  by_cases c4 : t232 = 0
  · rw [if_pos c4] at H
    have c4b0 : (t232 == 0) = true := beq_iff_eq.mpr c4
    have c4b1 : (t232 != 0) = false := bne_eq_false_iff_eq.mpr c4
    clear c4
    have H' := Aside0.mk H
    clear H
    go_enter Try.func16, Try.ntmps16
    go_wp2_with (first | ((with_reducible refine gate_callee (f := 14) rfl ?_); refine goesL_ (some 12) rfl rfl Try.func14 (by kernel_rfl) rfl #[.slice A0 l0.length c0, .string a1] rfl (by (try simp only [List.map_toArray, List.map_cons, List.map_nil]); first | done | rfl | (simp only [List.length_drop, List.length_take]; rfl)) ?_; (with_reducible refine (sutlerref07_Look.calls k _ _ l0 a1 t231 t232 _ ?side1 ?side2 A3.out).mono ?_); (case side1 => repeat (first | exact HR0.out | (with_reducible refine Kd.C_alloc ?_ _) | (with_reducible refine Kd.C_drewN ?_ _) | (with_reducible refine Kd.C_drew ?_))); (case side2 => exact HC0.out); rintro e w' ⟨rfl, ⟨nd, rfl⟩⟩; refine ⟨_, rfl, ?_⟩))
    go_loopg [8] k (fun kq v8 w' => ∃ (x8_1 : Int), v8 = .int .i64 x8_1 ∧ Aside0 (sutlerref07_Remove.l0 kq l0 a1 x8_1 = some (r1, r2)) ∧ Aside0 (kq ≤ k) ∧ Aside0 (Below w.heap.size w w'))
    case atStart => exact ⟨(0), (by first | rfl | (simp; done) | (simp [*]; done)), H', ⟨Nat.le_refl _⟩, ⟨by repeat (first | (with_reducible first | exact HB.out | apply below_alloc | apply pw_below_drewN | apply below_drew1) | exact HB.out)⟩⟩
    case round =>
      clear H'
      try clear c1
      try clear p2
      try clear c4
      try clear c4b0
      try clear c4b1
      obtain ⟨x8_1, rfl, HA, HK1, HB⟩ := hrel
      cases gk with
      | zero => exact absurd HA.out (by simp [sutlerref07_Remove.l0])
      | succ k1 =>
        have H := HA.out
        clear HA
        simp only [sutlerref07_Remove.l0] at H
        by_cases c5 : x8_1 < (l0.length : Int)
        · rw [if_pos c5] at H
          have c5b0 : decide (x8_1 < (l0.length : Int)) = true := decide_eq_true c5
          clear c5
          by_cases c6 : 0 ≤ x8_1
          · rw [if_pos c6] at H
            have c6b0 : decide (0 ≤ x8_1) = true := decide_eq_true c6
            clear c6
            by_cases c7 : ((rd_T37 l0 x8_1).f0).toList = a1.toList
            · rw [if_pos c7] at H
              have c7b0 : (((rd_T37 l0 x8_1).f0).toList == a1.toList) = true := beq_iff_eq.mpr c7
              have c7b1 : (((rd_T37 l0 x8_1).f0).toList != a1.toList) = false := bne_eq_false_iff_eq.mpr c7
              clear c7
              obtain ⟨y234, hy234⟩ : ∃ y_ : List (S37), y_ = (([] : List (S37))) := ⟨_, rfl⟩
              replace H : (if x8_1 ≤ (l0.length : Int) then ((some (l0.take (x8_1 : Int).toNat : List (S37))).bind fun y237 => (if y234.length + y237.length < 5864062014805 then ((some (y234 ++ y237 : List (S37))).bind fun y241 => (if 0 ≤ (wrap64 (x8_1 + 1)) then (if (wrap64 (x8_1 + 1)) ≤ (l0.length : Int) then ((some (l0.drop ((wrap64 (x8_1 + 1)) : Int).toNat : List (S37))).bind fun y244 => (if y241.length + y244.length < 5864062014805 then (some ((y241 ++ y244), 0)) else (none))) else (none)) else (none))) else (none))) else (none)) = some (r1, r2) := by first | (rw [hy234]; with_reducible exact H) | (have H2_ := (Option.bind_some _ _).symm.trans H; rw [hy234]; with_reducible exact H2_) | (have H2_ := (Option.bind_some _ _).symm.trans H; with_reducible exact H2_) | with_reducible exact H | (rw [hy234]; exact H) | exact H
              have Ny234 := Aside0.mk hy234
              clear hy234
              have c8b0 := eq_true (of_decide_eq_true (by first | (with_reducible assumption) | assumption) : 0 ≤ x8_1)
              by_cases c9 : x8_1 ≤ (l0.length : Int)
              · rw [if_pos c9] at H
                have c9b0 := eq_true c9
                have c9b1 : decide (x8_1 ≤ (l0.length : Int)) = true := decide_eq_true c9
                clear c9
                obtain ⟨y237, hy237⟩ : ∃ y_ : List (S37), y_ = (l0.take (x8_1 : Int).toNat) := ⟨_, rfl⟩
                replace H : (if y234.length + y237.length < 5864062014805 then ((some (y234 ++ y237 : List (S37))).bind fun y241 => (if 0 ≤ (wrap64 (x8_1 + 1)) then (if (wrap64 (x8_1 + 1)) ≤ (l0.length : Int) then ((some (l0.drop ((wrap64 (x8_1 + 1)) : Int).toNat : List (S37))).bind fun y244 => (if y241.length + y244.length < 5864062014805 then (some ((y241 ++ y244), 0)) else (none))) else (none)) else (none))) else (none)) = some (r1, r2) := by first | (rw [hy237]; with_reducible exact H) | (have H2_ := (Option.bind_some _ _).symm.trans H; rw [hy237]; with_reducible exact H2_) | (have H2_ := (Option.bind_some _ _).symm.trans H; with_reducible exact H2_) | with_reducible exact H | (rw [hy237]; exact H) | exact H
                have Ny237 := Aside0.mk hy237
                clear hy237
                by_cases c10 : y234.length + y237.length < 5864062014805
                · rw [if_pos c10] at H
                  have LMc10 := Aside0.mk c10
                  clear c10
                  obtain ⟨y241, hy241⟩ : ∃ y_ : List (S37), y_ = (y234 ++ y237) := ⟨_, rfl⟩
                  replace H : (if 0 ≤ (wrap64 (x8_1 + 1)) then (if (wrap64 (x8_1 + 1)) ≤ (l0.length : Int) then ((some (l0.drop ((wrap64 (x8_1 + 1)) : Int).toNat : List (S37))).bind fun y244 => (if y241.length + y244.length < 5864062014805 then (some ((y241 ++ y244), 0)) else (none))) else (none)) else (none)) = some (r1, r2) := by first | (rw [hy241]; with_reducible exact H) | (have H2_ := (Option.bind_some _ _).symm.trans H; rw [hy241]; with_reducible exact H2_) | (have H2_ := (Option.bind_some _ _).symm.trans H; with_reducible exact H2_) | with_reducible exact H | (rw [hy241]; exact H) | exact H
                  have Ny241 := Aside0.mk hy241
                  clear hy241
                  obtain ⟨ji11, hji11⟩ : ∃ j_ : Int, (wrap64 (x8_1 + 1)) = j_ := ⟨_, rfl⟩
                  replace H : (if 0 ≤ (ji11) then (if (ji11) ≤ (l0.length : Int) then ((some (l0.drop ((ji11) : Int).toNat : List (S37))).bind fun y244 => (if y241.length + y244.length < 5864062014805 then (some ((y241 ++ y244), 0)) else (none))) else (none)) else (none)) = some (r1, r2) := by first | (rw [hji11] at H; exact H) | (simp only [hji11] at H ⊢; exact H)
                  have hji11w : (IntKind.i64.wrap (x8_1 + 1)) = ji11 := (i64_w _).trans hji11
                  by_cases c12 : 0 ≤ (ji11)
                  · rw [if_pos c12] at H
                    have c12b0 := eq_true c12
                    have c12b1 : decide (0 ≤ (ji11)) = true := decide_eq_true c12
                    clear c12
                    by_cases c13 : (ji11) ≤ (l0.length : Int)
                    · rw [if_pos c13] at H
                      have c13b0 := eq_true c13
                      have c13b1 : decide ((ji11) ≤ (l0.length : Int)) = true := decide_eq_true c13
                      clear c13
                      obtain ⟨y244, hy244⟩ : ∃ y_ : List (S37), y_ = (l0.drop ((ji11) : Int).toNat) := ⟨_, rfl⟩
                      replace H : (if y241.length + y244.length < 5864062014805 then (some ((y241 ++ y244), 0)) else (none)) = some (r1, r2) := by first | (rw [hy244]; with_reducible exact H) | (have H2_ := (Option.bind_some _ _).symm.trans H; rw [hy244]; with_reducible exact H2_) | (have H2_ := (Option.bind_some _ _).symm.trans H; with_reducible exact H2_) | with_reducible exact H | (rw [hy244]; exact H) | exact H
                      have Ny244 := Aside0.mk hy244
                      clear hy244
                      by_cases c14 : y241.length + y244.length < 5864062014805
                      · rw [if_pos c14] at H
                        have LMc14 := Aside0.mk c14
                        clear c14
                        obtain ⟨y248, hy248⟩ : ∃ y_ : List (S37), y_ = (y241 ++ y244) := ⟨_, rfl⟩
                        replace H : (some (y248, 0)) = some (r1, r2) := by first | (rw [hy248]; with_reducible exact H) | (have H2_ := (Option.bind_some _ _).symm.trans H; rw [hy248]; with_reducible exact H2_) | (have H2_ := (Option.bind_some _ _).symm.trans H; with_reducible exact H2_) | with_reducible exact H | (rw [hy248]; exact H) | exact H
                        have Ny248 := Aside0.mk hy248
                        clear hy248
                        simp only [Option.some.injEq, Prod.mk.injEq] at H
                        obtain ⟨rfl, rfl⟩ := H
                        have p233 : 0 ≤ (x8_1 : Int) := of_decide_eq_true (by first | (with_reducible assumption) | assumption)
                        have q233 : x8_1 < (l0.length : Int) := of_decide_eq_true (by first | (with_reducible assumption) | assumption)
                        obtain ⟨ad233, e233, hx233_0, hx233_1⟩ := at_T37 HR0.out x8_1 p233 q233
                        cases e233
                        replace hx233_0 := (HB.out.cell (World.block_lt_of_cell? w _ hx233_0)).trans hx233_0
                        replace hx233_1 := (HB.out.cell (World.block_lt_of_cell? w _ hx233_1)).trans hx233_1
                        replace p233 := eq_true p233
                        replace q233 := eq_true q233
                        try go_wp2
                        have n0_ := Aside0.mk (below_drew1 HB.out)
                        clear HB
                        have HB := n0_
                        clear n0_
                        have q16 : (x8_1 : Int) ≤ ((l0.length : Int) : Int) := of_decide_eq_true (by first | (with_reducible assumption) | assumption)
                        obtain ⟨i016, hi016, _, hsz16, _⟩ := info_parts info37
                        have hroom16 : l0.length ≤ c0 := HC0.out
                        have hC16 : Kd.C k37 _ (some ad233) l0.length l0 := HR0.out
                        have hcut16 := cut_to (P := Try.prog) 22 37 .i64 Try.underlying22 hi016 (some ad233) l0.length c0 x8_1 (of_decide_eq_true (by first | (with_reducible assumption) | assumption)) q16 hroom16
                        have hr16 := Kd.C_take (m := (x8_1 : Int).toNat) hC16 (by omega)
                        have hy16 : y237.length = (x8_1 : Int).toNat := (by rw [Ny237.out, List.length_take]; omega)
                        rw [← Ny237.out] at hr16
                        rw [← hy16] at hcut16
                        have HR240 := Aside0.mk hr16
                        have HC240 := Aside0.mk (show y237.length ≤ c0 from by omega)
                        clear hr16 hC16 hroom16 hi016 hsz16
                        have KY16 := Aside0.mk hy16
                        clear hy16
                        replace q16 := eq_true q16
                        have q17 : ((ji11) : Int) ≤ ((l0.length : Int) : Int) := of_decide_eq_true (by first | (with_reducible assumption) | assumption)
                        obtain ⟨i017, hi017, _, hsz17, _⟩ := info_parts info37
                        have hroom17 : l0.length ≤ c0 := HC0.out
                        have hC17 : Kd.C k37 _ (some ad233) l0.length l0 := HR0.out
                        have q017 : (0 : Int) ≤ ((ji11) : Int) := of_decide_eq_true (by first | (with_reducible assumption) | assumption)
                        have hcut17 := cut_from (P := Try.prog) 22 37 .i64 Try.underlying22 hi017 2 hsz17 (some ad233) l0.length c0 (ji11) q017 q17
                        have hr17 := Kd.C_drop (m := ((ji11) : Int).toNat) (c := c0) hC17 (by omega) hroom17
                        obtain ⟨A17, hA17⟩ : ∃ A1, A1 = (if c0 = ((ji11) : Int).toNat then (some ad233) else ((some ad233) : Option Addr).map (·.add (((ji11) : Int).toNat * 2))) := ⟨_, rfl⟩
                        obtain ⟨c17, hc17⟩ : ∃ c1, c1 = c0 - ((ji11) : Int).toNat := ⟨_, rfl⟩
                        have hy17 : y244.length = l0.length - ((ji11) : Int).toNat := (by rw [Ny244.out, List.length_drop] <;> omega)
                        rw [show (l0).drop ((ji11) : Int).toNat = y244 from Ny244.out.symm] at hr17
                        replace hr17 : Kd.C k37 _ A17 y244.length y244 := (by rw [hA17]; exact hr17)
                        rw [← hy17, ← hA17, ← hc17] at hcut17
                        have HR247 := Aside0.mk hr17
                        have HC247 := Aside0.mk (show y244.length ≤ c17 from by rw [hy17, hc17]; exact Nat.sub_le_sub_right hroom17 _)
                        clear hr17 hC17 hroom17 hi017 hsz17 hc17
                        have KY17 := Aside0.mk hy17
                        have KA17 := Aside0.mk hA17
                        clear hy17 hA17
                        replace q17 := eq_true q17
                        refine start_ (n := 12) (S := fun w' => True) (ds := []) #[false, false, false, false, false, false, false, false, false, false, false, false] (by kernel_rfl) rfl rfl trivial (fun hHeld => ?_); refine with_tabW sutlerref07_Remove.tab8 sutlerref07_Remove.bits8 (fun HT_ HW_ => ?_)
                        generalize wr.drew = w15 at HB HR240 HR247 hHeld ⊢
                        refine pure_ (i := 1) (N := some 32) (v := ?_) (a' := ?_) #[false, true, false, false, false, false, false, false, false, false, false, false] rfl rfl (any_of HT_.out (by kernel_rfl)) (fun _ _ _ h => h) (Or.inl ⟨by rfl, ?_⟩) ?_ ?_
                        rotate_left
                        · intro w'
                          go_simp
                          with_reducible rfl
                        rotate_left
                        · simp only [Act.put, List.setIfInBounds_toArray, List.set_cons_zero, List.set_cons_succ, i64_w, i32_w]
                          rfl
                        refine pure_ (i := 2) (N := some 33) (v := ?_) (a' := ?_) #[false, true, true, false, false, false, false, false, false, false, false, false] rfl rfl (any_of HT_.out (by kernel_rfl)) (fun _ _ _ h => h) (Or.inl ⟨by rfl, ?_⟩) ?_ ?_
                        rotate_left
                        · intro w'
                          go_simp
                          with_reducible rfl
                        rotate_left
                        · simp only [Act.put, List.setIfInBounds_toArray, List.set_cons_zero, List.set_cons_succ, i64_w, i32_w]
                          rfl
                        refine pure_ (i := 3) (N := some 34) (v := ?_) (a' := ?_) #[false, true, true, true, false, false, false, false, false, false, false, false] rfl rfl (any_of HT_.out (by kernel_rfl)) (fun _ _ _ h => h) (Or.inl ⟨by rfl, ?_⟩) ?_ ?_
                        rotate_left
                        · intro w'
                          go_simp
                          with_reducible rfl
                        rotate_left
                        · simp only [Act.put, List.setIfInBounds_toArray, List.set_cons_zero, List.set_cons_succ, i64_w, i32_w]
                          rfl
                        refine pure_ (i := 5) (N := some 36) (v := ?_) (a' := ?_) #[false, true, true, true, false, true, false, false, false, false, false, false] rfl rfl (any_of HT_.out (by kernel_rfl)) (fun _ _ _ h => h) (Or.inl ⟨by rfl, ?_⟩) ?_ ?_
                        rotate_left
                        · intro w'
                          go_simp
                          with_reducible rfl
                        rotate_left
                        · simp only [Act.put, List.setIfInBounds_toArray, List.set_cons_zero, List.set_cons_succ, i64_w, i32_w]
                          rfl
                        refine pure_ (i := 6) (N := some 37) (v := ?_) (a' := ?_) #[false, true, true, true, false, true, true, false, false, false, false, false] rfl rfl (any_of HT_.out (by kernel_rfl)) (fun _ _ _ h => h) (Or.inl ⟨by rfl, ?_⟩) ?_ ?_
                        rotate_left
                        · intro w'
                          go_simp
                          with_reducible rfl
                        rotate_left
                        · simp only [Act.put, List.setIfInBounds_toArray, List.set_cons_zero, List.set_cons_succ, i64_w, i32_w]
                          rfl
                        refine pure_ (i := 7) (N := some 38) (v := ?_) (a' := ?_) #[false, true, true, true, false, true, true, true, false, false, false, false] rfl rfl (any_of HT_.out (by kernel_rfl)) (fun _ _ _ h => h) (Or.inl ⟨by rfl, ?_⟩) ?_ ?_
                        rotate_left
                        · intro w'
                          go_simp
                          with_reducible rfl
                        rotate_left
                        · simp only [Act.put, List.setIfInBounds_toArray, List.set_cons_zero, List.set_cons_succ, i64_w, i32_w]
                          rfl
                        refine pure_ (i := 8) (N := some 39) (v := ?_) (a' := ?_) #[false, true, true, true, false, true, true, true, true, false, false, false] rfl rfl (any_of HT_.out (by kernel_rfl)) (fun _ _ _ h => h) (Or.inl ⟨by rfl, ?_⟩) ?_ ?_
                        rotate_left
                        · intro w'
                          go_simp
                          with_reducible rfl
                        rotate_left
                        · simp only [Act.put, List.setIfInBounds_toArray, List.set_cons_zero, List.set_cons_succ, i64_w, i32_w]
                          rfl
                        refine one_ (i := 0) (N := some 31) #[true, true, true, true, false, true, true, true, true, false, false, false] rfl rfl (one_of HT_.out (by kernel_rfl)) (by decide) (fun K hK => ?_)
                        refine Kd.R_lit_step k37 _ 37 ?hg (N := 31) ?hd (xs := ([] : List (S37))) (inner := []) (ok := fun _ => True) (okp := fun _ => True) ?hr ?hp (fun _ hk => hk) trivial (Below.refl _ _) (Nat.le_refl _) (by simp) ?_; (case hd => rfl); (case hg => rfl); (case hr => first | (go_simp; done) | (go_simp; rfl)); (case hp => exact (Reps.none _ _))
                        intro v235 w18 ho19 hb hg_ hnew_
                        clear hg_ hnew_
                        (first | rw [← Ny234.out] at ho19 | (simp only [Int.reduceToNat] at ho19; rw [← Ny234.out] at ho19))
                        have n0_ := Aside0.mk (Kd.R_lower ho19 (below_size (by repeat (first | (with_reducible first | exact HB.out | apply below_alloc | apply pw_below_drewN | apply below_drew1) | exact HB.out))))
                        have n1_ := Aside0.mk (below_step (by repeat (first | (with_reducible first | exact HB.out | apply below_alloc | apply pw_below_drewN | apply below_drew1) | exact HB.out)) hb)
                        clear HB
                        have HO236 := n0_
                        have HB := n1_
                        clear n0_ n1_
                        clear hb ho19
                        refine hK.out _ _ trivial (fun hHeld => ?_)
                        clear hK K
                        refine norm_ (a' := ?_) ?_ ?_
                        rotate_left
                        · show Act.put _ (some 31) _ = _
                          simp only [Act.put, List.setIfInBounds_toArray, List.set_cons_zero, List.set_cons_succ, i64_w, i32_w]
                          rfl
                        refine one_ (i := 4) (N := some 35) #[true, true, true, true, true, true, true, true, true, false, false, false] rfl rfl (one_of HT_.out (by kernel_rfl)) (by decide) (fun K hK => ?_)
                        refine Kd.R_append_rows_step k37 (w0 := w) w.heap.size (by rfl) (.tmp 31) (.tmp 34) 22 37 (.agg #[(.string ⟨#[]⟩), (.int .i64 0)]) 24 rfl Try.underlying22 info37 rfl (by decide) (by omega) v235 y234 y237 _ _ _ (fun _ => True) (fun _ => False) rfl rfl ?aO ?aR (fun _ _ h => h) (fun _ h => h.elim) ?aF ?aB ?aS ?aL ?_
                        (case aR => repeat (first | exact (Kd.C_below HR240.out HB.out) | (with_reducible refine Kd.C_alloc ?_ _) | (with_reducible refine Kd.C_drewN ?_ _) | (with_reducible refine Kd.C_drew ?_)))
                        (case aB => exact (by repeat (first | (with_reducible first | exact HB.out | apply below_alloc | apply pw_below_drewN | apply below_drew1) | exact HB.out)))
                        (case aF => exact (fun _ _ => trivial))
                        (case aO => exact (by (with_reducible repeat (first | apply Kd.R_alloc | apply Kd.R_drewN | apply Kd.R_drew)); exact HO236.out))
                        (case aS => exact (below_size (by repeat (first | (with_reducible first | exact HB.out | apply below_alloc | apply pw_below_drewN | apply below_drew1) | exact HB.out))))
                        (case aL => have := LMc10.out; omega)
                        intro v242 w20 ho hb hg hat
                        rw [← Ny241.out] at ho
                        have n0_ := Aside0.mk (hb)
                        have n1_ := Aside0.mk (ho)
                        clear HB
                        clear HO236
                        have HB := n0_
                        have HO243 := n1_
                        clear n0_ n1_
                        clear ho hb hg hat
                        refine hK.out _ _ trivial (fun hHeld => ?_)
                        clear hK K
                        refine norm_ (a' := ?_) ?_ ?_
                        rotate_left
                        · show Act.put _ (some 35) _ = _
                          simp only [Act.put, List.setIfInBounds_toArray, List.set_cons_zero, List.set_cons_succ, i64_w, i32_w]
                          rfl
                        refine one_ (i := 9) (N := some 40) #[true, true, true, true, true, true, true, true, true, true, false, false] rfl rfl (one_of HT_.out (by kernel_rfl)) (by decide) (fun K hK => ?_)
                        refine Kd.R_append_rows_step k37 (w0 := w) w.heap.size (by rfl) (.tmp 35) (.tmp 39) 22 37 (.agg #[(.string ⟨#[]⟩), (.int .i64 0)]) 24 rfl Try.underlying22 info37 rfl (by decide) (by omega) v242 y241 y244 _ _ _ (fun _ => True) (fun _ => False) rfl rfl ?aO ?aR (fun _ _ h => h) (fun _ h => h.elim) ?aF ?aB ?aS ?aL ?_
                        (case aR => repeat (first | exact (Kd.C_below HR247.out HB.out) | (with_reducible refine Kd.C_alloc ?_ _) | (with_reducible refine Kd.C_drewN ?_ _) | (with_reducible refine Kd.C_drew ?_)))
                        (case aB => exact (by repeat (first | (with_reducible first | exact HB.out | apply below_alloc | apply pw_below_drewN | apply below_drew1) | exact HB.out)))
                        (case aF => exact (fun _ _ => trivial))
                        (case aO => exact (by (with_reducible repeat (first | apply Kd.R_alloc | apply Kd.R_drewN | apply Kd.R_drew)); exact HO243.out))
                        (case aS => exact (below_size (by repeat (first | (with_reducible first | exact HB.out | apply below_alloc | apply pw_below_drewN | apply below_drew1) | exact HB.out))))
                        (case aL => have := LMc14.out; omega)
                        intro v249 w21 ho hb hg hat
                        rw [← Ny248.out] at ho
                        have n0_ := Aside0.mk (hb)
                        have n1_ := Aside0.mk (ho)
                        clear HB
                        clear HO243
                        have HB := n0_
                        have HO250 := n1_
                        clear n0_ n1_
                        clear ho hb hg hat
                        refine hK.out _ _ trivial (fun hHeld => ?_)
                        clear hK K
                        refine norm_ (a' := ?_) ?_ ?_
                        rotate_left
                        · show Act.put _ (some 40) _ = _
                          simp only [Act.put, List.setIfInBounds_toArray, List.set_cons_zero, List.set_cons_succ, i64_w, i32_w]
                          rfl
                        refine pure_ (i := 10) (N := some 4) (v := ?_) (a' := ?_) #[true, true, true, true, true, true, true, true, true, true, true, false] rfl rfl (any_of HT_.out (by kernel_rfl)) (fun _ _ _ h => h) (Or.inl ⟨by rfl, ?_⟩) ?_ ?_
                        rotate_left
                        · intro w'
                          go_simp
                          with_reducible rfl
                        rotate_left
                        · simp only [Act.put, List.setIfInBounds_toArray, List.set_cons_zero, List.set_cons_succ, i64_w, i32_w]
                          rfl
                        refine pure_ (i := 11) (N := some 5) (v := ?_) (a' := ?_) #[true, true, true, true, true, true, true, true, true, true, true, true] rfl rfl (any_of HT_.out (by kernel_rfl)) (fun _ _ _ h => h) (Or.inl ⟨by rfl, ?_⟩) ?_ ?_
                        rotate_left
                        · intro w'
                          go_simp
                          with_reducible rfl
                        rotate_left
                        · simp only [Act.put, List.setIfInBounds_toArray, List.set_cons_zero, List.set_cons_succ, i64_w, i32_w]
                          rfl
                        refine done_ (done_of HT_.out (by kernel_rfl)) ?_
                        try go_wp2
                        go_ret2
                        exact ⟨_, by first | rfl | (simp [errW_none, errW_some] <;> rfl) | (simp only [← hji11]; first | rfl | (simp [errW_none, errW_some] <;> rfl)) | (simp [*, errW_none, errW_some] <;> rfl), by (with_reducible repeat (first | apply Kd.R_alloc | apply Kd.R_drewN | apply Kd.R_drew)); exact HO250.out, by repeat (first | (with_reducible first | exact HB.out | apply below_alloc | apply pw_below_drewN | apply below_drew1) | exact HB.out)⟩
                      · rw [if_neg c14] at H
                        exact absurd H (by simp)
                    · rw [if_neg c13] at H
                      exact absurd H (by simp)
                  · rw [if_neg c12] at H
                    exact absurd H (by simp)
                · rw [if_neg c10] at H
                  exact absurd H (by simp)
              · rw [if_neg c9] at H
                exact absurd H (by simp)
            · rw [if_neg c7] at H
              have c7b0 : (((rd_T37 l0 x8_1).f0).toList == a1.toList) = false := beq_eq_false_iff_ne.mpr c7
              have c7b1 : (((rd_T37 l0 x8_1).f0).toList != a1.toList) = true := bne_iff_ne.mpr c7
              have H' := Aside0.mk H
              clear H
              have p233 : 0 ≤ (x8_1 : Int) := of_decide_eq_true (by first | (with_reducible assumption) | assumption)
              have q233 : x8_1 < (l0.length : Int) := of_decide_eq_true (by first | (with_reducible assumption) | assumption)
              obtain ⟨ad233, e233, hx233_0, hx233_1⟩ := at_T37 HR0.out x8_1 p233 q233
              cases e233
              replace hx233_0 := (HB.out.cell (World.block_lt_of_cell? w _ hx233_0)).trans hx233_0
              replace hx233_1 := (HB.out.cell (World.block_lt_of_cell? w _ hx233_1)).trans hx233_1
              replace p233 := eq_true p233
              replace q233 := eq_true q233
              go_wp2
              go_roundg k1
              case measure => have := HK1.out; omega
              case rel => exact ⟨(wrap64 (x8_1 + 1)), (by first | rfl | (simp; done) | (simp [*]; done)), H', ⟨by have := HK1.out; omega⟩, ⟨by repeat (first | (with_reducible first | exact HB.out | apply below_alloc | apply pw_below_drewN | apply below_drew1) | exact HB.out)⟩⟩
          · rw [if_neg c6] at H
            exact absurd H (by simp)
        · rw [if_neg c5] at H
          have c5b0 : decide (x8_1 < (l0.length : Int)) = false := decide_eq_false c5
          clear c5
          simp only [Option.some.injEq, Prod.mk.injEq] at H
          obtain ⟨rfl, rfl⟩ := H
          go_wp2
          go_ret2
          exact ⟨_, by first | rfl | (simp [errW_none, errW_some] <;> rfl) | (simp [*, errW_none, errW_some] <;> rfl), by first | exact Kd.R_nil _ _ _ _ _ | exact Kd.N_nil _ _ _ _ _ | exact Kd.V_nil _ _ _ _ _ | exact Kd.Q_nil _ _ _ _ _ | exact Kd.S_nil _ _ _ _ _, by repeat (first | (with_reducible first | exact HB.out | apply below_alloc | apply pw_below_drewN | apply below_drew1) | exact HB.out)⟩
  · rw [if_neg c4] at H
    have c4b0 : (t232 == 0) = false := beq_eq_false_iff_ne.mpr c4
    have c4b1 : (t232 != 0) = true := bne_iff_ne.mpr c4
    simp only [Option.some.injEq, Prod.mk.injEq] at H
    obtain ⟨rfl, rfl⟩ := H
    go_enter Try.func16, Try.ntmps16
    go_wp2_with (first | ((with_reducible refine gate_callee (f := 14) rfl ?_); refine goesL_ (some 12) rfl rfl Try.func14 (by kernel_rfl) rfl #[.slice A0 l0.length c0, .string a1] rfl (by (try simp only [List.map_toArray, List.map_cons, List.map_nil]); first | done | rfl | (simp only [List.length_drop, List.length_take]; rfl)) ?_; (with_reducible refine (sutlerref07_Look.calls k _ _ l0 a1 t231 t232 _ ?side1 ?side2 A3.out).mono ?_); (case side1 => repeat (first | exact HR0.out | (with_reducible refine Kd.C_alloc ?_ _) | (with_reducible refine Kd.C_drewN ?_ _) | (with_reducible refine Kd.C_drew ?_))); (case side2 => exact HC0.out); rintro e w' ⟨rfl, ⟨nd, rfl⟩⟩; refine ⟨_, rfl, ?_⟩))
    go_ret2
    exact ⟨_, by first | rfl | (simp [errW_none, errW_some] <;> rfl) | (simp [*, errW_none, errW_some] <;> rfl), by first | exact Kd.R_nil _ _ _ _ _ | exact Kd.N_nil _ _ _ _ _ | exact Kd.V_nil _ _ _ _ _ | exact Kd.Q_nil _ _ _ _ _ | exact Kd.S_nil _ _ _ _ _, by repeat (first | (with_reducible first | exact HB.out | apply below_alloc | apply pw_below_drewN | apply below_drew1) | exact HB.out)⟩

end Go.Proofs.Ytcklpecjcebekaa.PAll
end
section
-- Written by a tool of the kit (print.py) over the laws of this seat at once; Lean checks it.
namespace Go.Proofs.Ytcklpecjcebekaa.PAll
open Go.RowKit Go.Proofs.YtcklpecjcebekaaW.PrintWords Go.Proofs.YtcklpecjcebekaaW.PrintLast Go.Proofs.YtcklpecjcebekaaW.PrintMore
attribute [local go_sem] max2_int min2_int max_two min_two max_three min_three max_four min_four   -- for this text's walks alone
set_option linter.unusedVariables false
set_option linter.unusedSimpArgs false

/-! ### sutlerlaw07_names: function 12 -/
def sutlerlaw07_names.f (l0 : List (S37)) : Option ((List (S37))) := (some (([] : List (S37)) : List (S37))).bind fun y169 => (if y169.length + l0.length < 5864062014805 then (some (y169 ++ l0)) else (none))
set_option maxHeartbeats 8000000 in
set_option maxRecDepth 100000 in
theorem sutlerlaw07_names.calls (A0 : Option Addr) (c0 : Nat) (l0 : List (S37)) (r : List (S37)) (w : World) (hr0 : Kd.C k37 w A0 l0.length l0) (hc0 : l0.length ≤ c0) (h : sutlerlaw07_names.f l0 = some r) :
    Calls Try.prog 12 #[.slice A0 l0.length c0] w fun e w' => ∃ v0_ : Value, e = .returned (v0_) ∧ Kd.R k37 37 w' w.heap.size (fun _ => True) v0_ r ∧ Below w.heap.size w w' := by
  have HR0 := Aside0.mk hr0
  have HC0 := Aside0.mk hc0
  clear hr0 hc0
  have HB := Aside0.mk (Below.refl w.heap.size w)
  have H : ((some (([] : List (S37)) : List (S37))).bind fun y169 => (if y169.length + l0.length < 5864062014805 then (some (y169 ++ l0)) else (none))) = some r := h
  clear h
  obtain ⟨y169, hy169⟩ : ∃ y_ : List (S37), y_ = (([] : List (S37))) := ⟨_, rfl⟩
  replace H : (if y169.length + l0.length < 5864062014805 then (some (y169 ++ l0)) else (none)) = some r := by first | (rw [hy169]; with_reducible exact H) | (have H2_ := (Option.bind_some _ _).symm.trans H; rw [hy169]; with_reducible exact H2_) | (have H2_ := (Option.bind_some _ _).symm.trans H; with_reducible exact H2_) | with_reducible exact H | (rw [hy169]; exact H) | exact H
  have Ny169 := Aside0.mk hy169
  clear hy169
  by_cases c2 : y169.length + l0.length < 5864062014805
  · rw [if_pos c2] at H
    have LMc2 := Aside0.mk c2
    clear c2
    obtain ⟨y172, hy172⟩ : ∃ y_ : List (S37), y_ = (y169 ++ l0) := ⟨_, rfl⟩
    replace H : (some y172) = some r := by first | (rw [hy172]; with_reducible exact H) | (have H2_ := (Option.bind_some _ _).symm.trans H; rw [hy172]; with_reducible exact H2_) | (have H2_ := (Option.bind_some _ _).symm.trans H; with_reducible exact H2_) | with_reducible exact H | (rw [hy172]; exact H) | exact H
    have Ny172 := Aside0.mk hy172
    clear hy172
    obtain rfl := Option.some.inj H
    go_enter Try.func12, Try.ntmps12
    go_wp2_with (first | ((with_reducible refine gate_dst (N := 3) rfl ?_); refine Kd.R_lit k37 _ 37 ?hg (N := 3) ?hd (xs := ([] : List (S37))) (inner := []) (ok := fun _ => True) (okp := fun _ => True) ?hr ?hp (fun _ hk => hk) trivial (Below.refl _ _) (Nat.le_refl _) (by simp) ?_; (case hd => rfl); (case hg => rfl); (case hr => first | (go_simp; done) | (go_simp; rfl)); (case hp => exact (Reps.none _ _)); intro v170 w3 ho4 hb hg_ hnew_; clear hg_ hnew_; (first | rw [← Ny169.out] at ho4 | (simp only [Int.reduceToNat] at ho4; rw [← Ny169.out] at ho4)); have n0_ := Aside0.mk (Kd.R_lower ho4 (below_size (by repeat (first | (with_reducible first | exact HB.out | apply below_alloc | apply pw_below_drewN | apply below_drew1) | exact HB.out)))); have n1_ := Aside0.mk (below_step (by repeat (first | (with_reducible first | exact HB.out | apply below_alloc | apply pw_below_drewN | apply below_drew1) | exact HB.out)) hb); clear HB; have HO171 := n0_; have HB := n1_; clear n0_ n1_; clear hb ho4) | ((with_reducible refine gate_builtin (b := .append) (xs := #[.tmp 3, .tmp 4]) rfl ?_); at_builtin; refine Kd.R_append_rows k37 (w0 := w) w.heap.size rfl (.tmp 3) (.tmp 4) 22 37 (.agg #[(.string ⟨#[]⟩), (.int .i64 0)]) 24 rfl Try.underlying22 info37 rfl (by decide) (by omega) v170 y169 l0 _ _ _ (fun _ => True) (fun _ => False) rfl rfl ?aO ?aR (fun _ _ h => h) (fun _ h => h.elim) ?aF ?aB ?aS ?aL ?_; (case aR => repeat (first | exact (Kd.C_below HR0.out HB.out) | (with_reducible refine Kd.C_alloc ?_ _) | (with_reducible refine Kd.C_drewN ?_ _) | (with_reducible refine Kd.C_drew ?_))); (case aB => exact (by repeat (first | (with_reducible first | exact HB.out | apply below_alloc | apply pw_below_drewN | apply below_drew1) | exact HB.out))); (case aF => exact (fun _ _ => trivial)); (case aO => exact (by (with_reducible repeat (first | apply Kd.R_alloc | apply Kd.R_drewN | apply Kd.R_drew)); exact HO171.out)); (case aS => exact (below_size (by repeat (first | (with_reducible first | exact HB.out | apply below_alloc | apply pw_below_drewN | apply below_drew1) | exact HB.out)))); (case aL => have := LMc2.out; omega); intro v173 w5 ho hb hg hat; rw [← Ny172.out] at ho; have n0_ := Aside0.mk (hb); have n1_ := Aside0.mk (ho); clear HB; clear HO171; have HB := n0_; have HO174 := n1_; clear n0_ n1_; clear ho hb hg hat))
    go_ret
    exact ⟨_, by first | rfl | (simp [errW_none, errW_some] <;> rfl) | (simp [*, errW_none, errW_some] <;> rfl), by (with_reducible repeat (first | apply Kd.R_alloc | apply Kd.R_drewN | apply Kd.R_drew)); exact HO174.out, by repeat (first | (with_reducible first | exact HB.out | apply below_alloc | apply pw_below_drewN | apply below_drew1) | exact HB.out)⟩
  · rw [if_neg c2] at H
    exact absurd H (by simp)

end Go.Proofs.Ytcklpecjcebekaa.PAll
end
section
-- Written by a tool of the kit (print.py) over the laws of this seat at once; Lean checks it.
namespace Go.Proofs.Ytcklpecjcebekaa.PAll
open Go.RowKit Go.Proofs.YtcklpecjcebekaaW.PrintWords Go.Proofs.YtcklpecjcebekaaW.PrintLast Go.Proofs.YtcklpecjcebekaaW.PrintMore
attribute [local go_sem] max2_int min2_int max_two min_two max_three min_three max_four min_four   -- for this text's walks alone
set_option linter.unusedVariables false
set_option linter.unusedSimpArgs false

/-! ### sutlerlaw07_DirsTurns: function 4 -/
mutual
def sutlerlaw07_DirsTurns.j0 : Nat → List (S37) → List (S37) → List (S37) → List (S37) → Bool → Option (Bool)
  | 0, _, _, _, _, _ => none
  | k + 1, x0, x7, x12, x16, x91 => if x91 = true then (some false) else (sutlerlaw07_DirsTurns.l0 k x0 x7 x12 x16 0)
def sutlerlaw07_DirsTurns.l0 : Nat → List (S37) → List (S37) → List (S37) → List (S37) → Int → Option (Bool)
  | 0, _, _, _, _, _ => none
  | k + 1, x0, x7, x12, x16, x20 => if x20 < (x12.length : Int) then (if 0 ≤ x20 then (sutlerlaw07_DirsTurns.l0 k x0 x7 (x12.set (x20 : Int).toNat (⟨(⟨#[115, 112, 111, 105, 108, 116]⟩ : ByteArray), (rd_T37 x12 x20).f1⟩ : S37)) x16 (wrap64 (x20 + 1))) else (none)) else (sutlerlaw07_DirsTurns.l1 k x0 x7 x16 0)
def sutlerlaw07_DirsTurns.l1 : Nat → List (S37) → List (S37) → List (S37) → Int → Option (Bool)
  | 0, _, _, _, _ => none
  | k + 1, x0, x7, x16, x21 => if x21 < (x16.length : Int) then (if 0 ≤ x21 then (sutlerlaw07_DirsTurns.l1 k x0 x7 (x16.set (x21 : Int).toNat (⟨(⟨#[115, 112, 111, 105, 108, 116]⟩ : ByteArray), (rd_T37 x16 x21).f1⟩ : S37)) (wrap64 (x21 + 1))) else (none)) else ((sutlerbase_SameNames.f k x7 x0).bind fun t278 => (if t278 = true then ((sutlerlaw07_works.f k).bind fun t279 => (some t279)) else (some false)))
end
def sutlerlaw07_DirsTurns.f (k : Nat) (l0 : List (S37)) (a1 : ByteArray) (a2 : Int) : Option (Bool) := (sutlerlaw07_names.f l0).bind fun t251 => ((dirs_Look.f t251 a1).bind fun bt254 => ((sutlerref07_Look.f k l0 a1).bind fun bt256 => ((dirs_Add.f t251 a1 a2).bind fun bt258 => ((sutlerref07_Add.f k l0 a1 a2).bind fun bt262 => ((dirs_Remove.f t251 a1).bind fun bt266 => ((sutlerref07_Remove.f k l0 a1).bind fun bt270 => (if bt254.1 = bt256.1 then (if bt254.2 = bt256.2 then ((sutlerbase_SameNames.f k bt258.1 bt262.1).bind fun t274 => (if t274 = true then (if bt258.2 = bt262.2 then ((sutlerbase_SameNames.f k bt266.1 bt270.1).bind fun t275 => (if t275 = true then (sutlerlaw07_DirsTurns.j0 k l0 t251 bt258.1 bt266.1 (bt266.2 != bt270.2)) else (sutlerlaw07_DirsTurns.j0 k l0 t251 bt258.1 bt266.1 true))) else (sutlerlaw07_DirsTurns.j0 k l0 t251 bt258.1 bt266.1 true)) else (sutlerlaw07_DirsTurns.j0 k l0 t251 bt258.1 bt266.1 true))) else (sutlerlaw07_DirsTurns.j0 k l0 t251 bt258.1 bt266.1 true)) else (sutlerlaw07_DirsTurns.j0 k l0 t251 bt258.1 bt266.1 true))))))))
theorem sutlerlaw07_DirsTurns.mono_l : ∀ k, (∀ y0 y1 y2 y3 y4, LeO (sutlerlaw07_DirsTurns.j0 k y0 y1 y2 y3 y4) (sutlerlaw07_DirsTurns.j0 (k + 1) y0 y1 y2 y3 y4)) ∧ (∀ y0 y1 y2 y3 y4, LeO (sutlerlaw07_DirsTurns.l0 k y0 y1 y2 y3 y4) (sutlerlaw07_DirsTurns.l0 (k + 1) y0 y1 y2 y3 y4)) ∧ (∀ y0 y1 y2 y3, LeO (sutlerlaw07_DirsTurns.l1 k y0 y1 y2 y3) (sutlerlaw07_DirsTurns.l1 (k + 1) y0 y1 y2 y3))
  | 0 => ⟨fun _ _ _ _ _ r h => by simp [sutlerlaw07_DirsTurns.j0] at h, fun _ _ _ _ _ r h => by simp [sutlerlaw07_DirsTurns.l0] at h, fun _ _ _ _ r h => by simp [sutlerlaw07_DirsTurns.l1] at h⟩
  | k + 1 => by
    obtain ⟨ih0, ih1, ih2⟩ := sutlerlaw07_DirsTurns.mono_l k
    refine ⟨?_, ?_, ?_⟩
    · intro y0 y1 y2 y3 y4
      unfold sutlerlaw07_DirsTurns.j0
      repeat' first
      | (with_reducible exact ih0 _ _ _ _ _)
      | (with_reducible exact ih1 _ _ _ _ _)
      | (with_reducible exact ih2 _ _ _ _)
      | (with_reducible exact sutlerbase_SameNames.mono _ _ _)
      | (with_reducible exact sutlerlaw07_works.mono _)
      | (with_reducible exact sutlerref07_Add.mono _ _ _ _)
      | (with_reducible exact sutlerref07_Look.mono _ _ _)
      | (with_reducible exact sutlerref07_Remove.mono _ _ _)
      | (with_reducible exact LeO.refl _)
      | (with_reducible exact LeO.none _)
      | (with_reducible refine LeO.ite ?_ ?_)
      | (with_reducible refine LeO.bind ?_ (fun _ => ?_))
      | exact ih0 _ _ _ _ _
      | exact ih1 _ _ _ _ _
      | exact ih2 _ _ _ _
      | exact sutlerbase_SameNames.mono _ _ _
      | exact sutlerlaw07_works.mono _
      | exact sutlerref07_Add.mono _ _ _ _
      | exact sutlerref07_Look.mono _ _ _
      | exact sutlerref07_Remove.mono _ _ _
      | exact LeO.none _
      | refine LeO.ite ?_ ?_
      | refine LeO.bind ?_ (fun _ => ?_)
    · intro y0 y1 y2 y3 y4
      unfold sutlerlaw07_DirsTurns.l0
      repeat' first
      | (with_reducible exact ih0 _ _ _ _ _)
      | (with_reducible exact ih1 _ _ _ _ _)
      | (with_reducible exact ih2 _ _ _ _)
      | (with_reducible exact sutlerbase_SameNames.mono _ _ _)
      | (with_reducible exact sutlerlaw07_works.mono _)
      | (with_reducible exact sutlerref07_Add.mono _ _ _ _)
      | (with_reducible exact sutlerref07_Look.mono _ _ _)
      | (with_reducible exact sutlerref07_Remove.mono _ _ _)
      | (with_reducible exact LeO.refl _)
      | (with_reducible exact LeO.none _)
      | (with_reducible refine LeO.ite ?_ ?_)
      | (with_reducible refine LeO.bind ?_ (fun _ => ?_))
      | exact ih0 _ _ _ _ _
      | exact ih1 _ _ _ _ _
      | exact ih2 _ _ _ _
      | exact sutlerbase_SameNames.mono _ _ _
      | exact sutlerlaw07_works.mono _
      | exact sutlerref07_Add.mono _ _ _ _
      | exact sutlerref07_Look.mono _ _ _
      | exact sutlerref07_Remove.mono _ _ _
      | exact LeO.none _
      | refine LeO.ite ?_ ?_
      | refine LeO.bind ?_ (fun _ => ?_)
    · intro y0 y1 y2 y3
      unfold sutlerlaw07_DirsTurns.l1
      repeat' first
      | (with_reducible exact ih0 _ _ _ _ _)
      | (with_reducible exact ih1 _ _ _ _ _)
      | (with_reducible exact ih2 _ _ _ _)
      | (with_reducible exact sutlerbase_SameNames.mono _ _ _)
      | (with_reducible exact sutlerlaw07_works.mono _)
      | (with_reducible exact sutlerref07_Add.mono _ _ _ _)
      | (with_reducible exact sutlerref07_Look.mono _ _ _)
      | (with_reducible exact sutlerref07_Remove.mono _ _ _)
      | (with_reducible exact LeO.refl _)
      | (with_reducible exact LeO.none _)
      | (with_reducible refine LeO.ite ?_ ?_)
      | (with_reducible refine LeO.bind ?_ (fun _ => ?_))
      | exact ih0 _ _ _ _ _
      | exact ih1 _ _ _ _ _
      | exact ih2 _ _ _ _
      | exact sutlerbase_SameNames.mono _ _ _
      | exact sutlerlaw07_works.mono _
      | exact sutlerref07_Add.mono _ _ _ _
      | exact sutlerref07_Look.mono _ _ _
      | exact sutlerref07_Remove.mono _ _ _
      | exact LeO.none _
      | refine LeO.ite ?_ ?_
      | refine LeO.bind ?_ (fun _ => ?_)
theorem sutlerlaw07_DirsTurns.mono : ∀ a0 a1 a2 k, LeO (sutlerlaw07_DirsTurns.f k a0 a1 a2) (sutlerlaw07_DirsTurns.f (k + 1) a0 a1 a2) := by
  intro a0 a1 a2 k
  obtain ⟨ih0, ih1, ih2⟩ := sutlerlaw07_DirsTurns.mono_l k
  unfold sutlerlaw07_DirsTurns.f
  repeat' first
      | (with_reducible exact ih0 _ _ _ _ _)
      | (with_reducible exact ih1 _ _ _ _ _)
      | (with_reducible exact ih2 _ _ _ _)
      | (with_reducible exact sutlerbase_SameNames.mono _ _ _)
      | (with_reducible exact sutlerlaw07_works.mono _)
      | (with_reducible exact sutlerref07_Add.mono _ _ _ _)
      | (with_reducible exact sutlerref07_Look.mono _ _ _)
      | (with_reducible exact sutlerref07_Remove.mono _ _ _)
      | (with_reducible exact LeO.refl _)
      | (with_reducible exact LeO.none _)
      | (with_reducible refine LeO.ite ?_ ?_)
      | (with_reducible refine LeO.bind ?_ (fun _ => ?_))
      | exact ih0 _ _ _ _ _
      | exact ih1 _ _ _ _ _
      | exact ih2 _ _ _ _
      | exact sutlerbase_SameNames.mono _ _ _
      | exact sutlerlaw07_works.mono _
      | exact sutlerref07_Add.mono _ _ _ _
      | exact sutlerref07_Look.mono _ _ _
      | exact sutlerref07_Remove.mono _ _ _
      | exact LeO.none _
      | refine LeO.ite ?_ ?_
      | refine LeO.bind ?_ (fun _ => ?_)
set_option maxHeartbeats 8000000 in
set_option maxRecDepth 100000 in
theorem sutlerlaw07_DirsTurns.calls (k : Nat) (A0 : Option Addr) (c0 : Nat) (l0 : List (S37)) (a1 : ByteArray) (a2 : Int) (r : Bool) (w : World) (hr0 : Kd.C k37 w A0 l0.length l0) (hc0 : l0.length ≤ c0) (h : sutlerlaw07_DirsTurns.f k l0 a1 a2 = some r) :
    Calls Try.prog 4 #[.slice A0 l0.length c0, .string a1, .int .i64 a2] w fun e w' => e = .returned (.bool r) ∧ Below w.heap.size w w' := by
  have HR0 := Aside0.mk hr0
  have HC0 := Aside0.mk hc0
  clear hr0 hc0
  have HB := Aside0.mk (Below.refl w.heap.size w)
  have H : ((sutlerlaw07_names.f l0).bind fun t251 => ((dirs_Look.f t251 a1).bind fun bt254 => ((sutlerref07_Look.f k l0 a1).bind fun bt256 => ((dirs_Add.f t251 a1 a2).bind fun bt258 => ((sutlerref07_Add.f k l0 a1 a2).bind fun bt262 => ((dirs_Remove.f t251 a1).bind fun bt266 => ((sutlerref07_Remove.f k l0 a1).bind fun bt270 => (if bt254.1 = bt256.1 then (if bt254.2 = bt256.2 then ((sutlerbase_SameNames.f k bt258.1 bt262.1).bind fun t274 => (if t274 = true then (if bt258.2 = bt262.2 then ((sutlerbase_SameNames.f k bt266.1 bt270.1).bind fun t275 => (if t275 = true then (sutlerlaw07_DirsTurns.j0 k l0 t251 bt258.1 bt266.1 (bt266.2 != bt270.2)) else (sutlerlaw07_DirsTurns.j0 k l0 t251 bt258.1 bt266.1 true))) else (sutlerlaw07_DirsTurns.j0 k l0 t251 bt258.1 bt266.1 true)) else (sutlerlaw07_DirsTurns.j0 k l0 t251 bt258.1 bt266.1 true))) else (sutlerlaw07_DirsTurns.j0 k l0 t251 bt258.1 bt266.1 true)) else (sutlerlaw07_DirsTurns.j0 k l0 t251 bt258.1 bt266.1 true))))))))) = some r := h
  clear h
  replace H := Option.bind_eq_some_iff.mp H
  obtain ⟨t251, A40, H⟩ := H
  replace H : ((dirs_Look.f t251 a1).bind fun bt254 => ((sutlerref07_Look.f k l0 a1).bind fun bt256 => ((dirs_Add.f t251 a1 a2).bind fun bt258 => ((sutlerref07_Add.f k l0 a1 a2).bind fun bt262 => ((dirs_Remove.f t251 a1).bind fun bt266 => ((sutlerref07_Remove.f k l0 a1).bind fun bt270 => (if bt254.1 = bt256.1 then (if bt254.2 = bt256.2 then ((sutlerbase_SameNames.f k bt258.1 bt262.1).bind fun t274 => (if t274 = true then (if bt258.2 = bt262.2 then ((sutlerbase_SameNames.f k bt266.1 bt270.1).bind fun t275 => (if t275 = true then (sutlerlaw07_DirsTurns.j0 k l0 t251 bt258.1 bt266.1 (bt266.2 != bt270.2)) else (sutlerlaw07_DirsTurns.j0 k l0 t251 bt258.1 bt266.1 true))) else (sutlerlaw07_DirsTurns.j0 k l0 t251 bt258.1 bt266.1 true)) else (sutlerlaw07_DirsTurns.j0 k l0 t251 bt258.1 bt266.1 true))) else (sutlerlaw07_DirsTurns.j0 k l0 t251 bt258.1 bt266.1 true)) else (sutlerlaw07_DirsTurns.j0 k l0 t251 bt258.1 bt266.1 true)))))))) = some r := H
  have A4 := Aside0.mk A40
  clear A40
  replace H := Option.bind_eq_some_iff.mp H
  obtain ⟨⟨t254, t255⟩, A50, H⟩ := H
  replace H : ((sutlerref07_Look.f k l0 a1).bind fun bt256 => ((dirs_Add.f t251 a1 a2).bind fun bt258 => ((sutlerref07_Add.f k l0 a1 a2).bind fun bt262 => ((dirs_Remove.f t251 a1).bind fun bt266 => ((sutlerref07_Remove.f k l0 a1).bind fun bt270 => (if t254 = bt256.1 then (if t255 = bt256.2 then ((sutlerbase_SameNames.f k bt258.1 bt262.1).bind fun t274 => (if t274 = true then (if bt258.2 = bt262.2 then ((sutlerbase_SameNames.f k bt266.1 bt270.1).bind fun t275 => (if t275 = true then (sutlerlaw07_DirsTurns.j0 k l0 t251 bt258.1 bt266.1 (bt266.2 != bt270.2)) else (sutlerlaw07_DirsTurns.j0 k l0 t251 bt258.1 bt266.1 true))) else (sutlerlaw07_DirsTurns.j0 k l0 t251 bt258.1 bt266.1 true)) else (sutlerlaw07_DirsTurns.j0 k l0 t251 bt258.1 bt266.1 true))) else (sutlerlaw07_DirsTurns.j0 k l0 t251 bt258.1 bt266.1 true)) else (sutlerlaw07_DirsTurns.j0 k l0 t251 bt258.1 bt266.1 true))))))) = some r := H
  have A5 := Aside0.mk A50
  clear A50
  replace H := Option.bind_eq_some_iff.mp H
  obtain ⟨⟨t256, t257⟩, A60, H⟩ := H
  replace H : ((dirs_Add.f t251 a1 a2).bind fun bt258 => ((sutlerref07_Add.f k l0 a1 a2).bind fun bt262 => ((dirs_Remove.f t251 a1).bind fun bt266 => ((sutlerref07_Remove.f k l0 a1).bind fun bt270 => (if t254 = t256 then (if t255 = t257 then ((sutlerbase_SameNames.f k bt258.1 bt262.1).bind fun t274 => (if t274 = true then (if bt258.2 = bt262.2 then ((sutlerbase_SameNames.f k bt266.1 bt270.1).bind fun t275 => (if t275 = true then (sutlerlaw07_DirsTurns.j0 k l0 t251 bt258.1 bt266.1 (bt266.2 != bt270.2)) else (sutlerlaw07_DirsTurns.j0 k l0 t251 bt258.1 bt266.1 true))) else (sutlerlaw07_DirsTurns.j0 k l0 t251 bt258.1 bt266.1 true)) else (sutlerlaw07_DirsTurns.j0 k l0 t251 bt258.1 bt266.1 true))) else (sutlerlaw07_DirsTurns.j0 k l0 t251 bt258.1 bt266.1 true)) else (sutlerlaw07_DirsTurns.j0 k l0 t251 bt258.1 bt266.1 true)))))) = some r := H
  have A6 := Aside0.mk A60
  clear A60
  replace H := Option.bind_eq_some_iff.mp H
  obtain ⟨⟨t258, t259⟩, A70, H⟩ := H
  replace H : ((sutlerref07_Add.f k l0 a1 a2).bind fun bt262 => ((dirs_Remove.f t251 a1).bind fun bt266 => ((sutlerref07_Remove.f k l0 a1).bind fun bt270 => (if t254 = t256 then (if t255 = t257 then ((sutlerbase_SameNames.f k t258 bt262.1).bind fun t274 => (if t274 = true then (if t259 = bt262.2 then ((sutlerbase_SameNames.f k bt266.1 bt270.1).bind fun t275 => (if t275 = true then (sutlerlaw07_DirsTurns.j0 k l0 t251 t258 bt266.1 (bt266.2 != bt270.2)) else (sutlerlaw07_DirsTurns.j0 k l0 t251 t258 bt266.1 true))) else (sutlerlaw07_DirsTurns.j0 k l0 t251 t258 bt266.1 true)) else (sutlerlaw07_DirsTurns.j0 k l0 t251 t258 bt266.1 true))) else (sutlerlaw07_DirsTurns.j0 k l0 t251 t258 bt266.1 true)) else (sutlerlaw07_DirsTurns.j0 k l0 t251 t258 bt266.1 true))))) = some r := H
  have A7 := Aside0.mk A70
  clear A70
  replace H := Option.bind_eq_some_iff.mp H
  obtain ⟨⟨t262, t263⟩, A80, H⟩ := H
  replace H : ((dirs_Remove.f t251 a1).bind fun bt266 => ((sutlerref07_Remove.f k l0 a1).bind fun bt270 => (if t254 = t256 then (if t255 = t257 then ((sutlerbase_SameNames.f k t258 t262).bind fun t274 => (if t274 = true then (if t259 = t263 then ((sutlerbase_SameNames.f k bt266.1 bt270.1).bind fun t275 => (if t275 = true then (sutlerlaw07_DirsTurns.j0 k l0 t251 t258 bt266.1 (bt266.2 != bt270.2)) else (sutlerlaw07_DirsTurns.j0 k l0 t251 t258 bt266.1 true))) else (sutlerlaw07_DirsTurns.j0 k l0 t251 t258 bt266.1 true)) else (sutlerlaw07_DirsTurns.j0 k l0 t251 t258 bt266.1 true))) else (sutlerlaw07_DirsTurns.j0 k l0 t251 t258 bt266.1 true)) else (sutlerlaw07_DirsTurns.j0 k l0 t251 t258 bt266.1 true)))) = some r := H
  have A8 := Aside0.mk A80
  clear A80
  replace H := Option.bind_eq_some_iff.mp H
  obtain ⟨⟨t266, t267⟩, A90, H⟩ := H
  replace H : ((sutlerref07_Remove.f k l0 a1).bind fun bt270 => (if t254 = t256 then (if t255 = t257 then ((sutlerbase_SameNames.f k t258 t262).bind fun t274 => (if t274 = true then (if t259 = t263 then ((sutlerbase_SameNames.f k t266 bt270.1).bind fun t275 => (if t275 = true then (sutlerlaw07_DirsTurns.j0 k l0 t251 t258 t266 (t267 != bt270.2)) else (sutlerlaw07_DirsTurns.j0 k l0 t251 t258 t266 true))) else (sutlerlaw07_DirsTurns.j0 k l0 t251 t258 t266 true)) else (sutlerlaw07_DirsTurns.j0 k l0 t251 t258 t266 true))) else (sutlerlaw07_DirsTurns.j0 k l0 t251 t258 t266 true)) else (sutlerlaw07_DirsTurns.j0 k l0 t251 t258 t266 true))) = some r := H
  have A9 := Aside0.mk A90
  clear A90
  replace H := Option.bind_eq_some_iff.mp H
  obtain ⟨⟨t270, t271⟩, A100, H⟩ := H
  replace H : (if t254 = t256 then (if t255 = t257 then ((sutlerbase_SameNames.f k t258 t262).bind fun t274 => (if t274 = true then (if t259 = t263 then ((sutlerbase_SameNames.f k t266 t270).bind fun t275 => (if t275 = true then (sutlerlaw07_DirsTurns.j0 k l0 t251 t258 t266 (t267 != t271)) else (sutlerlaw07_DirsTurns.j0 k l0 t251 t258 t266 true))) else (sutlerlaw07_DirsTurns.j0 k l0 t251 t258 t266 true)) else (sutlerlaw07_DirsTurns.j0 k l0 t251 t258 t266 true))) else (sutlerlaw07_DirsTurns.j0 k l0 t251 t258 t266 true)) else (sutlerlaw07_DirsTurns.j0 k l0 t251 t258 t266 true)) = some r := H
  have A10 := Aside0.mk A100
  clear A100
  have HC11 := Aside0.mk H
  clear H
  go_enter Try.func4, Try.ntmps4
  go_upto_region 8 with (first | ((with_reducible refine gate_callee (f := 12) rfl ?_); refine goesL_ (some 23) rfl rfl Try.func12 (by kernel_rfl) rfl #[.slice A0 l0.length c0] rfl (by (try simp only [List.map_toArray, List.map_cons, List.map_nil]); first | done | rfl | (simp only [List.length_drop, List.length_take]; rfl)) ?_; (with_reducible refine (sutlerlaw07_names.calls _ _ l0 t251 _ ?side1 ?side2 A4.out).mono ?_); (case side1 => repeat (first | exact HR0.out | (with_reducible refine Kd.C_alloc ?_ _) | (with_reducible refine Kd.C_drewN ?_ _) | (with_reducible refine Kd.C_drew ?_))); (case side2 => exact HC0.out); rintro e w12 ⟨v252, rfl, ho0, hb⟩; refine ⟨_, rfl, ?_⟩; have n0_ := Aside0.mk (Kd.R_lower ho0 (below_size (by repeat (first | (with_reducible first | exact HB.out | apply below_alloc | apply pw_below_drewN | apply below_drew1) | exact HB.out)))); have n1_ := Aside0.mk (below_step (by repeat (first | (with_reducible first | exact HB.out | apply below_alloc | apply pw_below_drewN | apply below_drew1) | exact HB.out)) hb); clear HB; have HO253 := n0_; have HB := n1_; clear n0_ n1_; (try clear hb); (try clear hb2); (try clear hk); (try clear hi); (try clear ho0); obtain ⟨Ao13, co13, eo13⟩ := Kd.R_slice HO253.out; subst eo13) | ((with_reducible refine gate_callee (f := 13) rfl ?_); refine goesL_ (some 27) rfl rfl Try.func13 (by kernel_rfl) rfl #[.slice Ao13 t251.length co13, .string a1] rfl (by (try simp only [List.map_toArray, List.map_cons, List.map_nil]); first | done | rfl | (simp only [List.length_drop, List.length_take]; rfl)) ?_; (with_reducible refine (dirs_Look.calls _ _ t251 a1 t254 t255 _ ?side1 ?side2 A5.out).mono ?_); (case side1 => repeat (first | exact (Kd.R_reads' HO253.out).2.2 | (with_reducible refine Kd.C_alloc ?_ _) | (with_reducible refine Kd.C_drewN ?_ _) | (with_reducible refine Kd.C_drew ?_))); (case side2 => exact (Kd.R_reads' HO253.out).2.1); rintro e w14 ⟨rfl, hb⟩; refine ⟨_, rfl, ?_⟩; have n0_ := Aside0.mk (Kd.R_below (by (with_reducible repeat (first | apply Kd.R_alloc | apply Kd.R_drewN | apply Kd.R_drew)); exact HO253.out) hb); have n1_ := Aside0.mk (below_step (by repeat (first | (with_reducible first | exact HB.out | apply below_alloc | apply pw_below_drewN | apply below_drew1) | exact HB.out)) hb); clear HO253; clear HB; have HO253 := n0_; have HB := n1_; clear n0_ n1_; (try clear hb); (try clear hb2); (try clear hk); (try clear hi)) | ((with_reducible refine gate_callee (f := 14) rfl ?_); refine goesL_ (some 33) rfl rfl Try.func14 (by kernel_rfl) rfl #[.slice A0 l0.length c0, .string a1] rfl (by (try simp only [List.map_toArray, List.map_cons, List.map_nil]); first | done | rfl | (simp only [List.length_drop, List.length_take]; rfl)) ?_; (with_reducible refine (sutlerref07_Look.calls k _ _ l0 a1 t256 t257 _ ?side1 ?side2 A6.out).mono ?_); (case side1 => repeat (first | exact (Kd.C_below HR0.out HB.out) | (with_reducible refine Kd.C_alloc ?_ _) | (with_reducible refine Kd.C_drewN ?_ _) | (with_reducible refine Kd.C_drew ?_))); (case side2 => exact HC0.out); rintro e w' ⟨rfl, ⟨nd, rfl⟩⟩; refine ⟨_, rfl, ?_⟩) | ((with_reducible refine gate_callee (f := 10) rfl ?_); refine goesL_ (some 40) rfl rfl Try.func10 (by kernel_rfl) rfl #[.slice Ao13 t251.length co13, .string a1, .int .i64 a2] rfl (by (try simp only [List.map_toArray, List.map_cons, List.map_nil]); first | done | rfl | (simp only [List.length_drop, List.length_take]; rfl)) ?_; (with_reducible refine (dirs_Add.calls _ _ t251 a1 a2 t258 t259 _ ?side1 ?side2 A7.out).mono ?_); (case side1 => repeat (first | exact (Kd.R_reads' HO253.out).2.2 | (with_reducible refine Kd.C_alloc ?_ _) | (with_reducible refine Kd.C_drewN ?_ _) | (with_reducible refine Kd.C_drew ?_))); (case side2 => exact (Kd.R_reads' HO253.out).2.1); rintro e w15 ⟨v260, rfl, ho0, hb⟩; refine ⟨_, rfl, ?_⟩; have n0_ := Aside0.mk (Kd.R_elder' (by (with_reducible repeat (first | apply Kd.R_alloc | apply Kd.R_drewN | apply Kd.R_drew)); exact HO253.out) (Kd.R_base ho0) hb); have n1_ := Aside0.mk (Kd.R_lower (Kd.R_new' ho0 (Kd.R_lt (by (with_reducible repeat (first | apply Kd.R_alloc | apply Kd.R_drewN | apply Kd.R_drew)); exact HO253.out))) (below_size (by repeat (first | (with_reducible first | exact HB.out | apply below_alloc | apply pw_below_drewN | apply below_drew1) | exact HB.out)))); have n2_ := Aside0.mk (below_step (by repeat (first | (with_reducible first | exact HB.out | apply below_alloc | apply pw_below_drewN | apply below_drew1) | exact HB.out)) hb); clear HO253; clear HB; have HO253 := n0_; have HO261 := n1_; have HB := n2_; clear n0_ n1_ n2_; (try clear hb); (try clear hb2); (try clear hk); (try clear hi); (try clear ho0)) | ((with_reducible refine gate_callee (f := 15) rfl ?_); refine goesL_ (some 47) rfl rfl Try.func15 (by kernel_rfl) rfl #[.slice A0 l0.length c0, .string a1, .int .i64 a2] rfl (by (try simp only [List.map_toArray, List.map_cons, List.map_nil]); first | done | rfl | (simp only [List.length_drop, List.length_take]; rfl)) ?_; (with_reducible refine (sutlerref07_Add.calls k _ _ l0 a1 a2 t262 t263 _ ?side1 ?side2 A8.out).mono ?_); (case side1 => repeat (first | exact (Kd.C_below HR0.out HB.out) | (with_reducible refine Kd.C_alloc ?_ _) | (with_reducible refine Kd.C_drewN ?_ _) | (with_reducible refine Kd.C_drew ?_))); (case side2 => exact HC0.out); rintro e w16 ⟨v264, rfl, ho0, hb⟩; refine ⟨_, rfl, ?_⟩; have n0_ := Aside0.mk (Kd.R_elder' (by (with_reducible repeat (first | apply Kd.R_alloc | apply Kd.R_drewN | apply Kd.R_drew)); exact HO253.out) (Kd.R_base ho0) hb); have n1_ := Aside0.mk (Kd.R_elder' (by (with_reducible repeat (first | apply Kd.R_alloc | apply Kd.R_drewN | apply Kd.R_drew)); exact HO261.out) (Kd.R_base ho0) hb); have n2_ := Aside0.mk (Kd.R_lower (Kd.R_new' (Kd.R_new' ho0 (Kd.R_lt (by (with_reducible repeat (first | apply Kd.R_alloc | apply Kd.R_drewN | apply Kd.R_drew)); exact HO253.out))) (Kd.R_lt (by (with_reducible repeat (first | apply Kd.R_alloc | apply Kd.R_drewN | apply Kd.R_drew)); exact HO261.out))) (below_size (by repeat (first | (with_reducible first | exact HB.out | apply below_alloc | apply pw_below_drewN | apply below_drew1) | exact HB.out)))); have n3_ := Aside0.mk (below_step (by repeat (first | (with_reducible first | exact HB.out | apply below_alloc | apply pw_below_drewN | apply below_drew1) | exact HB.out)) hb); clear HO253; clear HO261; clear HB; have HO253 := n0_; have HO261 := n1_; have HO265 := n2_; have HB := n3_; clear n0_ n1_ n2_ n3_; (try clear hb); (try clear hb2); (try clear hk); (try clear hi); (try clear ho0)) | ((with_reducible refine gate_callee (f := 11) rfl ?_); refine goesL_ (some 53) rfl rfl Try.func11 (by kernel_rfl) rfl #[.slice Ao13 t251.length co13, .string a1] rfl (by (try simp only [List.map_toArray, List.map_cons, List.map_nil]); first | done | rfl | (simp only [List.length_drop, List.length_take]; rfl)) ?_; (with_reducible refine (dirs_Remove.calls _ _ t251 a1 t266 t267 _ ?side1 ?side2 A9.out).mono ?_); (case side1 => repeat (first | exact (Kd.R_reads' HO253.out).2.2 | (with_reducible refine Kd.C_alloc ?_ _) | (with_reducible refine Kd.C_drewN ?_ _) | (with_reducible refine Kd.C_drew ?_))); (case side2 => exact (Kd.R_reads' HO253.out).2.1); rintro e w17 ⟨v268, rfl, ho0, hb⟩; refine ⟨_, rfl, ?_⟩; have n0_ := Aside0.mk (Kd.R_elder' (by (with_reducible repeat (first | apply Kd.R_alloc | apply Kd.R_drewN | apply Kd.R_drew)); exact HO253.out) (Kd.R_base ho0) hb); have n1_ := Aside0.mk (Kd.R_elder' (by (with_reducible repeat (first | apply Kd.R_alloc | apply Kd.R_drewN | apply Kd.R_drew)); exact HO261.out) (Kd.R_base ho0) hb); have n2_ := Aside0.mk (Kd.R_elder' (by (with_reducible repeat (first | apply Kd.R_alloc | apply Kd.R_drewN | apply Kd.R_drew)); exact HO265.out) (Kd.R_base ho0) hb); have n3_ := Aside0.mk (Kd.R_lower (Kd.R_new' (Kd.R_new' (Kd.R_new' ho0 (Kd.R_lt (by (with_reducible repeat (first | apply Kd.R_alloc | apply Kd.R_drewN | apply Kd.R_drew)); exact HO253.out))) (Kd.R_lt (by (with_reducible repeat (first | apply Kd.R_alloc | apply Kd.R_drewN | apply Kd.R_drew)); exact HO261.out))) (Kd.R_lt (by (with_reducible repeat (first | apply Kd.R_alloc | apply Kd.R_drewN | apply Kd.R_drew)); exact HO265.out))) (below_size (by repeat (first | (with_reducible first | exact HB.out | apply below_alloc | apply pw_below_drewN | apply below_drew1) | exact HB.out)))); have n4_ := Aside0.mk (below_step (by repeat (first | (with_reducible first | exact HB.out | apply below_alloc | apply pw_below_drewN | apply below_drew1) | exact HB.out)) hb); clear HO253; clear HO261; clear HO265; clear HB; have HO253 := n0_; have HO261 := n1_; have HO265 := n2_; have HO269 := n3_; have HB := n4_; clear n0_ n1_ n2_ n3_ n4_; (try clear hb); (try clear hb2); (try clear hk); (try clear hi); (try clear ho0)) | ((with_reducible refine gate_callee (f := 16) rfl ?_); refine goesL_ (some 59) rfl rfl Try.func16 (by kernel_rfl) rfl #[.slice A0 l0.length c0, .string a1] rfl (by (try simp only [List.map_toArray, List.map_cons, List.map_nil]); first | done | rfl | (simp only [List.length_drop, List.length_take]; rfl)) ?_; (with_reducible refine (sutlerref07_Remove.calls k _ _ l0 a1 t270 t271 _ ?side1 ?side2 A10.out).mono ?_); (case side1 => repeat (first | exact (Kd.C_below HR0.out HB.out) | (with_reducible refine Kd.C_alloc ?_ _) | (with_reducible refine Kd.C_drewN ?_ _) | (with_reducible refine Kd.C_drew ?_))); (case side2 => exact HC0.out); rintro e w18 ⟨v272, rfl, ho0, hb⟩; refine ⟨_, rfl, ?_⟩; have n0_ := Aside0.mk (Kd.R_elder' (by (with_reducible repeat (first | apply Kd.R_alloc | apply Kd.R_drewN | apply Kd.R_drew)); exact HO253.out) (Kd.R_base ho0) hb); have n1_ := Aside0.mk (Kd.R_elder' (by (with_reducible repeat (first | apply Kd.R_alloc | apply Kd.R_drewN | apply Kd.R_drew)); exact HO261.out) (Kd.R_base ho0) hb); have n2_ := Aside0.mk (Kd.R_elder' (by (with_reducible repeat (first | apply Kd.R_alloc | apply Kd.R_drewN | apply Kd.R_drew)); exact HO265.out) (Kd.R_base ho0) hb); have n3_ := Aside0.mk (Kd.R_elder' (by (with_reducible repeat (first | apply Kd.R_alloc | apply Kd.R_drewN | apply Kd.R_drew)); exact HO269.out) (Kd.R_base ho0) hb); have n4_ := Aside0.mk (Kd.R_lower (Kd.R_new' (Kd.R_new' (Kd.R_new' (Kd.R_new' ho0 (Kd.R_lt (by (with_reducible repeat (first | apply Kd.R_alloc | apply Kd.R_drewN | apply Kd.R_drew)); exact HO253.out))) (Kd.R_lt (by (with_reducible repeat (first | apply Kd.R_alloc | apply Kd.R_drewN | apply Kd.R_drew)); exact HO261.out))) (Kd.R_lt (by (with_reducible repeat (first | apply Kd.R_alloc | apply Kd.R_drewN | apply Kd.R_drew)); exact HO265.out))) (Kd.R_lt (by (with_reducible repeat (first | apply Kd.R_alloc | apply Kd.R_drewN | apply Kd.R_drew)); exact HO269.out))) (below_size (by repeat (first | (with_reducible first | exact HB.out | apply below_alloc | apply pw_below_drewN | apply below_drew1) | exact HB.out)))); have n5_ := Aside0.mk (below_step (by repeat (first | (with_reducible first | exact HB.out | apply below_alloc | apply pw_below_drewN | apply below_drew1) | exact HB.out)) hb); clear HO253; clear HO261; clear HO265; clear HO269; clear HB; have HO253 := n0_; have HO261 := n1_; have HO265 := n2_; have HO269 := n3_; have HO273 := n4_; have HB := n5_; clear n0_ n1_ n2_ n3_ n4_ n5_; (try clear hb); (try clear hb2); (try clear hk); (try clear hi); (try clear ho0)))
  (try simp only [Act.put, List.setIfInBounds_toArray, List.set_cons_zero, List.set_cons_succ])
  go_cut [91] (fun v91 wc => ∃ (kq : Nat) (x91_10 : Bool), v91 = .bool x91_10 ∧ Aside0 (sutlerlaw07_DirsTurns.j0 kq l0 t251 t258 t266 x91_10 = some r) ∧ Aside0 (kq ≤ k) ∧ Aside0 (Kd.R k37 37 wc w.heap.size (fun k_ => some k_ ≠ (v260 : Value).ownBlock ∧ some k_ ≠ (v268 : Value).ownBlock) (.slice Ao13 t251.length co13) t251) ∧ Aside0 (Kd.R k37 37 wc w.heap.size (fun k_ => some k_ ≠ ((.slice Ao13 t251.length co13) : Value).ownBlock ∧ some k_ ≠ (v268 : Value).ownBlock) v260 t258) ∧ Aside0 (Kd.R k37 37 wc w.heap.size (fun k_ => some k_ ≠ ((.slice Ao13 t251.length co13) : Value).ownBlock ∧ some k_ ≠ (v260 : Value).ownBlock) v268 t266) ∧ Aside0 (Below w.heap.size w wc))
  case first =>
    have H := HC11.out
    clear HC11
    by_cases c19 : t254 = t256
    · rw [if_pos c19] at H
      have c19b0 : (t254 == t256) = true := beq_iff_eq.mpr c19
      have c19b1 : (t254 != t256) = false := bne_eq_false_iff_eq.mpr c19
      clear c19
      (first | rw [c19b0] | (simp only [i64_w, i32_w]; rw [c19b0]) | skip)
      by_cases c20 : t255 = t257
      · rw [if_pos c20] at H
        have c20b0 : (t255 == t257) = true := beq_iff_eq.mpr c20
        have c20b1 : (t255 != t257) = false := bne_eq_false_iff_eq.mpr c20
        clear c20
        replace H := Option.bind_eq_some_iff.mp H
        obtain ⟨t274, A210, H⟩ := H
        replace H : (if t274 = true then (if t259 = t263 then ((sutlerbase_SameNames.f k t266 t270).bind fun t275 => (if t275 = true then (sutlerlaw07_DirsTurns.j0 k l0 t251 t258 t266 (t267 != t271)) else (sutlerlaw07_DirsTurns.j0 k l0 t251 t258 t266 true))) else (sutlerlaw07_DirsTurns.j0 k l0 t251 t258 t266 true)) else (sutlerlaw07_DirsTurns.j0 k l0 t251 t258 t266 true)) = some r := H
        have A21 := Aside0.mk A210
        clear A210
        by_cases c22 : t274 = true
        · subst c22
          have H1 : (if t259 = t263 then ((sutlerbase_SameNames.f k t266 t270).bind fun t275 => (if t275 = true then (sutlerlaw07_DirsTurns.j0 k l0 t251 t258 t266 (t267 != t271)) else (sutlerlaw07_DirsTurns.j0 k l0 t251 t258 t266 true))) else (sutlerlaw07_DirsTurns.j0 k l0 t251 t258 t266 true)) = some r := by rw [if_pos rfl] at H; exact H
          clear H
          have H := H1
          clear H1
          by_cases c23 : t259 = t263
          · rw [if_pos c23] at H
            have c23b0 : (t259 == t263) = true := beq_iff_eq.mpr c23
            have c23b1 : (t259 != t263) = false := bne_eq_false_iff_eq.mpr c23
            clear c23
            replace H := Option.bind_eq_some_iff.mp H
            obtain ⟨t275, A240, H⟩ := H
            replace H : (if t275 = true then (sutlerlaw07_DirsTurns.j0 k l0 t251 t258 t266 (t267 != t271)) else (sutlerlaw07_DirsTurns.j0 k l0 t251 t258 t266 true)) = some r := H
            have A24 := Aside0.mk A240
            clear A240
            by_cases c25 : t275 = true
            · subst c25
              have H1 : (sutlerlaw07_DirsTurns.j0 k l0 t251 t258 t266 (t267 != t271)) = some r := by rw [if_pos rfl] at H; exact H
              clear H
              have H := H1
              clear H1
              have H' := Aside0.mk H
              clear H
              obtain ⟨Ao26, co26, eo26⟩ := Kd.R_slice HO261.out
              subst eo26
              obtain ⟨Ao27, co27, eo27⟩ := Kd.R_slice HO265.out
              subst eo27
              go_wp2_with (first | (go_at_call 17; (with_reducible refine (sutlerbase_SameNames.calls k _ _ t258 _ _ t262 true _ ?side1 ?side2 ?side3 ?side4 A21.out).mono ?_); (case side1 => repeat (first | exact (Kd.R_reads' HO261.out).2.2 | (with_reducible refine Kd.C_alloc ?_ _) | (with_reducible refine Kd.C_drewN ?_ _) | (with_reducible refine Kd.C_drew ?_))); (case side2 => exact (Kd.R_reads' HO261.out).2.1); (case side3 => repeat (first | exact (Kd.R_reads' HO265.out).2.2 | (with_reducible refine Kd.C_alloc ?_ _) | (with_reducible refine Kd.C_drewN ?_ _) | (with_reducible refine Kd.C_drew ?_))); (case side4 => exact (Kd.R_reads' HO265.out).2.1); rintro e w' ⟨rfl, ⟨nd, rfl⟩⟩; obtain ⟨Ao28, co28, eo28⟩ := Kd.R_slice HO269.out; subst eo28; obtain ⟨Ao29, co29, eo29⟩ := Kd.R_slice HO273.out; subst eo29) | (go_at_call 17; (with_reducible refine (sutlerbase_SameNames.calls k _ _ t266 _ _ t270 true _ ?side1 ?side2 ?side3 ?side4 A24.out).mono ?_); (case side1 => repeat (first | exact (Kd.R_reads' HO269.out).2.2 | (with_reducible refine Kd.C_alloc ?_ _) | (with_reducible refine Kd.C_drewN ?_ _) | (with_reducible refine Kd.C_drew ?_))); (case side2 => exact (Kd.R_reads' HO269.out).2.1); (case side3 => repeat (first | exact (Kd.R_reads' HO273.out).2.2 | (with_reducible refine Kd.C_alloc ?_ _) | (with_reducible refine Kd.C_drewN ?_ _) | (with_reducible refine Kd.C_drew ?_))); (case side4 => exact (Kd.R_reads' HO273.out).2.1); rintro e w' ⟨rfl, ⟨nd, rfl⟩⟩))
              go_meet
              case rel => exact ⟨_, ((t267 != t271)), (by first | rfl | (simp; done) | (simp [*]; done)), H', ⟨by first | omega | exact Nat.le_refl _⟩, ⟨by (with_reducible repeat (first | apply Kd.R_alloc | apply Kd.R_drewN | apply Kd.R_drew)); exact Kd.R_mono HO253.out (fun _ hk => ⟨hk.1.1.1.2, hk.1.2⟩)⟩, ⟨by (with_reducible repeat (first | apply Kd.R_alloc | apply Kd.R_drewN | apply Kd.R_drew)); exact Kd.R_mono HO261.out (fun _ hk => ⟨hk.1.1.1.2, hk.1.2⟩)⟩, ⟨by (with_reducible repeat (first | apply Kd.R_alloc | apply Kd.R_drewN | apply Kd.R_drew)); exact Kd.R_mono HO269.out (fun _ hk => ⟨hk.1.1.1.2, hk.1.1.2⟩)⟩, ⟨by repeat (first | (with_reducible first | exact HB.out | apply below_alloc | apply pw_below_drewN | apply below_drew1) | exact HB.out)⟩⟩
            · replace c25 := Bool.eq_false_iff.mpr c25
              subst c25
              have H1 : (sutlerlaw07_DirsTurns.j0 k l0 t251 t258 t266 true) = some r := by rw [if_neg (show ¬ (false = true) by decide)] at H; exact H
              clear H
              have H := H1
              clear H1
              have H' := Aside0.mk H
              clear H
              obtain ⟨Ao30, co30, eo30⟩ := Kd.R_slice HO261.out
              subst eo30
              obtain ⟨Ao31, co31, eo31⟩ := Kd.R_slice HO265.out
              subst eo31
              go_wp2_with (first | (go_at_call 17; (with_reducible refine (sutlerbase_SameNames.calls k _ _ t258 _ _ t262 true _ ?side1 ?side2 ?side3 ?side4 A21.out).mono ?_); (case side1 => repeat (first | exact (Kd.R_reads' HO261.out).2.2 | (with_reducible refine Kd.C_alloc ?_ _) | (with_reducible refine Kd.C_drewN ?_ _) | (with_reducible refine Kd.C_drew ?_))); (case side2 => exact (Kd.R_reads' HO261.out).2.1); (case side3 => repeat (first | exact (Kd.R_reads' HO265.out).2.2 | (with_reducible refine Kd.C_alloc ?_ _) | (with_reducible refine Kd.C_drewN ?_ _) | (with_reducible refine Kd.C_drew ?_))); (case side4 => exact (Kd.R_reads' HO265.out).2.1); rintro e w' ⟨rfl, ⟨nd, rfl⟩⟩; obtain ⟨Ao32, co32, eo32⟩ := Kd.R_slice HO269.out; subst eo32; obtain ⟨Ao33, co33, eo33⟩ := Kd.R_slice HO273.out; subst eo33) | (go_at_call 17; (with_reducible refine (sutlerbase_SameNames.calls k _ _ t266 _ _ t270 false _ ?side1 ?side2 ?side3 ?side4 A24.out).mono ?_); (case side1 => repeat (first | exact (Kd.R_reads' HO269.out).2.2 | (with_reducible refine Kd.C_alloc ?_ _) | (with_reducible refine Kd.C_drewN ?_ _) | (with_reducible refine Kd.C_drew ?_))); (case side2 => exact (Kd.R_reads' HO269.out).2.1); (case side3 => repeat (first | exact (Kd.R_reads' HO273.out).2.2 | (with_reducible refine Kd.C_alloc ?_ _) | (with_reducible refine Kd.C_drewN ?_ _) | (with_reducible refine Kd.C_drew ?_))); (case side4 => exact (Kd.R_reads' HO273.out).2.1); rintro e w' ⟨rfl, ⟨nd, rfl⟩⟩))
              go_meet
              case rel => exact ⟨_, (true), (by first | rfl | (simp; done) | (simp [*]; done)), H', ⟨by first | omega | exact Nat.le_refl _⟩, ⟨by (with_reducible repeat (first | apply Kd.R_alloc | apply Kd.R_drewN | apply Kd.R_drew)); exact Kd.R_mono HO253.out (fun _ hk => ⟨hk.1.1.1.2, hk.1.2⟩)⟩, ⟨by (with_reducible repeat (first | apply Kd.R_alloc | apply Kd.R_drewN | apply Kd.R_drew)); exact Kd.R_mono HO261.out (fun _ hk => ⟨hk.1.1.1.2, hk.1.2⟩)⟩, ⟨by (with_reducible repeat (first | apply Kd.R_alloc | apply Kd.R_drewN | apply Kd.R_drew)); exact Kd.R_mono HO269.out (fun _ hk => ⟨hk.1.1.1.2, hk.1.1.2⟩)⟩, ⟨by repeat (first | (with_reducible first | exact HB.out | apply below_alloc | apply pw_below_drewN | apply below_drew1) | exact HB.out)⟩⟩
          · rw [if_neg c23] at H
            have c23b0 : (t259 == t263) = false := beq_eq_false_iff_ne.mpr c23
            have c23b1 : (t259 != t263) = true := bne_iff_ne.mpr c23
            have H' := Aside0.mk H
            clear H
            obtain ⟨Ao34, co34, eo34⟩ := Kd.R_slice HO261.out
            subst eo34
            obtain ⟨Ao35, co35, eo35⟩ := Kd.R_slice HO265.out
            subst eo35
            go_wp2_with (first | (go_at_call 17; (with_reducible refine (sutlerbase_SameNames.calls k _ _ t258 _ _ t262 true _ ?side1 ?side2 ?side3 ?side4 A21.out).mono ?_); (case side1 => repeat (first | exact (Kd.R_reads' HO261.out).2.2 | (with_reducible refine Kd.C_alloc ?_ _) | (with_reducible refine Kd.C_drewN ?_ _) | (with_reducible refine Kd.C_drew ?_))); (case side2 => exact (Kd.R_reads' HO261.out).2.1); (case side3 => repeat (first | exact (Kd.R_reads' HO265.out).2.2 | (with_reducible refine Kd.C_alloc ?_ _) | (with_reducible refine Kd.C_drewN ?_ _) | (with_reducible refine Kd.C_drew ?_))); (case side4 => exact (Kd.R_reads' HO265.out).2.1); rintro e w' ⟨rfl, ⟨nd, rfl⟩⟩))
            go_meet
            case rel => exact ⟨_, (true), (by first | rfl | (simp; done) | (simp [*]; done)), H', ⟨by first | omega | exact Nat.le_refl _⟩, ⟨by (with_reducible repeat (first | apply Kd.R_alloc | apply Kd.R_drewN | apply Kd.R_drew)); exact Kd.R_mono HO253.out (fun _ hk => ⟨hk.1.1.1.2, hk.1.2⟩)⟩, ⟨by (with_reducible repeat (first | apply Kd.R_alloc | apply Kd.R_drewN | apply Kd.R_drew)); exact Kd.R_mono HO261.out (fun _ hk => ⟨hk.1.1.1.2, hk.1.2⟩)⟩, ⟨by (with_reducible repeat (first | apply Kd.R_alloc | apply Kd.R_drewN | apply Kd.R_drew)); exact Kd.R_mono HO269.out (fun _ hk => ⟨hk.1.1.1.2, hk.1.1.2⟩)⟩, ⟨by repeat (first | (with_reducible first | exact HB.out | apply below_alloc | apply pw_below_drewN | apply below_drew1) | exact HB.out)⟩⟩
        · replace c22 := Bool.eq_false_iff.mpr c22
          subst c22
          have H1 : (sutlerlaw07_DirsTurns.j0 k l0 t251 t258 t266 true) = some r := by rw [if_neg (show ¬ (false = true) by decide)] at H; exact H
          clear H
          have H := H1
          clear H1
          have H' := Aside0.mk H
          clear H
          obtain ⟨Ao36, co36, eo36⟩ := Kd.R_slice HO261.out
          subst eo36
          obtain ⟨Ao37, co37, eo37⟩ := Kd.R_slice HO265.out
          subst eo37
          go_wp2_with (first | (go_at_call 17; (with_reducible refine (sutlerbase_SameNames.calls k _ _ t258 _ _ t262 false _ ?side1 ?side2 ?side3 ?side4 A21.out).mono ?_); (case side1 => repeat (first | exact (Kd.R_reads' HO261.out).2.2 | (with_reducible refine Kd.C_alloc ?_ _) | (with_reducible refine Kd.C_drewN ?_ _) | (with_reducible refine Kd.C_drew ?_))); (case side2 => exact (Kd.R_reads' HO261.out).2.1); (case side3 => repeat (first | exact (Kd.R_reads' HO265.out).2.2 | (with_reducible refine Kd.C_alloc ?_ _) | (with_reducible refine Kd.C_drewN ?_ _) | (with_reducible refine Kd.C_drew ?_))); (case side4 => exact (Kd.R_reads' HO265.out).2.1); rintro e w' ⟨rfl, ⟨nd, rfl⟩⟩))
          go_meet
          case rel => exact ⟨_, (true), (by first | rfl | (simp; done) | (simp [*]; done)), H', ⟨by first | omega | exact Nat.le_refl _⟩, ⟨by (with_reducible repeat (first | apply Kd.R_alloc | apply Kd.R_drewN | apply Kd.R_drew)); exact Kd.R_mono HO253.out (fun _ hk => ⟨hk.1.1.1.2, hk.1.2⟩)⟩, ⟨by (with_reducible repeat (first | apply Kd.R_alloc | apply Kd.R_drewN | apply Kd.R_drew)); exact Kd.R_mono HO261.out (fun _ hk => ⟨hk.1.1.1.2, hk.1.2⟩)⟩, ⟨by (with_reducible repeat (first | apply Kd.R_alloc | apply Kd.R_drewN | apply Kd.R_drew)); exact Kd.R_mono HO269.out (fun _ hk => ⟨hk.1.1.1.2, hk.1.1.2⟩)⟩, ⟨by repeat (first | (with_reducible first | exact HB.out | apply below_alloc | apply pw_below_drewN | apply below_drew1) | exact HB.out)⟩⟩
      · rw [if_neg c20] at H
        have c20b0 : (t255 == t257) = false := beq_eq_false_iff_ne.mpr c20
        have c20b1 : (t255 != t257) = true := bne_iff_ne.mpr c20
        have H' := Aside0.mk H
        clear H
        go_wp2
        go_meet
        case rel => exact ⟨_, (true), (by first | rfl | (simp; done) | (simp [*]; done)), H', ⟨by first | omega | exact Nat.le_refl _⟩, ⟨by (with_reducible repeat (first | apply Kd.R_alloc | apply Kd.R_drewN | apply Kd.R_drew)); exact Kd.R_mono HO253.out (fun _ hk => ⟨hk.1.1.1.2, hk.1.2⟩)⟩, ⟨by (with_reducible repeat (first | apply Kd.R_alloc | apply Kd.R_drewN | apply Kd.R_drew)); exact Kd.R_mono HO261.out (fun _ hk => ⟨hk.1.1.1.2, hk.1.2⟩)⟩, ⟨by (with_reducible repeat (first | apply Kd.R_alloc | apply Kd.R_drewN | apply Kd.R_drew)); exact Kd.R_mono HO269.out (fun _ hk => ⟨hk.1.1.1.2, hk.1.1.2⟩)⟩, ⟨by repeat (first | (with_reducible first | exact HB.out | apply below_alloc | apply pw_below_drewN | apply below_drew1) | exact HB.out)⟩⟩
    · rw [if_neg c19] at H
      have c19b0 : (t254 == t256) = false := beq_eq_false_iff_ne.mpr c19
      have c19b1 : (t254 != t256) = true := bne_iff_ne.mpr c19
      (first | rw [c19b0] | (simp only [i64_w, i32_w]; rw [c19b0]) | skip)
      have H' := Aside0.mk H
      clear H
      go_wp2
      go_meet
      case rel => exact ⟨_, (true), (by first | rfl | (simp; done) | (simp [*]; done)), H', ⟨by first | omega | exact Nat.le_refl _⟩, ⟨by (with_reducible repeat (first | apply Kd.R_alloc | apply Kd.R_drewN | apply Kd.R_drew)); exact Kd.R_mono HO253.out (fun _ hk => ⟨hk.1.1.1.2, hk.1.2⟩)⟩, ⟨by (with_reducible repeat (first | apply Kd.R_alloc | apply Kd.R_drewN | apply Kd.R_drew)); exact Kd.R_mono HO261.out (fun _ hk => ⟨hk.1.1.1.2, hk.1.2⟩)⟩, ⟨by (with_reducible repeat (first | apply Kd.R_alloc | apply Kd.R_drewN | apply Kd.R_drew)); exact Kd.R_mono HO269.out (fun _ hk => ⟨hk.1.1.1.2, hk.1.1.2⟩)⟩, ⟨by repeat (first | (with_reducible first | exact HB.out | apply below_alloc | apply pw_below_drewN | apply below_drew1) | exact HB.out)⟩⟩
  case rest =>
    clear HC11
    try clear c1
    try clear c2
    try clear p2
    try clear c4
    try clear c10
    try clear c11
    try clear c12
    try clear c13
    try clear c14
    try clear c15
    try clear c16
    try clear c19
    try clear c19b0
    try clear c19b1
    try clear c20
    try clear c20b0
    try clear c20b1
    try clear c22
    try clear c23
    try clear c23b0
    try clear c23b1
    try clear c25
    obtain ⟨kq, x91_10, rfl, HA, HJ10, HO_7, HO_12, HO_16, HB⟩ := hcut
    cases kq with
    | zero => exact absurd HA.out (by simp [sutlerlaw07_DirsTurns.j0])
    | succ kj10 =>
      have H := HA.out
      clear HA
      simp only [sutlerlaw07_DirsTurns.j0] at H
      by_cases c38 : x91_10 = true
      · subst c38
        have H1 : (some false) = some r := by rw [if_pos rfl] at H; exact H
        clear H
        have H := H1
        clear H1
        obtain rfl := Option.some.inj H
        go_wp2
        go_ret
        exact ⟨by first | rfl | (simp [errW_none, errW_some] <;> rfl) | (simp [*, errW_none, errW_some] <;> rfl), by repeat (first | (with_reducible first | exact HB.out | apply below_alloc | apply pw_below_drewN | apply below_drew1) | exact HB.out)⟩
      · replace c38 := Bool.eq_false_iff.mpr c38
        subst c38
        have H1 : (sutlerlaw07_DirsTurns.l0 kj10 l0 t251 t258 t266 0) = some r := by rw [if_neg (show ¬ (false = true) by decide)] at H; exact H
        clear H
        have H := H1
        clear H1
        have H' := Aside0.mk H
        clear H
        go_wp2
        go_loopg [20] kj10 (fun kq v20 w' => ∃ (x12_2 : List (S37)) (x20_2 : Int), v20 = .int .i64 x20_2 ∧ Aside0 (sutlerlaw07_DirsTurns.l0 kq l0 t251 x12_2 t266 x20_2 = some r) ∧ Aside0 (kq ≤ kj10) ∧ Aside0 (Kd.R k37 37 w' w.heap.size (fun k_ => some k_ ≠ (v260 : Value).ownBlock ∧ some k_ ≠ (v268 : Value).ownBlock) (.slice Ao13 t251.length co13) t251) ∧ Aside0 (Kd.R k37 37 w' w.heap.size (fun k_ => some k_ ≠ ((.slice Ao13 t251.length co13) : Value).ownBlock ∧ some k_ ≠ (v268 : Value).ownBlock) v260 x12_2) ∧ Aside0 (Kd.R k37 37 w' w.heap.size (fun k_ => some k_ ≠ ((.slice Ao13 t251.length co13) : Value).ownBlock ∧ some k_ ≠ (v260 : Value).ownBlock) v268 t266) ∧ Aside0 (Below w.heap.size w w'))
        case atStart => exact ⟨(t258), (0), (by first | rfl | (simp; done) | (simp [*]; done)), H', ⟨Nat.le_refl _⟩, ⟨by (with_reducible repeat (first | apply Kd.R_alloc | apply Kd.R_drewN | apply Kd.R_drew)); exact HO_7.out⟩, ⟨by (with_reducible repeat (first | apply Kd.R_alloc | apply Kd.R_drewN | apply Kd.R_drew)); exact HO_12.out⟩, ⟨by (with_reducible repeat (first | apply Kd.R_alloc | apply Kd.R_drewN | apply Kd.R_drew)); exact HO_16.out⟩, ⟨by repeat (first | (with_reducible first | exact HB.out | apply below_alloc | apply pw_below_drewN | apply below_drew1) | exact HB.out)⟩⟩
        case round =>
          clear H'
          try clear c1
          try clear c2
          try clear p2
          try clear c3
          try clear c4
          try clear c10
          try clear c11
          try clear c12
          try clear c13
          try clear c14
          try clear c15
          try clear c16
          try clear c19
          try clear c19b0
          try clear c19b1
          try clear c20
          try clear c20b0
          try clear c20b1
          try clear c22
          try clear c23
          try clear c23b0
          try clear c23b1
          try clear c25
          try clear c38
          try clear p2
          obtain ⟨x12_2, x20_2, rfl, HA, HK2, HO_7, HO_12, HO_16, HB⟩ := hrel
          cases gk with
          | zero => exact absurd HA.out (by simp [sutlerlaw07_DirsTurns.l0])
          | succ k2 =>
            have H := HA.out
            clear HA
            simp only [sutlerlaw07_DirsTurns.l0] at H
            by_cases c39 : x20_2 < (x12_2.length : Int)
            · rw [if_pos c39] at H
              have c39b0 : decide (x20_2 < (x12_2.length : Int)) = true := decide_eq_true c39
              clear c39
              by_cases c40 : 0 ≤ x20_2
              · rw [if_pos c40] at H
                have c40b0 : decide (0 ≤ x20_2) = true := decide_eq_true c40
                clear c40
                obtain ⟨y276, hy276⟩ : ∃ y_ : List (S37), y_ = (x12_2.set (x20_2 : Int).toNat (⟨(⟨#[115, 112, 111, 105, 108, 116]⟩ : ByteArray), (rd_T37 x12_2 x20_2).f1⟩ : S37)) := ⟨_, rfl⟩
                replace H : (sutlerlaw07_DirsTurns.l0 k2 l0 t251 y276 t266 (wrap64 (x20_2 + 1))) = some r := by first | (rw [hy276]; with_reducible exact H) | (have H2_ := (Option.bind_some _ _).symm.trans H; rw [hy276]; with_reducible exact H2_) | (have H2_ := (Option.bind_some _ _).symm.trans H; with_reducible exact H2_) | with_reducible exact H | (rw [hy276]; exact H) | exact H
                have Ny276 := Aside0.mk hy276
                clear hy276
                have H' := Aside0.mk H
                clear H
                obtain ⟨Ao42, co42, eo42⟩ := Kd.R_slice HO_12.out
                subst eo42
                have p41 : 0 ≤ (x20_2 : Int) := of_decide_eq_true (by first | (with_reducible assumption) | assumption)
                have q41 : (x20_2 : Int) < ((x12_2.length : Int) : Int) := of_decide_eq_true (by first | (with_reducible assumption) | assumption)
                obtain ⟨go41, co41, eo41, gb41, gl41, cl41, HG41⟩ := Kd.R_form HO_12.out (by omega)
                (first | cases eo41 | (injection eo41 with ea_ en_ ec_; (first | subst ea_ | (injection ea_ with ea_; subst ea_)); subst ec_; clear en_))
                have GB41 := Aside0.mk gb41
                have GG41 := Aside0.mk HG41
                clear gb41 gl41 HG41
                obtain ⟨ce41, hcl41, hM41, hcc41, hfr41⟩ := Kd.R_elem HO_12.out z37 (x20_2 : Int) p41 q41
                obtain rfl := k37_openM hM41
                have hx41_0 : wr.cell? ⟨go41, (x20_2 : Int).toNat * 2, none⟩ = some (.string ((rd_T37 x12_2 x20_2).f0)) := hcc41 0 _ rfl
                have hx41_1 : wr.cell? ⟨go41, (x20_2 : Int).toNat * 2 + 1, none⟩ = some (.int .i64 ((rd_T37 x12_2 x20_2).f1)) := hcc41 1 _ rfl
                have hf41_0 : wr.frozen? ⟨go41, (x20_2 : Int).toNat * 2, none⟩ = false := hfr41 0
                have hf41_1 : wr.frozen? ⟨go41, (x20_2 : Int).toNat * 2 + 1, none⟩ = false := hfr41 1
                clear hcl41 hcc41 hfr41 hM41
                replace p41 := eq_true p41
                replace q41 := eq_true q41
                have HX43 := Aside0.mk (show Kd.R k37 37 wr w.heap.size (fun k_ => some k_ ≠ (.slice Ao13 t251.length co13 : Value).ownBlock ∧ some k_ ≠ (v268 : Value).ownBlock) (.slice (some ⟨go41, 0, none⟩) x12_2.length co42) x12_2 from (by (with_reducible repeat (first | apply Kd.R_alloc | apply Kd.R_drewN | apply Kd.R_drew)); exact HO_12.out))
                obtain ⟨ce43, hcl43, hM43, hcc43, hfr43⟩ := Kd.R_elem HX43.out z37 (x20_2 : Int) (of_decide_eq_true (by first | (with_reducible assumption) | assumption)) (by have h_ : (x20_2 : Int) < ((x12_2.length : Int) : Int) := of_decide_eq_true (by first | (with_reducible assumption) | assumption); first | exact h_ | (have e_ := (Kd.R_reads' HO_12.out).1; omega) | simpa using h_)
                obtain rfl := k37_openM hM43
                have HP43 := Kd.R_seg HX43.out (x20_2 : Int) (of_decide_eq_true (by first | (with_reducible assumption) | assumption)) (by have h_ : (x20_2 : Int) < ((x12_2.length : Int) : Int) := of_decide_eq_true (by first | (with_reducible assumption) | assumption); first | exact h_ | (have e_ := (Kd.R_reads' HO_12.out).1; omega) | simpa using h_) (seg := [.string (⟨#[115, 112, 111, 105, 108, 116]⟩ : ByteArray)]) (j := 0) hcl43 hcc43 (show 1 ≤ 2 from by decide) (x' := (⟨(⟨#[115, 112, 111, 105, 108, 116]⟩ : ByteArray), (rd_T37 x12_2 x20_2).f1⟩ : S37)) (k37_mkM _ _ _ (⟨(⟨#[115, 112, 111, 105, 108, 116]⟩ : ByteArray), (rd_T37 x12_2 x20_2).f1⟩ : S37) ) (fun _ hk => hk)
                have hx43_0 := hcc43 0 _ rfl
                (try simp only [show (k37).sz = 2 from rfl, Nat.mul_one, Nat.add_zero] at hx43_0)
                have hf43_0 := hfr43 0
                (try simp only [show (k37).sz = 2 from rfl, Nat.mul_one, Nat.add_zero] at hf43_0)
                clear hcl43 hcc43 hfr43 hM43
                go_wp2_with (first | ((with_reducible refine gate_store (t := 9) (p := 101) rfl ?_); refine store_event (t := 9) (p := 101) (v := ?vo_w44) (w1 := (wr.setCell ⟨go41, (x20_2 : Int).toNat * 2, none⟩ (.string (⟨#[115, 112, 111, 105, 108, 116]⟩ : ByteArray)))) ?hg ?ho ?hn ?hr ?_; (case ho => rfl); (case hg => rfl); (case hn => rfl); (case hr => first | (go_simp; done) | (go_simp; rfl)); intro w44 hw; have hg : wr.grownBy w44 (some go41) := (by rw [hw]; exact HP43.2); have hp_ : Kd.R k37 37 w44 w.heap.size (fun k_ => some k_ ≠ (.slice Ao13 t251.length co13 : Value).ownBlock ∧ some k_ ≠ (v268 : Value).ownBlock) (.slice (some ⟨go41, 0, none⟩) x12_2.length co42) y276 := (by rw [hw, Ny276.out]; exact HP43.1); clear HP43; have n0_ := Aside0.mk (Kd.R_after (v := (.slice (some ⟨go41, 0, none⟩) x12_2.length co42)) (v1 := (.slice (some ⟨go41, 0, none⟩) x12_2.length co42)) (ok := (fun k_ => some k_ ≠ (v268 : Value).ownBlock)) (by (with_reducible repeat (first | apply Kd.R_alloc | apply Kd.R_drewN | apply Kd.R_drew)); exact Kd.R_mono HO_7.out (fun _ hk => ⟨hk.2, hk.1⟩)) hg (.inl rfl)); have n1_ := Aside0.mk (hp_); have n2_ := Aside0.mk (Kd.R_after (v := (.slice (some ⟨go41, 0, none⟩) x12_2.length co42)) (v1 := (.slice (some ⟨go41, 0, none⟩) x12_2.length co42)) (ok := (fun k_ => some k_ ≠ (.slice Ao13 t251.length co13 : Value).ownBlock)) (by (with_reducible repeat (first | apply Kd.R_alloc | apply Kd.R_drewN | apply Kd.R_drew)); exact HO_16.out) hg (.inl rfl)); have n3_ := Aside0.mk ((by rw [hw]; exact below_set (HB.out) GB41.out : Below w.heap.size w w44)); clear HO_7; clear HO_12; clear HO_16; clear HB; have HO_7 := n0_; have HO_12 := n1_; have HO_16 := n2_; have HB := n3_; clear n0_ n1_ n2_ n3_; clear hg hw hp_))
                go_roundg k2
                case measure => have := HJ10.out; have := HK2.out; omega
                case rel => exact ⟨(y276), (wrap64 (x20_2 + 1)), (by first | rfl | (simp; done) | (simp [*]; done)), H', ⟨by have := HJ10.out; have := HK2.out; omega⟩, ⟨by (with_reducible repeat (first | apply Kd.R_alloc | apply Kd.R_drewN | apply Kd.R_drew)); exact Kd.R_mono HO_7.out (fun _ hk => ⟨hk.2, hk.1⟩)⟩, ⟨by (with_reducible repeat (first | apply Kd.R_alloc | apply Kd.R_drewN | apply Kd.R_drew)); exact HO_12.out⟩, ⟨by (with_reducible repeat (first | apply Kd.R_alloc | apply Kd.R_drewN | apply Kd.R_drew)); exact HO_16.out⟩, ⟨by repeat (first | (with_reducible first | exact HB.out | apply below_alloc | apply pw_below_drewN | apply below_drew1) | exact HB.out)⟩⟩
              · rw [if_neg c40] at H
                exact absurd H (by simp)
            · rw [if_neg c39] at H
              have c39b0 : decide (x20_2 < (x12_2.length : Int)) = false := decide_eq_false c39
              clear c39
              have H' := Aside0.mk H
              clear H
              obtain ⟨Ao45, co45, eo45⟩ := Kd.R_slice HO_12.out
              subst eo45
              go_wp2
              go_loopg [21] k2 (fun kq v21 w' => ∃ (x16_3 : List (S37)) (x21_3 : Int), v21 = .int .i64 x21_3 ∧ Aside0 (sutlerlaw07_DirsTurns.l1 kq l0 t251 x16_3 x21_3 = some r) ∧ Aside0 (kq ≤ k2) ∧ Aside0 (Kd.R k37 37 w' w.heap.size (fun k_ => some k_ ≠ (v268 : Value).ownBlock) (.slice Ao13 t251.length co13) t251) ∧ Aside0 (Kd.R k37 37 w' w.heap.size (fun k_ => some k_ ≠ ((.slice Ao13 t251.length co13) : Value).ownBlock) v268 x16_3) ∧ Aside0 (Below w.heap.size w w'))
              case atStart => exact ⟨(t266), (0), (by first | rfl | (simp; done) | (simp [*]; done)), H', ⟨Nat.le_refl _⟩, ⟨by (with_reducible repeat (first | apply Kd.R_alloc | apply Kd.R_drewN | apply Kd.R_drew)); exact Kd.R_mono HO_7.out (fun _ hk => hk.2)⟩, ⟨by (with_reducible repeat (first | apply Kd.R_alloc | apply Kd.R_drewN | apply Kd.R_drew)); exact Kd.R_mono HO_16.out (fun _ hk => hk.1)⟩, ⟨by repeat (first | (with_reducible first | exact HB.out | apply below_alloc | apply pw_below_drewN | apply below_drew1) | exact HB.out)⟩⟩
              case round =>
                clear H'
                try clear c1
                try clear c2
                try clear p2
                try clear c3
                try clear c4
                try clear p4
                try clear q4
                try clear hx4
                try clear hf4
                try clear p6
                try clear c10
                try clear c11
                try clear c12
                try clear c13
                try clear c14
                try clear c15
                try clear c16
                try clear c19
                try clear c19b0
                try clear c19b1
                try clear c20
                try clear c20b0
                try clear c20b1
                try clear c22
                try clear c23
                try clear c23b0
                try clear c23b1
                try clear c25
                try clear c38
                try clear c39
                try clear c39b0
                try clear c40
                try clear c40b0
                try clear c41
                try clear p41
                try clear q41
                try clear hx41
                try clear hf41
                try clear c43
                try clear hx43
                try clear hf43
                try clear hx41_0
                try clear hx41_1
                try clear hx43_0
                try clear p2
                try clear p41
                try clear q41
                obtain ⟨x16_3, x21_3, rfl, HA, HK3, HO_7, HO_16, HB⟩ := hrel
                cases gk with
                | zero => exact absurd HA.out (by simp [sutlerlaw07_DirsTurns.l1])
                | succ k3 =>
                  have H := HA.out
                  clear HA
                  simp only [sutlerlaw07_DirsTurns.l1] at H
                  by_cases c46 : x21_3 < (x16_3.length : Int)
                  · rw [if_pos c46] at H
                    have c46b0 : decide (x21_3 < (x16_3.length : Int)) = true := decide_eq_true c46
                    clear c46
                    by_cases c47 : 0 ≤ x21_3
                    · rw [if_pos c47] at H
                      have c47b0 : decide (0 ≤ x21_3) = true := decide_eq_true c47
                      clear c47
                      obtain ⟨y277, hy277⟩ : ∃ y_ : List (S37), y_ = (x16_3.set (x21_3 : Int).toNat (⟨(⟨#[115, 112, 111, 105, 108, 116]⟩ : ByteArray), (rd_T37 x16_3 x21_3).f1⟩ : S37)) := ⟨_, rfl⟩
                      replace H : (sutlerlaw07_DirsTurns.l1 k3 l0 t251 y277 (wrap64 (x21_3 + 1))) = some r := by first | (rw [hy277]; with_reducible exact H) | (have H2_ := (Option.bind_some _ _).symm.trans H; rw [hy277]; with_reducible exact H2_) | (have H2_ := (Option.bind_some _ _).symm.trans H; with_reducible exact H2_) | with_reducible exact H | (rw [hy277]; exact H) | exact H
                      have Ny277 := Aside0.mk hy277
                      clear hy277
                      have H' := Aside0.mk H
                      clear H
                      obtain ⟨Ao49, co49, eo49⟩ := Kd.R_slice HO_16.out
                      subst eo49
                      have p48 : 0 ≤ (x21_3 : Int) := of_decide_eq_true (by first | (with_reducible assumption) | assumption)
                      have q48 : (x21_3 : Int) < ((x16_3.length : Int) : Int) := of_decide_eq_true (by first | (with_reducible assumption) | assumption)
                      obtain ⟨go48, co48, eo48, gb48, gl48, cl48, HG48⟩ := Kd.R_form HO_16.out (by omega)
                      (first | cases eo48 | (injection eo48 with ea_ en_ ec_; (first | subst ea_ | (injection ea_ with ea_; subst ea_)); subst ec_; clear en_))
                      have GB48 := Aside0.mk gb48
                      have GG48 := Aside0.mk HG48
                      clear gb48 gl48 HG48
                      obtain ⟨ce48, hcl48, hM48, hcc48, hfr48⟩ := Kd.R_elem HO_16.out z37 (x21_3 : Int) p48 q48
                      obtain rfl := k37_openM hM48
                      have hx48_0 : wr.cell? ⟨go48, (x21_3 : Int).toNat * 2, none⟩ = some (.string ((rd_T37 x16_3 x21_3).f0)) := hcc48 0 _ rfl
                      have hx48_1 : wr.cell? ⟨go48, (x21_3 : Int).toNat * 2 + 1, none⟩ = some (.int .i64 ((rd_T37 x16_3 x21_3).f1)) := hcc48 1 _ rfl
                      have hf48_0 : wr.frozen? ⟨go48, (x21_3 : Int).toNat * 2, none⟩ = false := hfr48 0
                      have hf48_1 : wr.frozen? ⟨go48, (x21_3 : Int).toNat * 2 + 1, none⟩ = false := hfr48 1
                      clear hcl48 hcc48 hfr48 hM48
                      replace p48 := eq_true p48
                      replace q48 := eq_true q48
                      have HX50 := Aside0.mk (show Kd.R k37 37 wr w.heap.size (fun k_ => some k_ ≠ (.slice Ao13 t251.length co13 : Value).ownBlock) (.slice (some ⟨go48, 0, none⟩) x16_3.length co49) x16_3 from (by (with_reducible repeat (first | apply Kd.R_alloc | apply Kd.R_drewN | apply Kd.R_drew)); exact HO_16.out))
                      obtain ⟨ce50, hcl50, hM50, hcc50, hfr50⟩ := Kd.R_elem HX50.out z37 (x21_3 : Int) (of_decide_eq_true (by first | (with_reducible assumption) | assumption)) (by have h_ : (x21_3 : Int) < ((x16_3.length : Int) : Int) := of_decide_eq_true (by first | (with_reducible assumption) | assumption); first | exact h_ | (have e_ := (Kd.R_reads' HO_16.out).1; omega) | simpa using h_)
                      obtain rfl := k37_openM hM50
                      have HP50 := Kd.R_seg HX50.out (x21_3 : Int) (of_decide_eq_true (by first | (with_reducible assumption) | assumption)) (by have h_ : (x21_3 : Int) < ((x16_3.length : Int) : Int) := of_decide_eq_true (by first | (with_reducible assumption) | assumption); first | exact h_ | (have e_ := (Kd.R_reads' HO_16.out).1; omega) | simpa using h_) (seg := [.string (⟨#[115, 112, 111, 105, 108, 116]⟩ : ByteArray)]) (j := 0) hcl50 hcc50 (show 1 ≤ 2 from by decide) (x' := (⟨(⟨#[115, 112, 111, 105, 108, 116]⟩ : ByteArray), (rd_T37 x16_3 x21_3).f1⟩ : S37)) (k37_mkM _ _ _ (⟨(⟨#[115, 112, 111, 105, 108, 116]⟩ : ByteArray), (rd_T37 x16_3 x21_3).f1⟩ : S37) ) (fun _ hk => hk)
                      have hx50_0 := hcc50 0 _ rfl
                      (try simp only [show (k37).sz = 2 from rfl, Nat.mul_one, Nat.add_zero] at hx50_0)
                      have hf50_0 := hfr50 0
                      (try simp only [show (k37).sz = 2 from rfl, Nat.mul_one, Nat.add_zero] at hf50_0)
                      clear hcl50 hcc50 hfr50 hM50
                      go_wp2_with (first | ((with_reducible refine gate_store (t := 9) (p := 111) rfl ?_); refine store_event (t := 9) (p := 111) (v := ?vo_w51) (w1 := (wr.setCell ⟨go48, (x21_3 : Int).toNat * 2, none⟩ (.string (⟨#[115, 112, 111, 105, 108, 116]⟩ : ByteArray)))) ?hg ?ho ?hn ?hr ?_; (case ho => rfl); (case hg => rfl); (case hn => rfl); (case hr => first | (go_simp; done) | (go_simp; rfl)); intro w51 hw; have hg : wr.grownBy w51 (some go48) := (by rw [hw]; exact HP50.2); have hp_ : Kd.R k37 37 w51 w.heap.size (fun k_ => some k_ ≠ (.slice Ao13 t251.length co13 : Value).ownBlock) (.slice (some ⟨go48, 0, none⟩) x16_3.length co49) y277 := (by rw [hw, Ny277.out]; exact HP50.1); clear HP50; have n0_ := Aside0.mk (Kd.R_after (v := (.slice (some ⟨go48, 0, none⟩) x16_3.length co49)) (v1 := (.slice (some ⟨go48, 0, none⟩) x16_3.length co49)) (ok := (fun _ => True)) (by (with_reducible repeat (first | apply Kd.R_alloc | apply Kd.R_drewN | apply Kd.R_drew)); exact Kd.R_mono HO_7.out (fun _ hk => ⟨trivial, hk⟩)) hg (.inl rfl)); have n1_ := Aside0.mk (hp_); have n2_ := Aside0.mk ((by rw [hw]; exact below_set (HB.out) GB48.out : Below w.heap.size w w51)); clear HO_7; clear HO_16; clear HB; have HO_7 := n0_; have HO_16 := n1_; have HB := n2_; clear n0_ n1_ n2_; clear hg hw hp_))
                      go_roundg k3
                      case measure => have := HJ10.out; have := HK2.out; have := HK3.out; omega
                      case rel => exact ⟨(y277), (wrap64 (x21_3 + 1)), (by first | rfl | (simp; done) | (simp [*]; done)), H', ⟨by have := HJ10.out; have := HK2.out; have := HK3.out; omega⟩, ⟨by (with_reducible repeat (first | apply Kd.R_alloc | apply Kd.R_drewN | apply Kd.R_drew)); exact Kd.R_mono HO_7.out (fun _ hk => hk.2)⟩, ⟨by (with_reducible repeat (first | apply Kd.R_alloc | apply Kd.R_drewN | apply Kd.R_drew)); exact HO_16.out⟩, ⟨by repeat (first | (with_reducible first | exact HB.out | apply below_alloc | apply pw_below_drewN | apply below_drew1) | exact HB.out)⟩⟩
                    · rw [if_neg c47] at H
                      exact absurd H (by simp)
                  · rw [if_neg c46] at H
                    have c46b0 : decide (x21_3 < (x16_3.length : Int)) = false := decide_eq_false c46
                    clear c46
                    replace H := Option.bind_eq_some_iff.mp H
                    obtain ⟨t278, A520, H⟩ := H
                    replace H : (if t278 = true then ((sutlerlaw07_works.f k3).bind fun t279 => (some t279)) else (some false)) = some r := H
                    have A52 := Aside0.mk A520
                    clear A520
                    by_cases c53 : t278 = true
                    · subst c53
                      have H1 : ((sutlerlaw07_works.f k3).bind fun t279 => (some t279)) = some r := by rw [if_pos rfl] at H; exact H
                      clear H
                      have H := H1
                      clear H1
                      replace H := Option.bind_eq_some_iff.mp H
                      obtain ⟨t279, A540, H⟩ := H
                      replace H : (some t279) = some r := H
                      have A54 := Aside0.mk A540
                      clear A540
                      obtain rfl := Option.some.inj H
                      obtain ⟨Ao55, co55, eo55⟩ := Kd.R_slice HO_16.out
                      subst eo55
                      go_wp2_with (first | ((with_reducible refine gate_callee (f := 17) rfl ?_); refine goesL_ (some 114) rfl rfl Try.func17 (by kernel_rfl) rfl #[.slice Ao13 t251.length co13, .slice A0 l0.length c0] rfl (by (try simp only [List.map_toArray, List.map_cons, List.map_nil]); first | done | rfl | (simp only [List.length_drop, List.length_take]; rfl)) ?_; (with_reducible refine (sutlerbase_SameNames.calls k3 _ _ t251 _ _ l0 true _ ?side1 ?side2 ?side3 ?side4 A52.out).mono ?_); (case side1 => repeat (first | exact (Kd.R_reads' HO_7.out).2.2 | (with_reducible refine Kd.C_alloc ?_ _) | (with_reducible refine Kd.C_drewN ?_ _) | (with_reducible refine Kd.C_drew ?_))); (case side2 => exact (Kd.R_reads' HO_7.out).2.1); (case side3 => repeat (first | exact (Kd.C_below HR0.out HB.out) | (with_reducible refine Kd.C_alloc ?_ _) | (with_reducible refine Kd.C_drewN ?_ _) | (with_reducible refine Kd.C_drew ?_))); (case side4 => exact HC0.out); rintro e w' ⟨rfl, ⟨nd, rfl⟩⟩; refine ⟨_, rfl, ?_⟩) | (go_at_call 8; (with_reducible refine (sutlerlaw07_works.calls k3  t279 _ A54.out).mono ?_); rintro e w56 ⟨rfl, hb⟩; have n0_ := Aside0.mk (Kd.R_below (by (with_reducible repeat (first | apply Kd.R_alloc | apply Kd.R_drewN | apply Kd.R_drew)); exact HO_7.out) hb); have n1_ := Aside0.mk (Kd.R_below (by (with_reducible repeat (first | apply Kd.R_alloc | apply Kd.R_drewN | apply Kd.R_drew)); exact HO_16.out) hb); have n2_ := Aside0.mk (below_step (by repeat (first | (with_reducible first | exact HB.out | apply below_alloc | apply pw_below_drewN | apply below_drew1) | exact HB.out)) hb); clear HO_7; clear HO_16; clear HB; have HO_7 := n0_; have HO_16 := n1_; have HB := n2_; clear n0_ n1_ n2_; (try clear hb); (try clear hb2); (try clear hk); (try clear hi)))
                      go_ret
                      exact ⟨by first | rfl | (simp [errW_none, errW_some] <;> rfl) | (simp [*, errW_none, errW_some] <;> rfl), by repeat (first | (with_reducible first | exact HB.out | apply below_alloc | apply pw_below_drewN | apply below_drew1) | exact HB.out)⟩
                    · replace c53 := Bool.eq_false_iff.mpr c53
                      subst c53
                      have H1 : (some false) = some r := by rw [if_neg (show ¬ (false = true) by decide)] at H; exact H
                      clear H
                      have H := H1
                      clear H1
                      obtain rfl := Option.some.inj H
                      obtain ⟨Ao57, co57, eo57⟩ := Kd.R_slice HO_16.out
                      subst eo57
                      go_wp2_with (first | ((with_reducible refine gate_callee (f := 17) rfl ?_); refine goesL_ (some 114) rfl rfl Try.func17 (by kernel_rfl) rfl #[.slice Ao13 t251.length co13, .slice A0 l0.length c0] rfl (by (try simp only [List.map_toArray, List.map_cons, List.map_nil]); first | done | rfl | (simp only [List.length_drop, List.length_take]; rfl)) ?_; (with_reducible refine (sutlerbase_SameNames.calls k3 _ _ t251 _ _ l0 false _ ?side1 ?side2 ?side3 ?side4 A52.out).mono ?_); (case side1 => repeat (first | exact (Kd.R_reads' HO_7.out).2.2 | (with_reducible refine Kd.C_alloc ?_ _) | (with_reducible refine Kd.C_drewN ?_ _) | (with_reducible refine Kd.C_drew ?_))); (case side2 => exact (Kd.R_reads' HO_7.out).2.1); (case side3 => repeat (first | exact (Kd.C_below HR0.out HB.out) | (with_reducible refine Kd.C_alloc ?_ _) | (with_reducible refine Kd.C_drewN ?_ _) | (with_reducible refine Kd.C_drew ?_))); (case side4 => exact HC0.out); rintro e w' ⟨rfl, ⟨nd, rfl⟩⟩; refine ⟨_, rfl, ?_⟩))
                      go_ret
                      exact ⟨by first | rfl | (simp [errW_none, errW_some] <;> rfl) | (simp [*, errW_none, errW_some] <;> rfl), by repeat (first | (with_reducible first | exact HB.out | apply below_alloc | apply pw_below_drewN | apply below_drew1) | exact HB.out)⟩

end Go.Proofs.Ytcklpecjcebekaa.PAll
end
section
/- Names looked for, added and removed: the program and the reference come to the same (DirsTurns), in plain Lean. -/
namespace Go.Proofs.Ytcklpecjcebekaa.PAll
open Go.RowKit Go.Lib Go.Proofs.YtcklpecjcebekaaW.PrintWords Go.Proofs.YtcklpecjcebekaaW.PrintLast Go.Proofs.YtcklpecjcebekaaW.PrintMore Go.Proofs.Ytcklpecjcebekaa Go.Proofs.Ytcklpecjcebekaa.Sp
set_option linter.unusedVariables false
set_option linter.unusedSimpArgs false

theorem works_all : Ev sutlerlaw07_works.f true := Ev.of (g := sutlerlaw07_works.f) sutlerlaw07_works.mono (k := 10) works_ten
theorem names_f (l : List S37) (hl : l.length < 5864062014805) : sutlerlaw07_names.f l = some l := by
  simp [sutlerlaw07_names.f, hl]

theorem slot_facts (l : List S37) (s : ByteArray) : slot l s ≤ l.length ∧ (∀ j, j < slot l s → Op.bytesLess s.toList (rd_T37 l (j : Int)).f0.toList = false) ∧ (slot l s < l.length → Op.bytesLess s.toList (rd_T37 l (slot l s : Int)).f0.toList = true) := by
  unfold slot
  dsimp only
  rcases idx_facts (fun x => Op.bytesLess s.toList x.f0.toList) l with ⟨h, hf⟩ | ⟨m, h, hm, hn, hf⟩
  · rw [h, if_pos (by omega)]
    exact ⟨Nat.le_refl _, hf, fun h => absurd h (by omega)⟩
  · rw [h, if_neg (by omega), Int.toNat_natCast]
    exact ⟨by omega, hf, fun _ => hn⟩
theorem add_ref_l0 (l : List S37) (s : ByteArray) (n : Int) (hl : l.length < 256) : ∀ (d i : Nat), slot l s - i = d → i ≤ slot l s →
    Ev (fun k => sutlerref07_Add.l0 k l s n (i : Int)) (l.take (slot l s) ++ ⟨s, n⟩ :: l.drop (slot l s), 0) := by
  obtain ⟨h1, h2, h3⟩ := slot_facts l s
  intro d
  induction d with
  | zero =>
    intro i hd hi
    have hi' : i = slot l s := by omega
    rw [← hi'] at h1 h2 h3 ⊢
    refine Ev.round (fun _ => some _) (fun k => ?_) (Ev.now _)
    simp only [sutlerref07_Add.l0]
    have e1 : (l.take i).length ≤ 256 := by rw [List.length_take]; omega
    have e2 : (l.drop i).length ≤ 256 := by rw [List.length_drop]; omega
    have f1 : ([] : List S37).length + (l.take i).length < 5864062014805 := by rw [List.length_nil]; omega
    have f2 : (([] : List S37) ++ l.take i).length + [(⟨s, n⟩ : S37)].length < 5864062014805 := by rw [List.nil_append, List.length_singleton]; omega
    have f3 : ((([] : List S37) ++ l.take i) ++ [(⟨s, n⟩ : S37)]).length + (l.drop i).length < 5864062014805 := by rw [List.nil_append, List.length_append, List.length_singleton]; omega
    have g : ((([] : List S37) ++ l.take i) ++ [(⟨s, n⟩ : S37)]) ++ l.drop i = l.take i ++ ⟨s, n⟩ :: l.drop i := by simp
    by_cases hlt : i < l.length
    · rw [if_pos (by omega), if_pos (by omega), if_pos (h3 hlt)]
      simp only [Option.bind_some, Int.toNat_natCast]
      rw [if_pos (by omega)]
      simp only [Option.bind_some, if_pos f1, if_pos f2, if_pos f3, g]
    · rw [if_neg (by omega)]
      simp only [Option.bind_some, Int.toNat_natCast]
      rw [if_pos (by omega), if_pos (by omega)]
      simp only [Option.bind_some, if_pos f1, if_pos f2, if_pos f3, g]
  | succ d ih =>
    intro i hd hi
    have hlt : i < l.length := by omega
    refine Ev.round (fun k => sutlerref07_Add.l0 k l s n (wrap64 ((i : Int) + 1))) (fun k => ?_) ?_
    · simp only [sutlerref07_Add.l0]
      rw [if_pos (by omega), if_pos (by omega), if_neg (by rw [h2 i (by omega)]; simp)]
    · rw [wrap_up hlt (by omega)]; exact ih (i + 1) (by omega) (by omega)
theorem inode_ref (n : Int) : sutlerref07_inode.f n = some (decide (0 ≤ n ∧ n ≤ 65535)) := by
  unfold sutlerref07_inode.f
  by_cases h : n ≥ 0
  · rw [if_pos h]; simp [show 0 ≤ n from h]
  · rw [if_neg h]; simp [show ¬ 0 ≤ n from h]
theorem add_both (l : List S37) (s : ByteArray) (n : Int) (hl : l.length ≤ 9223372036854775807) (hs : s.size ≤ 9223372036854775807) : ∃ r, dirs_Add.f l s n = some r ∧ Ev (fun k => sutlerref07_Add.f k l s n) r ∧ (r.2 ≠ 0 → r.1 = []) ∧ r.1.length ≤ 256 ∧ (r.2 = 0 → isName s.data.toList = true ∧ 0 ≤ n ∧ n ≤ 65535 ∧ idxL (named s) l < 0 ∧ l.length < 256 ∧ r.1 = l.take (slot l s) ++ ⟨s, n⟩ :: l.drop (slot l s)) := by
  have e : (fun x : S37 => x.f0.toList == s.toList) = named s := rfl
  have hB := look_ref l s hl hs
  have hev : ∀ r, Ev (fun k => (if (lookL l s).2 = 71 then (some (([] : List (S37)), (lookL l s).2)) else ((sutlerref07_inode.f n).bind fun t183 => (if t183 = true then (if (lookL l s).2 = 0 then (some (([] : List (S37)), 6)) else (if (l.length : Int) ≥ 256 then (some (([] : List (S37)), 4)) else (sutlerref07_Add.l0 k l s n 0))) else (some (([] : List (S37)), 2)))))) r → Ev (fun k => sutlerref07_Add.f k l s n) r := fun r h => Ev.bind hB h
  unfold dirs_Add.f
  simp only [e]
  by_cases c1 : isName s.data.toList = false
  · refine ⟨([], 71), by rw [if_pos c1], hev _ ?_, fun _ => rfl, by simp, fun h => by simp at h⟩
    have : lookL l s = (0, 71) := by unfold lookL; rw [if_pos c1]
    rw [this]; simpa using Ev.now _
  rw [if_neg c1]
  have hne : (lookL l s).2 ≠ 71 := by
    unfold lookL; rw [if_neg c1]
    split <;> simp
  rw [inode_ref] at hev
  simp only [if_neg hne, Option.bind_some] at hev
  by_cases c2 : ¬ (0 ≤ n ∧ n ≤ 65535)
  · refine ⟨([], 2), by rw [if_pos c2], hev _ ?_, fun _ => rfl, by simp, fun h => by simp at h⟩
    rw [decide_eq_false c2]; simpa using Ev.now _
  rw [if_neg c2]
  have c2' := Decidable.not_not.1 c2
  rw [decide_eq_true c2'] at hev
  simp only [if_true] at hev
  by_cases c3 : ¬ idxL (named s) l < 0
  · refine ⟨([], 6), by rw [if_pos c3], hev _ ?_, fun _ => rfl, by simp, fun h => by simp at h⟩
    have : (lookL l s).2 = 0 := by unfold lookL; rw [if_neg c1, if_neg c3]
    simp only [this, if_true]; exact Ev.now _
  rw [if_neg c3]
  have c3' := Decidable.not_not.1 c3
  have h5 : ¬ (lookL l s).2 = 0 := by unfold lookL; rw [if_neg c1, if_pos c3']; decide
  simp only [if_neg h5] at hev
  by_cases c4 : 256 ≤ l.length
  · refine ⟨([], 4), by rw [if_pos c4], hev _ ?_, fun _ => rfl, by simp, fun h => by simp at h⟩
    simp only [if_pos (show (l.length : Int) ≥ 256 by omega)]; exact Ev.now _
  rw [if_neg c4]
  simp only [if_neg (show ¬ (l.length : Int) ≥ 256 by omega)] at hev
  have hlen := ins_length l s n
  refine ⟨_, rfl, hev _ (add_ref_l0 l s n (by omega) _ 0 rfl (by omega)), fun h => absurd rfl h, ?_, fun _ => ⟨by simpa using c1, c2'.1, c2'.2, c3', by omega, rfl⟩⟩
  show (ins l s n).length ≤ 256
  omega

theorem rem_ref_l0 (l : List S37) (s : ByteArray) (hl : l.length < 5864062014805) (m : Nat) (hm : m < l.length) (hn : named s (rd_T37 l (m : Int)) = true) (hf : ∀ j, j < m → named s (rd_T37 l (j : Int)) = false) : ∀ (d i : Nat), m - i = d → i ≤ m →
    Ev (fun k => sutlerref07_Remove.l0 k l s (i : Int)) (l.take m ++ l.drop (m + 1), 0) := by
  intro d
  induction d with
  | zero =>
    intro i hd hi
    have hi' : i = m := by omega
    subst hi'
    refine Ev.round (fun _ => some _) (fun k => ?_) (Ev.now _)
    simp only [sutlerref07_Remove.l0]
    rw [if_pos (by omega), if_pos (by omega), if_pos (by simpa [named] using hn), wrap_up hm (by omega)]
    have e1 : (l.take i).length = i := by rw [List.length_take]; omega
    have e2 : (l.drop (i + 1)).length = l.length - (i + 1) := by rw [List.length_drop]
    have f1 : ([] : List S37).length + (l.take i).length < 5864062014805 := by rw [List.length_nil]; omega
    have f2 : (l.take i).length + (l.drop (i + 1)).length < 5864062014805 := by omega
    simp only [Option.bind_some, Int.toNat_natCast]
    rw [if_pos (by omega)]
    simp only [Option.bind_some, if_pos f1]
    rw [if_pos (by omega), if_pos (by omega)]
    simp only [Option.bind_some, List.nil_append]
    rw [if_pos f2]
  | succ d ih =>
    intro i hd hi
    have hlt : i < l.length := by omega
    refine Ev.round (fun k => sutlerref07_Remove.l0 k l s (wrap64 ((i : Int) + 1))) (fun k => ?_) ?_
    · simp only [sutlerref07_Remove.l0]
      rw [if_pos (by omega), if_pos (by omega), if_neg (by simpa [named] using hf i (by omega))]
    · rw [wrap_up hlt (by omega)]; exact ih (i + 1) (by omega) (by omega)
theorem rem_both (l : List S37) (s : ByteArray) (hl : l.length < 5864062014805) (hs : s.size ≤ 9223372036854775807) : ∃ r, dirs_Remove.f l s = some r ∧ Ev (fun k => sutlerref07_Remove.f k l s) r ∧ r.1.length ≤ l.length := by
  have e : (fun x : S37 => x.f0.toList == s.toList) = named s := rfl
  have hB := look_ref l s (by omega) hs
  have hev : ∀ r, Ev (fun k => (if (lookL l s).2 = 0 then (sutlerref07_Remove.l0 k l s 0) else (some (([] : List (S37)), (lookL l s).2)))) r → Ev (fun k => sutlerref07_Remove.f k l s) r := fun r h => Ev.bind hB h
  unfold dirs_Remove.f
  simp only [e]
  by_cases c1 : isName s.data.toList = false
  · refine ⟨([], 71), by rw [if_pos c1], hev _ ?_, by simp⟩
    have : lookL l s = (0, 71) := by unfold lookL; rw [if_pos c1]
    rw [this]; simpa using Ev.now _
  rw [if_neg c1]
  rcases idx_facts (named s) l with ⟨h, hf⟩ | ⟨m, h, hm, hn, hf⟩
  · refine ⟨([], 5), by rw [h, if_pos (by omega)], hev _ ?_, by simp⟩
    have : lookL l s = (0, 5) := by unfold lookL; rw [if_neg c1, h, if_pos (by omega)]
    rw [this]; simpa using Ev.now _
  · refine ⟨(l.take m ++ l.drop (m + 1), 0), by rw [h, if_neg (by omega), if_neg (by omega)]; rfl, hev _ ?_, by simp; omega⟩
    have : (lookL l s).2 = 0 := by unfold lookL; rw [if_neg c1, h, if_neg (by omega)]
    simp only [this, if_true]
    exact rem_ref_l0 l s hl m hm hn hf _ 0 rfl (by omega)

theorem spoil_l1 (l : List S37) (hl : l.length ≤ 9223372036854775807) : ∀ (d i : Nat) (x : List S37), x.length ≤ 9223372036854775807 → x.length - i = d → i ≤ x.length → Ev (fun k => sutlerlaw07_DirsTurns.l1 k l l x (i : Int)) true := by
  intro d
  induction d with
  | zero =>
    intro i x hx hd hi
    refine Ev.round (fun k => (sutlerbase_SameNames.f k l l).bind fun t278 => (if t278 = true then ((sutlerlaw07_works.f k).bind fun t279 => (some t279)) else (some false))) (fun k => ?_) ?_
    · simp only [sutlerlaw07_DirsTurns.l1]; rw [if_neg (by omega)]
    · refine Ev.bind (same_names l hl) ?_
      simp only [if_true]
      exact Ev.bind works_all (Ev.now _)
  | succ d ih =>
    intro i x hx hd hi
    have hlt : i < x.length := by omega
    refine Ev.round (fun k => sutlerlaw07_DirsTurns.l1 k l l (x.set i (⟨(⟨#[115, 112, 111, 105, 108, 116]⟩ : ByteArray), (rd_T37 x i).f1⟩ : S37)) (wrap64 ((i : Int) + 1))) (fun k => ?_) ?_
    · simp only [sutlerlaw07_DirsTurns.l1]
      rw [if_pos (by omega), if_pos (by omega), Int.toNat_natCast]
    · rw [wrap_up hlt hx]
      exact ih (i + 1) _ (by rw [List.length_set]; exact hx) (by rw [List.length_set]; omega) (by rw [List.length_set]; omega)
theorem spoil_l0 (l : List S37) (hl : l.length ≤ 9223372036854775807) (y : List S37) (hy : y.length ≤ 9223372036854775807) : ∀ (d i : Nat) (x : List S37), x.length ≤ 9223372036854775807 → x.length - i = d → i ≤ x.length → Ev (fun k => sutlerlaw07_DirsTurns.l0 k l l x y (i : Int)) true := by
  intro d
  induction d with
  | zero =>
    intro i x hx hd hi
    refine Ev.round (fun k => sutlerlaw07_DirsTurns.l1 k l l y 0) (fun k => ?_) (spoil_l1 l hl _ 0 y hy rfl (by omega))
    simp only [sutlerlaw07_DirsTurns.l0]; rw [if_neg (by omega)]
  | succ d ih =>
    intro i x hx hd hi
    have hlt : i < x.length := by omega
    refine Ev.round (fun k => sutlerlaw07_DirsTurns.l0 k l l (x.set i (⟨(⟨#[115, 112, 111, 105, 108, 116]⟩ : ByteArray), (rd_T37 x i).f1⟩ : S37)) y (wrap64 ((i : Int) + 1))) (fun k => ?_) ?_
    · simp only [sutlerlaw07_DirsTurns.l0]
      rw [if_pos (by omega), if_pos (by omega), Int.toNat_natCast]
    · rw [wrap_up hlt hx]
      exact ih (i + 1) _ (by rw [List.length_set]; exact hx) (by rw [List.length_set]; omega) (by rw [List.length_set]; omega)
theorem turns_f (l : List S37) (s : ByteArray) (n : Int) (hl : l.length < 5864062014805) (hs : s.size ≤ 9223372036854775807) : Ev (fun k => sutlerlaw07_DirsTurns.f k l s n) true := by
  obtain ⟨ra, ha, hae, _, hal, _⟩ := add_both l s n (by omega) hs
  obtain ⟨rr, hr, hre, hrl⟩ := rem_both l s hl hs
  simp only [sutlerlaw07_DirsTurns.f, names_f l hl, Option.bind_some, look_dirs, ha, hr]
  refine Ev.bind (look_ref l s (by omega) hs) ?_
  refine Ev.bind hae ?_
  refine Ev.bind hre ?_
  simp only [if_true]
  refine Ev.bind (same_names ra.1 (by omega)) ?_
  simp only [if_true]
  refine Ev.bind (same_names rr.1 (by omega)) ?_
  simp only [if_true, bne_self_eq_false]
  refine Ev.round (fun k => sutlerlaw07_DirsTurns.l0 k l l ra.1 rr.1 0) (fun k => ?_) (spoil_l0 l (by omega) rr.1 (by omega) _ 0 ra.1 (by omega) rfl (by omega))
  simp only [sutlerlaw07_DirsTurns.j0]; rw [if_neg (by simp)]
#print axioms turns_f
end Go.Proofs.Ytcklpecjcebekaa.PAll
end
