-- Written by a tool of the kit (print.py) over the laws of this seat at once; Lean checks it.
import Derived.Test.YtbikimkmkchkhaaDoorMA1
import Derived.Test.YtbikimkmkchkhaaDoorMAPAllx72
namespace Go.Proofs.YtbikimkmkchkhaaDoor.PAll
open Go.RowKit Go.Proofs.YtbikimkmkchkhaaDoorW.PrintWords Go.Proofs.YtbikimkmkchkhaaDoorW.PrintLast Go.Proofs.YtbikimkmkchkhaaDoorW.PrintMore
attribute [local go_sem] max2_int min2_int max_two min_two max_three min_three max_four min_four   -- for this text's walks alone
set_option linter.unusedVariables false
set_option linter.unusedSimpArgs false

/-! ### sutlerlaw17_works: function 8 -/
def sutlerlaw17_works.f  : Option (Bool) := (sutlerlaw17_less.f (⟨#[49, 46, 50]⟩ : ByteArray) (⟨#[49, 46, 49, 48]⟩ : ByteArray)).bind fun t160 => (if t160 = true then ((sutlerlaw17_less.f (⟨#[49, 46, 48, 45, 114, 99, 49]⟩ : ByteArray) (⟨#[49, 46, 48]⟩ : ByteArray)).bind fun t161 => (if t161 = true then ((sutlerlaw17_less.f (⟨#[49]⟩ : ByteArray) (⟨#[49, 46, 48, 46, 48]⟩ : ByteArray)).bind fun t162 => (if t162 = true then (some false) else ((sutlerlaw17_less.f (⟨#[49, 46, 48, 46, 48]⟩ : ByteArray) (⟨#[49]⟩ : ByteArray)).bind fun t163 => (some (!t163))))) else (some false))) else (some false))
set_option maxHeartbeats 8000000 in
set_option maxRecDepth 100000 in
theorem sutlerlaw17_works.calls  (r : Bool) (w : World) (h : sutlerlaw17_works.f  = some r) (hLD : Tabs w) :
    Calls Tryd.prog 8 #[] w fun e w' => e = .returned (.bool r) ∧ Below w.heap.size w w' := by
  have LD := Aside0.mk hLD
  clear hLD
  have HB := Aside0.mk (Below.refl w.heap.size w)
  have H : ((sutlerlaw17_less.f (⟨#[49, 46, 50]⟩ : ByteArray) (⟨#[49, 46, 49, 48]⟩ : ByteArray)).bind fun t160 => (if t160 = true then ((sutlerlaw17_less.f (⟨#[49, 46, 48, 45, 114, 99, 49]⟩ : ByteArray) (⟨#[49, 46, 48]⟩ : ByteArray)).bind fun t161 => (if t161 = true then ((sutlerlaw17_less.f (⟨#[49]⟩ : ByteArray) (⟨#[49, 46, 48, 46, 48]⟩ : ByteArray)).bind fun t162 => (if t162 = true then (some false) else ((sutlerlaw17_less.f (⟨#[49, 46, 48, 46, 48]⟩ : ByteArray) (⟨#[49]⟩ : ByteArray)).bind fun t163 => (some (!t163))))) else (some false))) else (some false))) = some r := h
  clear h
  replace H := Option.bind_eq_some_iff.mp H
  obtain ⟨t160, A10, H⟩ := H
  replace H : (if t160 = true then ((sutlerlaw17_less.f (⟨#[49, 46, 48, 45, 114, 99, 49]⟩ : ByteArray) (⟨#[49, 46, 48]⟩ : ByteArray)).bind fun t161 => (if t161 = true then ((sutlerlaw17_less.f (⟨#[49]⟩ : ByteArray) (⟨#[49, 46, 48, 46, 48]⟩ : ByteArray)).bind fun t162 => (if t162 = true then (some false) else ((sutlerlaw17_less.f (⟨#[49, 46, 48, 46, 48]⟩ : ByteArray) (⟨#[49]⟩ : ByteArray)).bind fun t163 => (some (!t163))))) else (some false))) else (some false)) = some r := H
  have A1 := Aside0.mk A10
  clear A10
  by_cases c2 : t160 = true
  · subst c2
    have H1 : ((sutlerlaw17_less.f (⟨#[49, 46, 48, 45, 114, 99, 49]⟩ : ByteArray) (⟨#[49, 46, 48]⟩ : ByteArray)).bind fun t161 => (if t161 = true then ((sutlerlaw17_less.f (⟨#[49]⟩ : ByteArray) (⟨#[49, 46, 48, 46, 48]⟩ : ByteArray)).bind fun t162 => (if t162 = true then (some false) else ((sutlerlaw17_less.f (⟨#[49, 46, 48, 46, 48]⟩ : ByteArray) (⟨#[49]⟩ : ByteArray)).bind fun t163 => (some (!t163))))) else (some false))) = some r := by rw [if_pos rfl] at H; exact H
    clear H
    have H := H1
    clear H1
    replace H := Option.bind_eq_some_iff.mp H
    obtain ⟨t161, A30, H⟩ := H
    replace H : (if t161 = true then ((sutlerlaw17_less.f (⟨#[49]⟩ : ByteArray) (⟨#[49, 46, 48, 46, 48]⟩ : ByteArray)).bind fun t162 => (if t162 = true then (some false) else ((sutlerlaw17_less.f (⟨#[49, 46, 48, 46, 48]⟩ : ByteArray) (⟨#[49]⟩ : ByteArray)).bind fun t163 => (some (!t163))))) else (some false)) = some r := H
    have A3 := Aside0.mk A30
    clear A30
    by_cases c4 : t161 = true
    · subst c4
      have H1 : ((sutlerlaw17_less.f (⟨#[49]⟩ : ByteArray) (⟨#[49, 46, 48, 46, 48]⟩ : ByteArray)).bind fun t162 => (if t162 = true then (some false) else ((sutlerlaw17_less.f (⟨#[49, 46, 48, 46, 48]⟩ : ByteArray) (⟨#[49]⟩ : ByteArray)).bind fun t163 => (some (!t163))))) = some r := by rw [if_pos rfl] at H; exact H
      clear H
      have H := H1
      clear H1
      replace H := Option.bind_eq_some_iff.mp H
      obtain ⟨t162, A50, H⟩ := H
      replace H : (if t162 = true then (some false) else ((sutlerlaw17_less.f (⟨#[49, 46, 48, 46, 48]⟩ : ByteArray) (⟨#[49]⟩ : ByteArray)).bind fun t163 => (some (!t163)))) = some r := H
      have A5 := Aside0.mk A50
      clear A50
      by_cases c6 : t162 = true
      · subst c6
        have H1 : (some false) = some r := by rw [if_pos rfl] at H; exact H
        clear H
        have H := H1
        clear H1
        obtain rfl := Option.some.inj H
        go_enter Tryd.func8, Tryd.ntmps8
        go_wp2_with (first | ((with_reducible refine gate_callee (f := 20) rfl ?_); refine goesL_ (some 1) rfl rfl Tryd.func20 (by kernel_rfl) rfl #[.string (⟨#[49, 46, 50]⟩ : ByteArray), .string (⟨#[49, 46, 49, 48]⟩ : ByteArray)] rfl (by (try simp only [List.map_toArray, List.map_cons, List.map_nil]); first | done | rfl | (simp only [List.length_drop, List.length_take]; rfl)) ?_; (with_reducible refine (sutlerlaw17_less.calls (⟨#[49, 46, 50]⟩ : ByteArray) (⟨#[49, 46, 49, 48]⟩ : ByteArray) true _ A1.out (LD.out.below (by repeat (first | (with_reducible first | exact HB.out | apply below_alloc | apply pw_below_drewN | apply below_drew1) | exact HB.out)))).mono ?_); rintro e w7 ⟨rfl, hb⟩; refine ⟨_, rfl, ?_⟩; have n0_ := Aside0.mk (below_step (by repeat (first | (with_reducible first | exact HB.out | apply below_alloc | apply pw_below_drewN | apply below_drew1) | exact HB.out)) hb); clear HB; have HB := n0_; clear n0_; (try clear hb); (try clear hb2); (try clear hk); (try clear hi)) | (go_at_call 20; (with_reducible refine (sutlerlaw17_less.calls (⟨#[49, 46, 48, 45, 114, 99, 49]⟩ : ByteArray) (⟨#[49, 46, 48]⟩ : ByteArray) true _ A3.out (LD.out.below (by repeat (first | (with_reducible first | exact HB.out | apply below_alloc | apply pw_below_drewN | apply below_drew1) | exact HB.out)))).mono ?_); rintro e w8 ⟨rfl, hb⟩; have n0_ := Aside0.mk (below_step (by repeat (first | (with_reducible first | exact HB.out | apply below_alloc | apply pw_below_drewN | apply below_drew1) | exact HB.out)) hb); clear HB; have HB := n0_; clear n0_; (try clear hb); (try clear hb2); (try clear hk); (try clear hi)) | (go_at_call 20; (with_reducible refine (sutlerlaw17_less.calls (⟨#[49]⟩ : ByteArray) (⟨#[49, 46, 48, 46, 48]⟩ : ByteArray) true _ A5.out (LD.out.below (by repeat (first | (with_reducible first | exact HB.out | apply below_alloc | apply pw_below_drewN | apply below_drew1) | exact HB.out)))).mono ?_); rintro e w9 ⟨rfl, hb⟩; have n0_ := Aside0.mk (below_step (by repeat (first | (with_reducible first | exact HB.out | apply below_alloc | apply pw_below_drewN | apply below_drew1) | exact HB.out)) hb); clear HB; have HB := n0_; clear n0_; (try clear hb); (try clear hb2); (try clear hk); (try clear hi)))
        go_ret
        exact ⟨by first | rfl | (simp [errW_none, errW_some] <;> rfl) | (simp [*, errW_none, errW_some] <;> rfl), by repeat (first | (with_reducible first | exact HB.out | apply below_alloc | apply pw_below_drewN | apply below_drew1) | exact HB.out)⟩
      · replace c6 := Bool.eq_false_iff.mpr c6
        subst c6
        have H1 : ((sutlerlaw17_less.f (⟨#[49, 46, 48, 46, 48]⟩ : ByteArray) (⟨#[49]⟩ : ByteArray)).bind fun t163 => (some (!t163))) = some r := by rw [if_neg (show ¬ (false = true) by decide)] at H; exact H
        clear H
        have H := H1
        clear H1
        replace H := Option.bind_eq_some_iff.mp H
        obtain ⟨t163, A100, H⟩ := H
        replace H : (some (!t163)) = some r := H
        have A10 := Aside0.mk A100
        clear A100
        obtain rfl := Option.some.inj H
        go_enter Tryd.func8, Tryd.ntmps8
        go_wp2_with (first | ((with_reducible refine gate_callee (f := 20) rfl ?_); refine goesL_ (some 1) rfl rfl Tryd.func20 (by kernel_rfl) rfl #[.string (⟨#[49, 46, 50]⟩ : ByteArray), .string (⟨#[49, 46, 49, 48]⟩ : ByteArray)] rfl (by (try simp only [List.map_toArray, List.map_cons, List.map_nil]); first | done | rfl | (simp only [List.length_drop, List.length_take]; rfl)) ?_; (with_reducible refine (sutlerlaw17_less.calls (⟨#[49, 46, 50]⟩ : ByteArray) (⟨#[49, 46, 49, 48]⟩ : ByteArray) true _ A1.out (LD.out.below (by repeat (first | (with_reducible first | exact HB.out | apply below_alloc | apply pw_below_drewN | apply below_drew1) | exact HB.out)))).mono ?_); rintro e w11 ⟨rfl, hb⟩; refine ⟨_, rfl, ?_⟩; have n0_ := Aside0.mk (below_step (by repeat (first | (with_reducible first | exact HB.out | apply below_alloc | apply pw_below_drewN | apply below_drew1) | exact HB.out)) hb); clear HB; have HB := n0_; clear n0_; (try clear hb); (try clear hb2); (try clear hk); (try clear hi)) | (go_at_call 20; (with_reducible refine (sutlerlaw17_less.calls (⟨#[49, 46, 48, 45, 114, 99, 49]⟩ : ByteArray) (⟨#[49, 46, 48]⟩ : ByteArray) true _ A3.out (LD.out.below (by repeat (first | (with_reducible first | exact HB.out | apply below_alloc | apply pw_below_drewN | apply below_drew1) | exact HB.out)))).mono ?_); rintro e w12 ⟨rfl, hb⟩; have n0_ := Aside0.mk (below_step (by repeat (first | (with_reducible first | exact HB.out | apply below_alloc | apply pw_below_drewN | apply below_drew1) | exact HB.out)) hb); clear HB; have HB := n0_; clear n0_; (try clear hb); (try clear hb2); (try clear hk); (try clear hi)) | (go_at_call 20; (with_reducible refine (sutlerlaw17_less.calls (⟨#[49]⟩ : ByteArray) (⟨#[49, 46, 48, 46, 48]⟩ : ByteArray) false _ A5.out (LD.out.below (by repeat (first | (with_reducible first | exact HB.out | apply below_alloc | apply pw_below_drewN | apply below_drew1) | exact HB.out)))).mono ?_); rintro e w13 ⟨rfl, hb⟩; have n0_ := Aside0.mk (below_step (by repeat (first | (with_reducible first | exact HB.out | apply below_alloc | apply pw_below_drewN | apply below_drew1) | exact HB.out)) hb); clear HB; have HB := n0_; clear n0_; (try clear hb); (try clear hb2); (try clear hk); (try clear hi)) | (go_at_call 20; (with_reducible refine (sutlerlaw17_less.calls (⟨#[49, 46, 48, 46, 48]⟩ : ByteArray) (⟨#[49]⟩ : ByteArray) t163 _ A10.out (LD.out.below (by repeat (first | (with_reducible first | exact HB.out | apply below_alloc | apply pw_below_drewN | apply below_drew1) | exact HB.out)))).mono ?_); rintro e w14 ⟨rfl, hb⟩; have n0_ := Aside0.mk (below_step (by repeat (first | (with_reducible first | exact HB.out | apply below_alloc | apply pw_below_drewN | apply below_drew1) | exact HB.out)) hb); clear HB; have HB := n0_; clear n0_; (try clear hb); (try clear hb2); (try clear hk); (try clear hi)))
        go_ret
        exact ⟨by first | rfl | (simp [errW_none, errW_some] <;> rfl) | (simp [*, errW_none, errW_some] <;> rfl), by repeat (first | (with_reducible first | exact HB.out | apply below_alloc | apply pw_below_drewN | apply below_drew1) | exact HB.out)⟩
    · replace c4 := Bool.eq_false_iff.mpr c4
      subst c4
      have H1 : (some false) = some r := by rw [if_neg (show ¬ (false = true) by decide)] at H; exact H
      clear H
      have H := H1
      clear H1
      obtain rfl := Option.some.inj H
      go_enter Tryd.func8, Tryd.ntmps8
      go_wp2_with (first | ((with_reducible refine gate_callee (f := 20) rfl ?_); refine goesL_ (some 1) rfl rfl Tryd.func20 (by kernel_rfl) rfl #[.string (⟨#[49, 46, 50]⟩ : ByteArray), .string (⟨#[49, 46, 49, 48]⟩ : ByteArray)] rfl (by (try simp only [List.map_toArray, List.map_cons, List.map_nil]); first | done | rfl | (simp only [List.length_drop, List.length_take]; rfl)) ?_; (with_reducible refine (sutlerlaw17_less.calls (⟨#[49, 46, 50]⟩ : ByteArray) (⟨#[49, 46, 49, 48]⟩ : ByteArray) true _ A1.out (LD.out.below (by repeat (first | (with_reducible first | exact HB.out | apply below_alloc | apply pw_below_drewN | apply below_drew1) | exact HB.out)))).mono ?_); rintro e w15 ⟨rfl, hb⟩; refine ⟨_, rfl, ?_⟩; have n0_ := Aside0.mk (below_step (by repeat (first | (with_reducible first | exact HB.out | apply below_alloc | apply pw_below_drewN | apply below_drew1) | exact HB.out)) hb); clear HB; have HB := n0_; clear n0_; (try clear hb); (try clear hb2); (try clear hk); (try clear hi)) | (go_at_call 20; (with_reducible refine (sutlerlaw17_less.calls (⟨#[49, 46, 48, 45, 114, 99, 49]⟩ : ByteArray) (⟨#[49, 46, 48]⟩ : ByteArray) false _ A3.out (LD.out.below (by repeat (first | (with_reducible first | exact HB.out | apply below_alloc | apply pw_below_drewN | apply below_drew1) | exact HB.out)))).mono ?_); rintro e w16 ⟨rfl, hb⟩; have n0_ := Aside0.mk (below_step (by repeat (first | (with_reducible first | exact HB.out | apply below_alloc | apply pw_below_drewN | apply below_drew1) | exact HB.out)) hb); clear HB; have HB := n0_; clear n0_; (try clear hb); (try clear hb2); (try clear hk); (try clear hi)))
      go_ret
      exact ⟨by first | rfl | (simp [errW_none, errW_some] <;> rfl) | (simp [*, errW_none, errW_some] <;> rfl), by repeat (first | (with_reducible first | exact HB.out | apply below_alloc | apply pw_below_drewN | apply below_drew1) | exact HB.out)⟩
  · replace c2 := Bool.eq_false_iff.mpr c2
    subst c2
    have H1 : (some false) = some r := by rw [if_neg (show ¬ (false = true) by decide)] at H; exact H
    clear H
    have H := H1
    clear H1
    obtain rfl := Option.some.inj H
    go_enter Tryd.func8, Tryd.ntmps8
    go_wp2_with (first | ((with_reducible refine gate_callee (f := 20) rfl ?_); refine goesL_ (some 1) rfl rfl Tryd.func20 (by kernel_rfl) rfl #[.string (⟨#[49, 46, 50]⟩ : ByteArray), .string (⟨#[49, 46, 49, 48]⟩ : ByteArray)] rfl (by (try simp only [List.map_toArray, List.map_cons, List.map_nil]); first | done | rfl | (simp only [List.length_drop, List.length_take]; rfl)) ?_; (with_reducible refine (sutlerlaw17_less.calls (⟨#[49, 46, 50]⟩ : ByteArray) (⟨#[49, 46, 49, 48]⟩ : ByteArray) false _ A1.out (LD.out.below (by repeat (first | (with_reducible first | exact HB.out | apply below_alloc | apply pw_below_drewN | apply below_drew1) | exact HB.out)))).mono ?_); rintro e w17 ⟨rfl, hb⟩; refine ⟨_, rfl, ?_⟩; have n0_ := Aside0.mk (below_step (by repeat (first | (with_reducible first | exact HB.out | apply below_alloc | apply pw_below_drewN | apply below_drew1) | exact HB.out)) hb); clear HB; have HB := n0_; clear n0_; (try clear hb); (try clear hb2); (try clear hk); (try clear hi)))
    go_ret
    exact ⟨by first | rfl | (simp [errW_none, errW_some] <;> rfl) | (simp [*, errW_none, errW_some] <;> rfl), by repeat (first | (with_reducible first | exact HB.out | apply below_alloc | apply pw_below_drewN | apply below_drew1) | exact HB.out)⟩

end Go.Proofs.YtbikimkmkchkhaaDoor.PAll
