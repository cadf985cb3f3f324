/- Texts of this claim, one behind the other: PAllx31, Pure6, DirsTurns. -/
import Derived.Test.YtcklpecjcebekaaGT1
import Derived.Test.YtcklpecjcebekaaGT3
import Derived.Test.YtcklpecjcebekaaGT2
section
-- Written by a tool of the kit (print.py) over the laws of this seat at once; Lean checks it.
namespace Go.Proofs.Ytcklpecjcebekaa.PAll
open Go.RowKit Go.Proofs.YtcklpecjcebekaaW.PrintWords Go.Proofs.YtcklpecjcebekaaW.PrintLast Go.Proofs.YtcklpecjcebekaaW.PrintMore
attribute [local go_sem] max2_int min2_int max_two min_two max_three min_three max_four min_four   -- for this text's walks alone
set_option linter.unusedVariables false
set_option linter.unusedSimpArgs false

/-! ### sutlerlaw07_DirsTurns: function 4 -/
mutual
def sutlerlaw07_DirsTurns.j0 : Nat → List (S37) → List (S37) → List (S37) → List (S37) → Bool → Option (Bool)
  | 0, _, _, _, _, _ => none
  | k + 1, x0, x7, x12, x16, x91 => if x91 = true then (some false) else (sutlerlaw07_DirsTurns.l0 k x0 x7 x12 x16 0)
def sutlerlaw07_DirsTurns.l0 : Nat → List (S37) → List (S37) → List (S37) → List (S37) → Int → Option (Bool)
  | 0, _, _, _, _, _ => none
  | k + 1, x0, x7, x12, x16, x20 => if x20 < (x12.length : Int) then (if 0 ≤ x20 then (sutlerlaw07_DirsTurns.l0 k x0 x7 (x12.set (x20 : Int).toNat (⟨(⟨#[115, 112, 111, 105, 108, 116]⟩ : ByteArray), (rd_T37 x12 x20).f1⟩ : S37)) x16 (wrap64 (x20 + 1))) else (none)) else (sutlerlaw07_DirsTurns.l1 k x0 x7 x16 0)
def sutlerlaw07_DirsTurns.l1 : Nat → List (S37) → List (S37) → List (S37) → Int → Option (Bool)
  | 0, _, _, _, _ => none
  | k + 1, x0, x7, x16, x21 => if x21 < (x16.length : Int) then (if 0 ≤ x21 then (sutlerlaw07_DirsTurns.l1 k x0 x7 (x16.set (x21 : Int).toNat (⟨(⟨#[115, 112, 111, 105, 108, 116]⟩ : ByteArray), (rd_T37 x16 x21).f1⟩ : S37)) (wrap64 (x21 + 1))) else (none)) else ((sutlerbase_SameNames.f k x7 x0).bind fun t278 => (if t278 = true then ((sutlerlaw07_works.f k).bind fun t279 => (some t279)) else (some false)))
end
def sutlerlaw07_DirsTurns.f (k : Nat) (l0 : List (S37)) (a1 : ByteArray) (a2 : Int) : Option (Bool) := (sutlerlaw07_names.f l0).bind fun t251 => ((dirs_Look.f t251 a1).bind fun bt254 => ((sutlerref07_Look.f k l0 a1).bind fun bt256 => ((dirs_Add.f t251 a1 a2).bind fun bt258 => ((sutlerref07_Add.f k l0 a1 a2).bind fun bt262 => ((dirs_Remove.f t251 a1).bind fun bt266 => ((sutlerref07_Remove.f k l0 a1).bind fun bt270 => (if bt254.1 = bt256.1 then (if bt254.2 = bt256.2 then ((sutlerbase_SameNames.f k bt258.1 bt262.1).bind fun t274 => (if t274 = true then (if bt258.2 = bt262.2 then ((sutlerbase_SameNames.f k bt266.1 bt270.1).bind fun t275 => (if t275 = true then (sutlerlaw07_DirsTurns.j0 k l0 t251 bt258.1 bt266.1 (bt266.2 != bt270.2)) else (sutlerlaw07_DirsTurns.j0 k l0 t251 bt258.1 bt266.1 true))) else (sutlerlaw07_DirsTurns.j0 k l0 t251 bt258.1 bt266.1 true)) else (sutlerlaw07_DirsTurns.j0 k l0 t251 bt258.1 bt266.1 true))) else (sutlerlaw07_DirsTurns.j0 k l0 t251 bt258.1 bt266.1 true)) else (sutlerlaw07_DirsTurns.j0 k l0 t251 bt258.1 bt266.1 true))))))))
theorem sutlerlaw07_DirsTurns.mono_l : ∀ k, (∀ y0 y1 y2 y3 y4, LeO (sutlerlaw07_DirsTurns.j0 k y0 y1 y2 y3 y4) (sutlerlaw07_DirsTurns.j0 (k + 1) y0 y1 y2 y3 y4)) ∧ (∀ y0 y1 y2 y3 y4, LeO (sutlerlaw07_DirsTurns.l0 k y0 y1 y2 y3 y4) (sutlerlaw07_DirsTurns.l0 (k + 1) y0 y1 y2 y3 y4)) ∧ (∀ y0 y1 y2 y3, LeO (sutlerlaw07_DirsTurns.l1 k y0 y1 y2 y3) (sutlerlaw07_DirsTurns.l1 (k + 1) y0 y1 y2 y3))
  | 0 => ⟨fun _ _ _ _ _ r h => by simp [sutlerlaw07_DirsTurns.j0] at h, fun _ _ _ _ _ r h => by simp [sutlerlaw07_DirsTurns.l0] at h, fun _ _ _ _ r h => by simp [sutlerlaw07_DirsTurns.l1] at h⟩
  | k + 1 => by
    obtain ⟨ih0, ih1, ih2⟩ := sutlerlaw07_DirsTurns.mono_l k
    refine ⟨?_, ?_, ?_⟩
    · intro y0 y1 y2 y3 y4
      unfold sutlerlaw07_DirsTurns.j0
      repeat' first
      | (with_reducible exact ih0 _ _ _ _ _)
      | (with_reducible exact ih1 _ _ _ _ _)
      | (with_reducible exact ih2 _ _ _ _)
      | (with_reducible exact sutlerbase_SameNames.mono _ _ _)
      | (with_reducible exact sutlerlaw07_works.mono _)
      | (with_reducible exact sutlerref07_Add.mono _ _ _ _)
      | (with_reducible exact sutlerref07_Look.mono _ _ _)
      | (with_reducible exact sutlerref07_Remove.mono _ _ _)
      | (with_reducible exact LeO.refl _)
      | (with_reducible exact LeO.none _)
      | (with_reducible refine LeO.ite ?_ ?_)
      | (with_reducible refine LeO.bind ?_ (fun _ => ?_))
      | exact ih0 _ _ _ _ _
      | exact ih1 _ _ _ _ _
      | exact ih2 _ _ _ _
      | exact sutlerbase_SameNames.mono _ _ _
      | exact sutlerlaw07_works.mono _
      | exact sutlerref07_Add.mono _ _ _ _
      | exact sutlerref07_Look.mono _ _ _
      | exact sutlerref07_Remove.mono _ _ _
      | exact LeO.none _
      | refine LeO.ite ?_ ?_
      | refine LeO.bind ?_ (fun _ => ?_)
    · intro y0 y1 y2 y3 y4
      unfold sutlerlaw07_DirsTurns.l0
      repeat' first
      | (with_reducible exact ih0 _ _ _ _ _)
      | (with_reducible exact ih1 _ _ _ _ _)
      | (with_reducible exact ih2 _ _ _ _)
      | (with_reducible exact sutlerbase_SameNames.mono _ _ _)
      | (with_reducible exact sutlerlaw07_works.mono _)
      | (with_reducible exact sutlerref07_Add.mono _ _ _ _)
      | (with_reducible exact sutlerref07_Look.mono _ _ _)
      | (with_reducible exact sutlerref07_Remove.mono _ _ _)
      | (with_reducible exact LeO.refl _)
      | (with_reducible exact LeO.none _)
      | (with_reducible refine LeO.ite ?_ ?_)
      | (with_reducible refine LeO.bind ?_ (fun _ => ?_))
      | exact ih0 _ _ _ _ _
      | exact ih1 _ _ _ _ _
      | exact ih2 _ _ _ _
      | exact sutlerbase_SameNames.mono _ _ _
      | exact sutlerlaw07_works.mono _
      | exact sutlerref07_Add.mono _ _ _ _
      | exact sutlerref07_Look.mono _ _ _
      | exact sutlerref07_Remove.mono _ _ _
      | exact LeO.none _
      | refine LeO.ite ?_ ?_
      | refine LeO.bind ?_ (fun _ => ?_)
    · intro y0 y1 y2 y3
      unfold sutlerlaw07_DirsTurns.l1
      repeat' first
      | (with_reducible exact ih0 _ _ _ _ _)
      | (with_reducible exact ih1 _ _ _ _ _)
      | (with_reducible exact ih2 _ _ _ _)
      | (with_reducible exact sutlerbase_SameNames.mono _ _ _)
      | (with_reducible exact sutlerlaw07_works.mono _)
      | (with_reducible exact sutlerref07_Add.mono _ _ _ _)
      | (with_reducible exact sutlerref07_Look.mono _ _ _)
      | (with_reducible exact sutlerref07_Remove.mono _ _ _)
      | (with_reducible exact LeO.refl _)
      | (with_reducible exact LeO.none _)
      | (with_reducible refine LeO.ite ?_ ?_)
      | (with_reducible refine LeO.bind ?_ (fun _ => ?_))
      | exact ih0 _ _ _ _ _
      | exact ih1 _ _ _ _ _
      | exact ih2 _ _ _ _
      | exact sutlerbase_SameNames.mono _ _ _
      | exact sutlerlaw07_works.mono _
      | exact sutlerref07_Add.mono _ _ _ _
      | exact sutlerref07_Look.mono _ _ _
      | exact sutlerref07_Remove.mono _ _ _
      | exact LeO.none _
      | refine LeO.ite ?_ ?_
      | refine LeO.bind ?_ (fun _ => ?_)
theorem sutlerlaw07_DirsTurns.mono : ∀ a0 a1 a2 k, LeO (sutlerlaw07_DirsTurns.f k a0 a1 a2) (sutlerlaw07_DirsTurns.f (k + 1) a0 a1 a2) := by
  intro a0 a1 a2 k
  obtain ⟨ih0, ih1, ih2⟩ := sutlerlaw07_DirsTurns.mono_l k
  unfold sutlerlaw07_DirsTurns.f
  repeat' first
      | (with_reducible exact ih0 _ _ _ _ _)
      | (with_reducible exact ih1 _ _ _ _ _)
      | (with_reducible exact ih2 _ _ _ _)
      | (with_reducible exact sutlerbase_SameNames.mono _ _ _)
      | (with_reducible exact sutlerlaw07_works.mono _)
      | (with_reducible exact sutlerref07_Add.mono _ _ _ _)
      | (with_reducible exact sutlerref07_Look.mono _ _ _)
      | (with_reducible exact sutlerref07_Remove.mono _ _ _)
      | (with_reducible exact LeO.refl _)
      | (with_reducible exact LeO.none _)
      | (with_reducible refine LeO.ite ?_ ?_)
      | (with_reducible refine LeO.bind ?_ (fun _ => ?_))
      | exact ih0 _ _ _ _ _
      | exact ih1 _ _ _ _ _
      | exact ih2 _ _ _ _
      | exact sutlerbase_SameNames.mono _ _ _
      | exact sutlerlaw07_works.mono _
      | exact sutlerref07_Add.mono _ _ _ _
      | exact sutlerref07_Look.mono _ _ _
      | exact sutlerref07_Remove.mono _ _ _
      | exact LeO.none _
      | refine LeO.ite ?_ ?_
      | refine LeO.bind ?_ (fun _ => ?_)
set_option maxHeartbeats 8000000 in
set_option maxRecDepth 100000 in
theorem sutlerlaw07_DirsTurns.calls (k : Nat) (A0 : Option Addr) (c0 : Nat) (l0 : List (S37)) (a1 : ByteArray) (a2 : Int) (r : Bool) (w : World) (hr0 : Kd.C k37 w A0 l0.length l0) (hc0 : l0.length ≤ c0) (h : sutlerlaw07_DirsTurns.f k l0 a1 a2 = some r) :
    Calls Try.prog 4 #[.slice A0 l0.length c0, .string a1, .int .i64 a2] w fun e w' => e = .returned (.bool r) ∧ Below w.heap.size w w' := by
  have HR0 := Aside0.mk hr0
  have HC0 := Aside0.mk hc0
  clear hr0 hc0
  have HB := Aside0.mk (Below.refl w.heap.size w)
  have H : ((sutlerlaw07_names.f l0).bind fun t251 => ((dirs_Look.f t251 a1).bind fun bt254 => ((sutlerref07_Look.f k l0 a1).bind fun bt256 => ((dirs_Add.f t251 a1 a2).bind fun bt258 => ((sutlerref07_Add.f k l0 a1 a2).bind fun bt262 => ((dirs_Remove.f t251 a1).bind fun bt266 => ((sutlerref07_Remove.f k l0 a1).bind fun bt270 => (if bt254.1 = bt256.1 then (if bt254.2 = bt256.2 then ((sutlerbase_SameNames.f k bt258.1 bt262.1).bind fun t274 => (if t274 = true then (if bt258.2 = bt262.2 then ((sutlerbase_SameNames.f k bt266.1 bt270.1).bind fun t275 => (if t275 = true then (sutlerlaw07_DirsTurns.j0 k l0 t251 bt258.1 bt266.1 (bt266.2 != bt270.2)) else (sutlerlaw07_DirsTurns.j0 k l0 t251 bt258.1 bt266.1 true))) else (sutlerlaw07_DirsTurns.j0 k l0 t251 bt258.1 bt266.1 true)) else (sutlerlaw07_DirsTurns.j0 k l0 t251 bt258.1 bt266.1 true))) else (sutlerlaw07_DirsTurns.j0 k l0 t251 bt258.1 bt266.1 true)) else (sutlerlaw07_DirsTurns.j0 k l0 t251 bt258.1 bt266.1 true))))))))) = some r := h
  clear h
  replace H := Option.bind_eq_some_iff.mp H
  obtain ⟨t251, A40, H⟩ := H
  replace H : ((dirs_Look.f t251 a1).bind fun bt254 => ((sutlerref07_Look.f k l0 a1).bind fun bt256 => ((dirs_Add.f t251 a1 a2).bind fun bt258 => ((sutlerref07_Add.f k l0 a1 a2).bind fun bt262 => ((dirs_Remove.f t251 a1).bind fun bt266 => ((sutlerref07_Remove.f k l0 a1).bind fun bt270 => (if bt254.1 = bt256.1 then (if bt254.2 = bt256.2 then ((sutlerbase_SameNames.f k bt258.1 bt262.1).bind fun t274 => (if t274 = true then (if bt258.2 = bt262.2 then ((sutlerbase_SameNames.f k bt266.1 bt270.1).bind fun t275 => (if t275 = true then (sutlerlaw07_DirsTurns.j0 k l0 t251 bt258.1 bt266.1 (bt266.2 != bt270.2)) else (sutlerlaw07_DirsTurns.j0 k l0 t251 bt258.1 bt266.1 true))) else (sutlerlaw07_DirsTurns.j0 k l0 t251 bt258.1 bt266.1 true)) else (sutlerlaw07_DirsTurns.j0 k l0 t251 bt258.1 bt266.1 true))) else (sutlerlaw07_DirsTurns.j0 k l0 t251 bt258.1 bt266.1 true)) else (sutlerlaw07_DirsTurns.j0 k l0 t251 bt258.1 bt266.1 true)))))))) = some r := H
  have A4 := Aside0.mk A40
  clear A40
  replace H := Option.bind_eq_some_iff.mp H
  obtain ⟨⟨t254, t255⟩, A50, H⟩ := H
  replace H : ((sutlerref07_Look.f k l0 a1).bind fun bt256 => ((dirs_Add.f t251 a1 a2).bind fun bt258 => ((sutlerref07_Add.f k l0 a1 a2).bind fun bt262 => ((dirs_Remove.f t251 a1).bind fun bt266 => ((sutlerref07_Remove.f k l0 a1).bind fun bt270 => (if t254 = bt256.1 then (if t255 = bt256.2 then ((sutlerbase_SameNames.f k bt258.1 bt262.1).bind fun t274 => (if t274 = true then (if bt258.2 = bt262.2 then ((sutlerbase_SameNames.f k bt266.1 bt270.1).bind fun t275 => (if t275 = true then (sutlerlaw07_DirsTurns.j0 k l0 t251 bt258.1 bt266.1 (bt266.2 != bt270.2)) else (sutlerlaw07_DirsTurns.j0 k l0 t251 bt258.1 bt266.1 true))) else (sutlerlaw07_DirsTurns.j0 k l0 t251 bt258.1 bt266.1 true)) else (sutlerlaw07_DirsTurns.j0 k l0 t251 bt258.1 bt266.1 true))) else (sutlerlaw07_DirsTurns.j0 k l0 t251 bt258.1 bt266.1 true)) else (sutlerlaw07_DirsTurns.j0 k l0 t251 bt258.1 bt266.1 true))))))) = some r := H
  have A5 := Aside0.mk A50
  clear A50
  replace H := Option.bind_eq_some_iff.mp H
  obtain ⟨⟨t256, t257⟩, A60, H⟩ := H
  replace H : ((dirs_Add.f t251 a1 a2).bind fun bt258 => ((sutlerref07_Add.f k l0 a1 a2).bind fun bt262 => ((dirs_Remove.f t251 a1).bind fun bt266 => ((sutlerref07_Remove.f k l0 a1).bind fun bt270 => (if t254 = t256 then (if t255 = t257 then ((sutlerbase_SameNames.f k bt258.1 bt262.1).bind fun t274 => (if t274 = true then (if bt258.2 = bt262.2 then ((sutlerbase_SameNames.f k bt266.1 bt270.1).bind fun t275 => (if t275 = true then (sutlerlaw07_DirsTurns.j0 k l0 t251 bt258.1 bt266.1 (bt266.2 != bt270.2)) else (sutlerlaw07_DirsTurns.j0 k l0 t251 bt258.1 bt266.1 true))) else (sutlerlaw07_DirsTurns.j0 k l0 t251 bt258.1 bt266.1 true)) else (sutlerlaw07_DirsTurns.j0 k l0 t251 bt258.1 bt266.1 true))) else (sutlerlaw07_DirsTurns.j0 k l0 t251 bt258.1 bt266.1 true)) else (sutlerlaw07_DirsTurns.j0 k l0 t251 bt258.1 bt266.1 true)))))) = some r := H
  have A6 := Aside0.mk A60
  clear A60
  replace H := Option.bind_eq_some_iff.mp H
  obtain ⟨⟨t258, t259⟩, A70, H⟩ := H
  replace H : ((sutlerref07_Add.f k l0 a1 a2).bind fun bt262 => ((dirs_Remove.f t251 a1).bind fun bt266 => ((sutlerref07_Remove.f k l0 a1).bind fun bt270 => (if t254 = t256 then (if t255 = t257 then ((sutlerbase_SameNames.f k t258 bt262.1).bind fun t274 => (if t274 = true then (if t259 = bt262.2 then ((sutlerbase_SameNames.f k bt266.1 bt270.1).bind fun t275 => (if t275 = true then (sutlerlaw07_DirsTurns.j0 k l0 t251 t258 bt266.1 (bt266.2 != bt270.2)) else (sutlerlaw07_DirsTurns.j0 k l0 t251 t258 bt266.1 true))) else (sutlerlaw07_DirsTurns.j0 k l0 t251 t258 bt266.1 true)) else (sutlerlaw07_DirsTurns.j0 k l0 t251 t258 bt266.1 true))) else (sutlerlaw07_DirsTurns.j0 k l0 t251 t258 bt266.1 true)) else (sutlerlaw07_DirsTurns.j0 k l0 t251 t258 bt266.1 true))))) = some r := H
  have A7 := Aside0.mk A70
  clear A70
  replace H := Option.bind_eq_some_iff.mp H
  obtain ⟨⟨t262, t263⟩, A80, H⟩ := H
  replace H : ((dirs_Remove.f t251 a1).bind fun bt266 => ((sutlerref07_Remove.f k l0 a1).bind fun bt270 => (if t254 = t256 then (if t255 = t257 then ((sutlerbase_SameNames.f k t258 t262).bind fun t274 => (if t274 = true then (if t259 = t263 then ((sutlerbase_SameNames.f k bt266.1 bt270.1).bind fun t275 => (if t275 = true then (sutlerlaw07_DirsTurns.j0 k l0 t251 t258 bt266.1 (bt266.2 != bt270.2)) else (sutlerlaw07_DirsTurns.j0 k l0 t251 t258 bt266.1 true))) else (sutlerlaw07_DirsTurns.j0 k l0 t251 t258 bt266.1 true)) else (sutlerlaw07_DirsTurns.j0 k l0 t251 t258 bt266.1 true))) else (sutlerlaw07_DirsTurns.j0 k l0 t251 t258 bt266.1 true)) else (sutlerlaw07_DirsTurns.j0 k l0 t251 t258 bt266.1 true)))) = some r := H
  have A8 := Aside0.mk A80
  clear A80
  replace H := Option.bind_eq_some_iff.mp H
  obtain ⟨⟨t266, t267⟩, A90, H⟩ := H
  replace H : ((sutlerref07_Remove.f k l0 a1).bind fun bt270 => (if t254 = t256 then (if t255 = t257 then ((sutlerbase_SameNames.f k t258 t262).bind fun t274 => (if t274 = true then (if t259 = t263 then ((sutlerbase_SameNames.f k t266 bt270.1).bind fun t275 => (if t275 = true then (sutlerlaw07_DirsTurns.j0 k l0 t251 t258 t266 (t267 != bt270.2)) else (sutlerlaw07_DirsTurns.j0 k l0 t251 t258 t266 true))) else (sutlerlaw07_DirsTurns.j0 k l0 t251 t258 t266 true)) else (sutlerlaw07_DirsTurns.j0 k l0 t251 t258 t266 true))) else (sutlerlaw07_DirsTurns.j0 k l0 t251 t258 t266 true)) else (sutlerlaw07_DirsTurns.j0 k l0 t251 t258 t266 true))) = some r := H
  have A9 := Aside0.mk A90
  clear A90
  replace H := Option.bind_eq_some_iff.mp H
  obtain ⟨⟨t270, t271⟩, A100, H⟩ := H
  replace H : (if t254 = t256 then (if t255 = t257 then ((sutlerbase_SameNames.f k t258 t262).bind fun t274 => (if t274 = true then (if t259 = t263 then ((sutlerbase_SameNames.f k t266 t270).bind fun t275 => (if t275 = true then (sutlerlaw07_DirsTurns.j0 k l0 t251 t258 t266 (t267 != t271)) else (sutlerlaw07_DirsTurns.j0 k l0 t251 t258 t266 true))) else (sutlerlaw07_DirsTurns.j0 k l0 t251 t258 t266 true)) else (sutlerlaw07_DirsTurns.j0 k l0 t251 t258 t266 true))) else (sutlerlaw07_DirsTurns.j0 k l0 t251 t258 t266 true)) else (sutlerlaw07_DirsTurns.j0 k l0 t251 t258 t266 true)) = some r := H
  have A10 := Aside0.mk A100
  clear A100
  have HC11 := Aside0.mk H
  clear H
  go_enter Try.func4, Try.ntmps4
  go_upto_region 8 with (first | ((with_reducible refine gate_callee (f := 12) rfl ?_); refine goesL_ (some 23) rfl rfl Try.func12 (by kernel_rfl) rfl #[.slice A0 l0.length c0] rfl (by (try simp only [List.map_toArray, List.map_cons, List.map_nil]); first | done | rfl | (simp only [List.length_drop, List.length_take]; rfl)) ?_; (with_reducible refine (sutlerlaw07_names.calls _ _ l0 t251 _ ?side1 ?side2 A4.out).mono ?_); (case side1 => repeat (first | exact HR0.out | (with_reducible refine Kd.C_alloc ?_ _) | (with_reducible refine Kd.C_drewN ?_ _) | (with_reducible refine Kd.C_drew ?_))); (case side2 => exact HC0.out); rintro e w12 ⟨v252, rfl, ho0, hb⟩; refine ⟨_, rfl, ?_⟩; have n0_ := Aside0.mk (Kd.R_lower ho0 (below_size (by repeat (first | (with_reducible first | exact HB.out | apply below_alloc | apply pw_below_drewN | apply below_drew1) | exact HB.out)))); have n1_ := Aside0.mk (below_step (by repeat (first | (with_reducible first | exact HB.out | apply below_alloc | apply pw_below_drewN | apply below_drew1) | exact HB.out)) hb); clear HB; have HO253 := n0_; have HB := n1_; clear n0_ n1_; (try clear hb); (try clear hb2); (try clear hk); (try clear hi); (try clear ho0); obtain ⟨Ao13, co13, eo13⟩ := Kd.R_slice HO253.out; subst eo13) | ((with_reducible refine gate_callee (f := 13) rfl ?_); refine goesL_ (some 27) rfl rfl Try.func13 (by kernel_rfl) rfl #[.slice Ao13 t251.length co13, .string a1] rfl (by (try simp only [List.map_toArray, List.map_cons, List.map_nil]); first | done | rfl | (simp only [List.length_drop, List.length_take]; rfl)) ?_; (with_reducible refine (dirs_Look.calls _ _ t251 a1 t254 t255 _ ?side1 ?side2 A5.out).mono ?_); (case side1 => repeat (first | exact (Kd.R_reads' HO253.out).2.2 | (with_reducible refine Kd.C_alloc ?_ _) | (with_reducible refine Kd.C_drewN ?_ _) | (with_reducible refine Kd.C_drew ?_))); (case side2 => exact (Kd.R_reads' HO253.out).2.1); rintro e w14 ⟨rfl, hb⟩; refine ⟨_, rfl, ?_⟩; have n0_ := Aside0.mk (Kd.R_below (by (with_reducible repeat (first | apply Kd.R_alloc | apply Kd.R_drewN | apply Kd.R_drew)); exact HO253.out) hb); have n1_ := Aside0.mk (below_step (by repeat (first | (with_reducible first | exact HB.out | apply below_alloc | apply pw_below_drewN | apply below_drew1) | exact HB.out)) hb); clear HO253; clear HB; have HO253 := n0_; have HB := n1_; clear n0_ n1_; (try clear hb); (try clear hb2); (try clear hk); (try clear hi)) | ((with_reducible refine gate_callee (f := 14) rfl ?_); refine goesL_ (some 33) rfl rfl Try.func14 (by kernel_rfl) rfl #[.slice A0 l0.length c0, .string a1] rfl (by (try simp only [List.map_toArray, List.map_cons, List.map_nil]); first | done | rfl | (simp only [List.length_drop, List.length_take]; rfl)) ?_; (with_reducible refine (sutlerref07_Look.calls k _ _ l0 a1 t256 t257 _ ?side1 ?side2 A6.out).mono ?_); (case side1 => repeat (first | exact (Kd.C_below HR0.out HB.out) | (with_reducible refine Kd.C_alloc ?_ _) | (with_reducible refine Kd.C_drewN ?_ _) | (with_reducible refine Kd.C_drew ?_))); (case side2 => exact HC0.out); rintro e w' ⟨rfl, ⟨nd, rfl⟩⟩; refine ⟨_, rfl, ?_⟩) | ((with_reducible refine gate_callee (f := 10) rfl ?_); refine goesL_ (some 40) rfl rfl Try.func10 (by kernel_rfl) rfl #[.slice Ao13 t251.length co13, .string a1, .int .i64 a2] rfl (by (try simp only [List.map_toArray, List.map_cons, List.map_nil]); first | done | rfl | (simp only [List.length_drop, List.length_take]; rfl)) ?_; (with_reducible refine (dirs_Add.calls _ _ t251 a1 a2 t258 t259 _ ?side1 ?side2 A7.out).mono ?_); (case side1 => repeat (first | exact (Kd.R_reads' HO253.out).2.2 | (with_reducible refine Kd.C_alloc ?_ _) | (with_reducible refine Kd.C_drewN ?_ _) | (with_reducible refine Kd.C_drew ?_))); (case side2 => exact (Kd.R_reads' HO253.out).2.1); rintro e w15 ⟨v260, rfl, ho0, hb⟩; refine ⟨_, rfl, ?_⟩; have n0_ := Aside0.mk (Kd.R_elder' (by (with_reducible repeat (first | apply Kd.R_alloc | apply Kd.R_drewN | apply Kd.R_drew)); exact HO253.out) (Kd.R_base ho0) hb); have n1_ := Aside0.mk (Kd.R_lower (Kd.R_new' ho0 (Kd.R_lt (by (with_reducible repeat (first | apply Kd.R_alloc | apply Kd.R_drewN | apply Kd.R_drew)); exact HO253.out))) (below_size (by repeat (first | (with_reducible first | exact HB.out | apply below_alloc | apply pw_below_drewN | apply below_drew1) | exact HB.out)))); have n2_ := Aside0.mk (below_step (by repeat (first | (with_reducible first | exact HB.out | apply below_alloc | apply pw_below_drewN | apply below_drew1) | exact HB.out)) hb); clear HO253; clear HB; have HO253 := n0_; have HO261 := n1_; have HB := n2_; clear n0_ n1_ n2_; (try clear hb); (try clear hb2); (try clear hk); (try clear hi); (try clear ho0)) | ((with_reducible refine gate_callee (f := 15) rfl ?_); refine goesL_ (some 47) rfl rfl Try.func15 (by kernel_rfl) rfl #[.slice A0 l0.length c0, .string a1, .int .i64 a2] rfl (by (try simp only [List.map_toArray, List.map_cons, List.map_nil]); first | done | rfl | (simp only [List.length_drop, List.length_take]; rfl)) ?_; (with_reducible refine (sutlerref07_Add.calls k _ _ l0 a1 a2 t262 t263 _ ?side1 ?side2 A8.out).mono ?_); (case side1 => repeat (first | exact (Kd.C_below HR0.out HB.out) | (with_reducible refine Kd.C_alloc ?_ _) | (with_reducible refine Kd.C_drewN ?_ _) | (with_reducible refine Kd.C_drew ?_))); (case side2 => exact HC0.out); rintro e w16 ⟨v264, rfl, ho0, hb⟩; refine ⟨_, rfl, ?_⟩; have n0_ := Aside0.mk (Kd.R_elder' (by (with_reducible repeat (first | apply Kd.R_alloc | apply Kd.R_drewN | apply Kd.R_drew)); exact HO253.out) (Kd.R_base ho0) hb); have n1_ := Aside0.mk (Kd.R_elder' (by (with_reducible repeat (first | apply Kd.R_alloc | apply Kd.R_drewN | apply Kd.R_drew)); exact HO261.out) (Kd.R_base ho0) hb); have n2_ := Aside0.mk (Kd.R_lower (Kd.R_new' (Kd.R_new' ho0 (Kd.R_lt (by (with_reducible repeat (first | apply Kd.R_alloc | apply Kd.R_drewN | apply Kd.R_drew)); exact HO253.out))) (Kd.R_lt (by (with_reducible repeat (first | apply Kd.R_alloc | apply Kd.R_drewN | apply Kd.R_drew)); exact HO261.out))) (below_size (by repeat (first | (with_reducible first | exact HB.out | apply below_alloc | apply pw_below_drewN | apply below_drew1) | exact HB.out)))); have n3_ := Aside0.mk (below_step (by repeat (first | (with_reducible first | exact HB.out | apply below_alloc | apply pw_below_drewN | apply below_drew1) | exact HB.out)) hb); clear HO253; clear HO261; clear HB; have HO253 := n0_; have HO261 := n1_; have HO265 := n2_; have HB := n3_; clear n0_ n1_ n2_ n3_; (try clear hb); (try clear hb2); (try clear hk); (try clear hi); (try clear ho0)) | ((with_reducible refine gate_callee (f := 11) rfl ?_); refine goesL_ (some 53) rfl rfl Try.func11 (by kernel_rfl) rfl #[.slice Ao13 t251.length co13, .string a1] rfl (by (try simp only [List.map_toArray, List.map_cons, List.map_nil]); first | done | rfl | (simp only [List.length_drop, List.length_take]; rfl)) ?_; (with_reducible refine (dirs_Remove.calls _ _ t251 a1 t266 t267 _ ?side1 ?side2 A9.out).mono ?_); (case side1 => repeat (first | exact (Kd.R_reads' HO253.out).2.2 | (with_reducible refine Kd.C_alloc ?_ _) | (with_reducible refine Kd.C_drewN ?_ _) | (with_reducible refine Kd.C_drew ?_))); (case side2 => exact (Kd.R_reads' HO253.out).2.1); rintro e w17 ⟨v268, rfl, ho0, hb⟩; refine ⟨_, rfl, ?_⟩; have n0_ := Aside0.mk (Kd.R_elder' (by (with_reducible repeat (first | apply Kd.R_alloc | apply Kd.R_drewN | apply Kd.R_drew)); exact HO253.out) (Kd.R_base ho0) hb); have n1_ := Aside0.mk (Kd.R_elder' (by (with_reducible repeat (first | apply Kd.R_alloc | apply Kd.R_drewN | apply Kd.R_drew)); exact HO261.out) (Kd.R_base ho0) hb); have n2_ := Aside0.mk (Kd.R_elder' (by (with_reducible repeat (first | apply Kd.R_alloc | apply Kd.R_drewN | apply Kd.R_drew)); exact HO265.out) (Kd.R_base ho0) hb); have n3_ := Aside0.mk (Kd.R_lower (Kd.R_new' (Kd.R_new' (Kd.R_new' ho0 (Kd.R_lt (by (with_reducible repeat (first | apply Kd.R_alloc | apply Kd.R_drewN | apply Kd.R_drew)); exact HO253.out))) (Kd.R_lt (by (with_reducible repeat (first | apply Kd.R_alloc | apply Kd.R_drewN | apply Kd.R_drew)); exact HO261.out))) (Kd.R_lt (by (with_reducible repeat (first | apply Kd.R_alloc | apply Kd.R_drewN | apply Kd.R_drew)); exact HO265.out))) (below_size (by repeat (first | (with_reducible first | exact HB.out | apply below_alloc | apply pw_below_drewN | apply below_drew1) | exact HB.out)))); have n4_ := Aside0.mk (below_step (by repeat (first | (with_reducible first | exact HB.out | apply below_alloc | apply pw_below_drewN | apply below_drew1) | exact HB.out)) hb); clear HO253; clear HO261; clear HO265; clear HB; have HO253 := n0_; have HO261 := n1_; have HO265 := n2_; have HO269 := n3_; have HB := n4_; clear n0_ n1_ n2_ n3_ n4_; (try clear hb); (try clear hb2); (try clear hk); (try clear hi); (try clear ho0)) | ((with_reducible refine gate_callee (f := 16) rfl ?_); refine goesL_ (some 59) rfl rfl Try.func16 (by kernel_rfl) rfl #[.slice A0 l0.length c0, .string a1] rfl (by (try simp only [List.map_toArray, List.map_cons, List.map_nil]); first | done | rfl | (simp only [List.length_drop, List.length_take]; rfl)) ?_; (with_reducible refine (sutlerref07_Remove.calls k _ _ l0 a1 t270 t271 _ ?side1 ?side2 A10.out).mono ?_); (case side1 => repeat (first | exact (Kd.C_below HR0.out HB.out) | (with_reducible refine Kd.C_alloc ?_ _) | (with_reducible refine Kd.C_drewN ?_ _) | (with_reducible refine Kd.C_drew ?_))); (case side2 => exact HC0.out); rintro e w18 ⟨v272, rfl, ho0, hb⟩; refine ⟨_, rfl, ?_⟩; have n0_ := Aside0.mk (Kd.R_elder' (by (with_reducible repeat (first | apply Kd.R_alloc | apply Kd.R_drewN | apply Kd.R_drew)); exact HO253.out) (Kd.R_base ho0) hb); have n1_ := Aside0.mk (Kd.R_elder' (by (with_reducible repeat (first | apply Kd.R_alloc | apply Kd.R_drewN | apply Kd.R_drew)); exact HO261.out) (Kd.R_base ho0) hb); have n2_ := Aside0.mk (Kd.R_elder' (by (with_reducible repeat (first | apply Kd.R_alloc | apply Kd.R_drewN | apply Kd.R_drew)); exact HO265.out) (Kd.R_base ho0) hb); have n3_ := Aside0.mk (Kd.R_elder' (by (with_reducible repeat (first | apply Kd.R_alloc | apply Kd.R_drewN | apply Kd.R_drew)); exact HO269.out) (Kd.R_base ho0) hb); have n4_ := Aside0.mk (Kd.R_lower (Kd.R_new' (Kd.R_new' (Kd.R_new' (Kd.R_new' ho0 (Kd.R_lt (by (with_reducible repeat (first | apply Kd.R_alloc | apply Kd.R_drewN | apply Kd.R_drew)); exact HO253.out))) (Kd.R_lt (by (with_reducible repeat (first | apply Kd.R_alloc | apply Kd.R_drewN | apply Kd.R_drew)); exact HO261.out))) (Kd.R_lt (by (with_reducible repeat (first | apply Kd.R_alloc | apply Kd.R_drewN | apply Kd.R_drew)); exact HO265.out))) (Kd.R_lt (by (with_reducible repeat (first | apply Kd.R_alloc | apply Kd.R_drewN | apply Kd.R_drew)); exact HO269.out))) (below_size (by repeat (first | (with_reducible first | exact HB.out | apply below_alloc | apply pw_below_drewN | apply below_drew1) | exact HB.out)))); have n5_ := Aside0.mk (below_step (by repeat (first | (with_reducible first | exact HB.out | apply below_alloc | apply pw_below_drewN | apply below_drew1) | exact HB.out)) hb); clear HO253; clear HO261; clear HO265; clear HO269; clear HB; have HO253 := n0_; have HO261 := n1_; have HO265 := n2_; have HO269 := n3_; have HO273 := n4_; have HB := n5_; clear n0_ n1_ n2_ n3_ n4_ n5_; (try clear hb); (try clear hb2); (try clear hk); (try clear hi); (try clear ho0)))
  (try simp only [Act.put, List.setIfInBounds_toArray, List.set_cons_zero, List.set_cons_succ])
  go_cut [91] (fun v91 wc => ∃ (kq : Nat) (x91_10 : Bool), v91 = .bool x91_10 ∧ Aside0 (sutlerlaw07_DirsTurns.j0 kq l0 t251 t258 t266 x91_10 = some r) ∧ Aside0 (kq ≤ k) ∧ Aside0 (Kd.R k37 37 wc w.heap.size (fun k_ => some k_ ≠ (v260 : Value).ownBlock ∧ some k_ ≠ (v268 : Value).ownBlock) (.slice Ao13 t251.length co13) t251) ∧ Aside0 (Kd.R k37 37 wc w.heap.size (fun k_ => some k_ ≠ ((.slice Ao13 t251.length co13) : Value).ownBlock ∧ some k_ ≠ (v268 : Value).ownBlock) v260 t258) ∧ Aside0 (Kd.R k37 37 wc w.heap.size (fun k_ => some k_ ≠ ((.slice Ao13 t251.length co13) : Value).ownBlock ∧ some k_ ≠ (v260 : Value).ownBlock) v268 t266) ∧ Aside0 (Below w.heap.size w wc))
  case first =>
    have H := HC11.out
    clear HC11
    by_cases c19 : t254 = t256
    · rw [if_pos c19] at H
      have c19b0 : (t254 == t256) = true := beq_iff_eq.mpr c19
      have c19b1 : (t254 != t256) = false := bne_eq_false_iff_eq.mpr c19
      clear c19
      (first | rw [c19b0] | (simp only [i64_w, i32_w]; rw [c19b0]) | skip)
      by_cases c20 : t255 = t257
      · rw [if_pos c20] at H
        have c20b0 : (t255 == t257) = true := beq_iff_eq.mpr c20
        have c20b1 : (t255 != t257) = false := bne_eq_false_iff_eq.mpr c20
        clear c20
        replace H := Option.bind_eq_some_iff.mp H
        obtain ⟨t274, A210, H⟩ := H
        replace H : (if t274 = true then (if t259 = t263 then ((sutlerbase_SameNames.f k t266 t270).bind fun t275 => (if t275 = true then (sutlerlaw07_DirsTurns.j0 k l0 t251 t258 t266 (t267 != t271)) else (sutlerlaw07_DirsTurns.j0 k l0 t251 t258 t266 true))) else (sutlerlaw07_DirsTurns.j0 k l0 t251 t258 t266 true)) else (sutlerlaw07_DirsTurns.j0 k l0 t251 t258 t266 true)) = some r := H
        have A21 := Aside0.mk A210
        clear A210
        by_cases c22 : t274 = true
        · subst c22
          have H1 : (if t259 = t263 then ((sutlerbase_SameNames.f k t266 t270).bind fun t275 => (if t275 = true then (sutlerlaw07_DirsTurns.j0 k l0 t251 t258 t266 (t267 != t271)) else (sutlerlaw07_DirsTurns.j0 k l0 t251 t258 t266 true))) else (sutlerlaw07_DirsTurns.j0 k l0 t251 t258 t266 true)) = some r := by rw [if_pos rfl] at H; exact H
          clear H
          have H := H1
          clear H1
          by_cases c23 : t259 = t263
          · rw [if_pos c23] at H
            have c23b0 : (t259 == t263) = true := beq_iff_eq.mpr c23
            have c23b1 : (t259 != t263) = false := bne_eq_false_iff_eq.mpr c23
            clear c23
            replace H := Option.bind_eq_some_iff.mp H
            obtain ⟨t275, A240, H⟩ := H
            replace H : (if t275 = true then (sutlerlaw07_DirsTurns.j0 k l0 t251 t258 t266 (t267 != t271)) else (sutlerlaw07_DirsTurns.j0 k l0 t251 t258 t266 true)) = some r := H
            have A24 := Aside0.mk A240
            clear A240
            by_cases c25 : t275 = true
            · subst c25
              have H1 : (sutlerlaw07_DirsTurns.j0 k l0 t251 t258 t266 (t267 != t271)) = some r := by rw [if_pos rfl] at H; exact H
              clear H
              have H := H1
              clear H1
              have H' := Aside0.mk H
              clear H
              obtain ⟨Ao26, co26, eo26⟩ := Kd.R_slice HO261.out
              subst eo26
              obtain ⟨Ao27, co27, eo27⟩ := Kd.R_slice HO265.out
              subst eo27
              go_wp2_with (first | (go_at_call 17; (with_reducible refine (sutlerbase_SameNames.calls k _ _ t258 _ _ t262 true _ ?side1 ?side2 ?side3 ?side4 A21.out).mono ?_); (case side1 => repeat (first | exact (Kd.R_reads' HO261.out).2.2 | (with_reducible refine Kd.C_alloc ?_ _) | (with_reducible refine Kd.C_drewN ?_ _) | (with_reducible refine Kd.C_drew ?_))); (case side2 => exact (Kd.R_reads' HO261.out).2.1); (case side3 => repeat (first | exact (Kd.R_reads' HO265.out).2.2 | (with_reducible refine Kd.C_alloc ?_ _) | (with_reducible refine Kd.C_drewN ?_ _) | (with_reducible refine Kd.C_drew ?_))); (case side4 => exact (Kd.R_reads' HO265.out).2.1); rintro e w' ⟨rfl, ⟨nd, rfl⟩⟩; obtain ⟨Ao28, co28, eo28⟩ := Kd.R_slice HO269.out; subst eo28; obtain ⟨Ao29, co29, eo29⟩ := Kd.R_slice HO273.out; subst eo29) | (go_at_call 17; (with_reducible refine (sutlerbase_SameNames.calls k _ _ t266 _ _ t270 true _ ?side1 ?side2 ?side3 ?side4 A24.out).mono ?_); (case side1 => repeat (first | exact (Kd.R_reads' HO269.out).2.2 | (with_reducible refine Kd.C_alloc ?_ _) | (with_reducible refine Kd.C_drewN ?_ _) | (with_reducible refine Kd.C_drew ?_))); (case side2 => exact (Kd.R_reads' HO269.out).2.1); (case side3 => repeat (first | exact (Kd.R_reads' HO273.out).2.2 | (with_reducible refine Kd.C_alloc ?_ _) | (with_reducible refine Kd.C_drewN ?_ _) | (with_reducible refine Kd.C_drew ?_))); (case side4 => exact (Kd.R_reads' HO273.out).2.1); rintro e w' ⟨rfl, ⟨nd, rfl⟩⟩))
              go_meet
              case rel => exact ⟨_, ((t267 != t271)), (by first | rfl | (simp; done) | (simp [*]; done)), H', ⟨by first | omega | exact Nat.le_refl _⟩, ⟨by (with_reducible repeat (first | apply Kd.R_alloc | apply Kd.R_drewN | apply Kd.R_drew)); exact Kd.R_mono HO253.out (fun _ hk => ⟨hk.1.1.1.2, hk.1.2⟩)⟩, ⟨by (with_reducible repeat (first | apply Kd.R_alloc | apply Kd.R_drewN | apply Kd.R_drew)); exact Kd.R_mono HO261.out (fun _ hk => ⟨hk.1.1.1.2, hk.1.2⟩)⟩, ⟨by (with_reducible repeat (first | apply Kd.R_alloc | apply Kd.R_drewN | apply Kd.R_drew)); exact Kd.R_mono HO269.out (fun _ hk => ⟨hk.1.1.1.2, hk.1.1.2⟩)⟩, ⟨by repeat (first | (with_reducible first | exact HB.out | apply below_alloc | apply pw_below_drewN | apply below_drew1) | exact HB.out)⟩⟩
            · replace c25 := Bool.eq_false_iff.mpr c25
              subst c25
              have H1 : (sutlerlaw07_DirsTurns.j0 k l0 t251 t258 t266 true) = some r := by rw [if_neg (show ¬ (false = true) by decide)] at H; exact H
              clear H
              have H := H1
              clear H1
              have H' := Aside0.mk H
              clear H
              obtain ⟨Ao30, co30, eo30⟩ := Kd.R_slice HO261.out
              subst eo30
              obtain ⟨Ao31, co31, eo31⟩ := Kd.R_slice HO265.out
              subst eo31
              go_wp2_with (first | (go_at_call 17; (with_reducible refine (sutlerbase_SameNames.calls k _ _ t258 _ _ t262 true _ ?side1 ?side2 ?side3 ?side4 A21.out).mono ?_); (case side1 => repeat (first | exact (Kd.R_reads' HO261.out).2.2 | (with_reducible refine Kd.C_alloc ?_ _) | (with_reducible refine Kd.C_drewN ?_ _) | (with_reducible refine Kd.C_drew ?_))); (case side2 => exact (Kd.R_reads' HO261.out).2.1); (case side3 => repeat (first | exact (Kd.R_reads' HO265.out).2.2 | (with_reducible refine Kd.C_alloc ?_ _) | (with_reducible refine Kd.C_drewN ?_ _) | (with_reducible refine Kd.C_drew ?_))); (case side4 => exact (Kd.R_reads' HO265.out).2.1); rintro e w' ⟨rfl, ⟨nd, rfl⟩⟩; obtain ⟨Ao32, co32, eo32⟩ := Kd.R_slice HO269.out; subst eo32; obtain ⟨Ao33, co33, eo33⟩ := Kd.R_slice HO273.out; subst eo33) | (go_at_call 17; (with_reducible refine (sutlerbase_SameNames.calls k _ _ t266 _ _ t270 false _ ?side1 ?side2 ?side3 ?side4 A24.out).mono ?_); (case side1 => repeat (first | exact (Kd.R_reads' HO269.out).2.2 | (with_reducible refine Kd.C_alloc ?_ _) | (with_reducible refine Kd.C_drewN ?_ _) | (with_reducible refine Kd.C_drew ?_))); (case side2 => exact (Kd.R_reads' HO269.out).2.1); (case side3 => repeat (first | exact (Kd.R_reads' HO273.out).2.2 | (with_reducible refine Kd.C_alloc ?_ _) | (with_reducible refine Kd.C_drewN ?_ _) | (with_reducible refine Kd.C_drew ?_))); (case side4 => exact (Kd.R_reads' HO273.out).2.1); rintro e w' ⟨rfl, ⟨nd, rfl⟩⟩))
              go_meet
              case rel => exact ⟨_, (true), (by first | rfl | (simp; done) | (simp [*]; done)), H', ⟨by first | omega | exact Nat.le_refl _⟩, ⟨by (with_reducible repeat (first | apply Kd.R_alloc | apply Kd.R_drewN | apply Kd.R_drew)); exact Kd.R_mono HO253.out (fun _ hk => ⟨hk.1.1.1.2, hk.1.2⟩)⟩, ⟨by (with_reducible repeat (first | apply Kd.R_alloc | apply Kd.R_drewN | apply Kd.R_drew)); exact Kd.R_mono HO261.out (fun _ hk => ⟨hk.1.1.1.2, hk.1.2⟩)⟩, ⟨by (with_reducible repeat (first | apply Kd.R_alloc | apply Kd.R_drewN | apply Kd.R_drew)); exact Kd.R_mono HO269.out (fun _ hk => ⟨hk.1.1.1.2, hk.1.1.2⟩)⟩, ⟨by repeat (first | (with_reducible first | exact HB.out | apply below_alloc | apply pw_below_drewN | apply below_drew1) | exact HB.out)⟩⟩
          · rw [if_neg c23] at H
            have c23b0 : (t259 == t263) = false := beq_eq_false_iff_ne.mpr c23
            have c23b1 : (t259 != t263) = true := bne_iff_ne.mpr c23
            have H' := Aside0.mk H
            clear H
            obtain ⟨Ao34, co34, eo34⟩ := Kd.R_slice HO261.out
            subst eo34
            obtain ⟨Ao35, co35, eo35⟩ := Kd.R_slice HO265.out
            subst eo35
            go_wp2_with (first | (go_at_call 17; (with_reducible refine (sutlerbase_SameNames.calls k _ _ t258 _ _ t262 true _ ?side1 ?side2 ?side3 ?side4 A21.out).mono ?_); (case side1 => repeat (first | exact (Kd.R_reads' HO261.out).2.2 | (with_reducible refine Kd.C_alloc ?_ _) | (with_reducible refine Kd.C_drewN ?_ _) | (with_reducible refine Kd.C_drew ?_))); (case side2 => exact (Kd.R_reads' HO261.out).2.1); (case side3 => repeat (first | exact (Kd.R_reads' HO265.out).2.2 | (with_reducible refine Kd.C_alloc ?_ _) | (with_reducible refine Kd.C_drewN ?_ _) | (with_reducible refine Kd.C_drew ?_))); (case side4 => exact (Kd.R_reads' HO265.out).2.1); rintro e w' ⟨rfl, ⟨nd, rfl⟩⟩))
            go_meet
            case rel => exact ⟨_, (true), (by first | rfl | (simp; done) | (simp [*]; done)), H', ⟨by first | omega | exact Nat.le_refl _⟩, ⟨by (with_reducible repeat (first | apply Kd.R_alloc | apply Kd.R_drewN | apply Kd.R_drew)); exact Kd.R_mono HO253.out (fun _ hk => ⟨hk.1.1.1.2, hk.1.2⟩)⟩, ⟨by (with_reducible repeat (first | apply Kd.R_alloc | apply Kd.R_drewN | apply Kd.R_drew)); exact Kd.R_mono HO261.out (fun _ hk => ⟨hk.1.1.1.2, hk.1.2⟩)⟩, ⟨by (with_reducible repeat (first | apply Kd.R_alloc | apply Kd.R_drewN | apply Kd.R_drew)); exact Kd.R_mono HO269.out (fun _ hk => ⟨hk.1.1.1.2, hk.1.1.2⟩)⟩, ⟨by repeat (first | (with_reducible first | exact HB.out | apply below_alloc | apply pw_below_drewN | apply below_drew1) | exact HB.out)⟩⟩
        · replace c22 := Bool.eq_false_iff.mpr c22
          subst c22
          have H1 : (sutlerlaw07_DirsTurns.j0 k l0 t251 t258 t266 true) = some r := by rw [if_neg (show ¬ (false = true) by decide)] at H; exact H
          clear H
          have H := H1
          clear H1
          have H' := Aside0.mk H
          clear H
          obtain ⟨Ao36, co36, eo36⟩ := Kd.R_slice HO261.out
          subst eo36
          obtain ⟨Ao37, co37, eo37⟩ := Kd.R_slice HO265.out
          subst eo37
          go_wp2_with (first | (go_at_call 17; (with_reducible refine (sutlerbase_SameNames.calls k _ _ t258 _ _ t262 false _ ?side1 ?side2 ?side3 ?side4 A21.out).mono ?_); (case side1 => repeat (first | exact (Kd.R_reads' HO261.out).2.2 | (with_reducible refine Kd.C_alloc ?_ _) | (with_reducible refine Kd.C_drewN ?_ _) | (with_reducible refine Kd.C_drew ?_))); (case side2 => exact (Kd.R_reads' HO261.out).2.1); (case side3 => repeat (first | exact (Kd.R_reads' HO265.out).2.2 | (with_reducible refine Kd.C_alloc ?_ _) | (with_reducible refine Kd.C_drewN ?_ _) | (with_reducible refine Kd.C_drew ?_))); (case side4 => exact (Kd.R_reads' HO265.out).2.1); rintro e w' ⟨rfl, ⟨nd, rfl⟩⟩))
          go_meet
          case rel => exact ⟨_, (true), (by first | rfl | (simp; done) | (simp [*]; done)), H', ⟨by first | omega | exact Nat.le_refl _⟩, ⟨by (with_reducible repeat (first | apply Kd.R_alloc | apply Kd.R_drewN | apply Kd.R_drew)); exact Kd.R_mono HO253.out (fun _ hk => ⟨hk.1.1.1.2, hk.1.2⟩)⟩, ⟨by (with_reducible repeat (first | apply Kd.R_alloc | apply Kd.R_drewN | apply Kd.R_drew)); exact Kd.R_mono HO261.out (fun _ hk => ⟨hk.1.1.1.2, hk.1.2⟩)⟩, ⟨by (with_reducible repeat (first | apply Kd.R_alloc | apply Kd.R_drewN | apply Kd.R_drew)); exact Kd.R_mono HO269.out (fun _ hk => ⟨hk.1.1.1.2, hk.1.1.2⟩)⟩, ⟨by repeat (first | (with_reducible first | exact HB.out | apply below_alloc | apply pw_below_drewN | apply below_drew1) | exact HB.out)⟩⟩
      · rw [if_neg c20] at H
        have c20b0 : (t255 == t257) = false := beq_eq_false_iff_ne.mpr c20
        have c20b1 : (t255 != t257) = true := bne_iff_ne.mpr c20
        have H' := Aside0.mk H
        clear H
        go_wp2
        go_meet
        case rel => exact ⟨_, (true), (by first | rfl | (simp; done) | (simp [*]; done)), H', ⟨by first | omega | exact Nat.le_refl _⟩, ⟨by (with_reducible repeat (first | apply Kd.R_alloc | apply Kd.R_drewN | apply Kd.R_drew)); exact Kd.R_mono HO253.out (fun _ hk => ⟨hk.1.1.1.2, hk.1.2⟩)⟩, ⟨by (with_reducible repeat (first | apply Kd.R_alloc | apply Kd.R_drewN | apply Kd.R_drew)); exact Kd.R_mono HO261.out (fun _ hk => ⟨hk.1.1.1.2, hk.1.2⟩)⟩, ⟨by (with_reducible repeat (first | apply Kd.R_alloc | apply Kd.R_drewN | apply Kd.R_drew)); exact Kd.R_mono HO269.out (fun _ hk => ⟨hk.1.1.1.2, hk.1.1.2⟩)⟩, ⟨by repeat (first | (with_reducible first | exact HB.out | apply below_alloc | apply pw_below_drewN | apply below_drew1) | exact HB.out)⟩⟩
    · rw [if_neg c19] at H
      have c19b0 : (t254 == t256) = false := beq_eq_false_iff_ne.mpr c19
      have c19b1 : (t254 != t256) = true := bne_iff_ne.mpr c19
      (first | rw [c19b0] | (simp only [i64_w, i32_w]; rw [c19b0]) | skip)
      have H' := Aside0.mk H
      clear H
      go_wp2
      go_meet
      case rel => exact ⟨_, (true), (by first | rfl | (simp; done) | (simp [*]; done)), H', ⟨by first | omega | exact Nat.le_refl _⟩, ⟨by (with_reducible repeat (first | apply Kd.R_alloc | apply Kd.R_drewN | apply Kd.R_drew)); exact Kd.R_mono HO253.out (fun _ hk => ⟨hk.1.1.1.2, hk.1.2⟩)⟩, ⟨by (with_reducible repeat (first | apply Kd.R_alloc | apply Kd.R_drewN | apply Kd.R_drew)); exact Kd.R_mono HO261.out (fun _ hk => ⟨hk.1.1.1.2, hk.1.2⟩)⟩, ⟨by (with_reducible repeat (first | apply Kd.R_alloc | apply Kd.R_drewN | apply Kd.R_drew)); exact Kd.R_mono HO269.out (fun _ hk => ⟨hk.1.1.1.2, hk.1.1.2⟩)⟩, ⟨by repeat (first | (with_reducible first | exact HB.out | apply below_alloc | apply pw_below_drewN | apply below_drew1) | exact HB.out)⟩⟩
  case rest =>
    clear HC11
    try clear c1
    try clear c2
    try clear p2
    try clear c4
    try clear c10
    try clear c11
    try clear c12
    try clear c13
    try clear c14
    try clear c15
    try clear c16
    try clear c19
    try clear c19b0
    try clear c19b1
    try clear c20
    try clear c20b0
    try clear c20b1
    try clear c22
    try clear c23
    try clear c23b0
    try clear c23b1
    try clear c25
    obtain ⟨kq, x91_10, rfl, HA, HJ10, HO_7, HO_12, HO_16, HB⟩ := hcut
    cases kq with
    | zero => exact absurd HA.out (by simp [sutlerlaw07_DirsTurns.j0])
    | succ kj10 =>
      have H := HA.out
      clear HA
      simp only [sutlerlaw07_DirsTurns.j0] at H
      by_cases c38 : x91_10 = true
      · subst c38
        have H1 : (some false) = some r := by rw [if_pos rfl] at H; exact H
        clear H
        have H := H1
        clear H1
        obtain rfl := Option.some.inj H
        go_wp2
        go_ret
        exact ⟨by first | rfl | (simp [errW_none, errW_some] <;> rfl) | (simp [*, errW_none, errW_some] <;> rfl), by repeat (first | (with_reducible first | exact HB.out | apply below_alloc | apply pw_below_drewN | apply below_drew1) | exact HB.out)⟩
      · replace c38 := Bool.eq_false_iff.mpr c38
        subst c38
        have H1 : (sutlerlaw07_DirsTurns.l0 kj10 l0 t251 t258 t266 0) = some r := by rw [if_neg (show ¬ (false = true) by decide)] at H; exact H
        clear H
        have H := H1
        clear H1
        have H' := Aside0.mk H
        clear H
        go_wp2
        go_loopg [20] kj10 (fun kq v20 w' => ∃ (x12_2 : List (S37)) (x20_2 : Int), v20 = .int .i64 x20_2 ∧ Aside0 (sutlerlaw07_DirsTurns.l0 kq l0 t251 x12_2 t266 x20_2 = some r) ∧ Aside0 (kq ≤ kj10) ∧ Aside0 (Kd.R k37 37 w' w.heap.size (fun k_ => some k_ ≠ (v260 : Value).ownBlock ∧ some k_ ≠ (v268 : Value).ownBlock) (.slice Ao13 t251.length co13) t251) ∧ Aside0 (Kd.R k37 37 w' w.heap.size (fun k_ => some k_ ≠ ((.slice Ao13 t251.length co13) : Value).ownBlock ∧ some k_ ≠ (v268 : Value).ownBlock) v260 x12_2) ∧ Aside0 (Kd.R k37 37 w' w.heap.size (fun k_ => some k_ ≠ ((.slice Ao13 t251.length co13) : Value).ownBlock ∧ some k_ ≠ (v260 : Value).ownBlock) v268 t266) ∧ Aside0 (Below w.heap.size w w'))
        case atStart => exact ⟨(t258), (0), (by first | rfl | (simp; done) | (simp [*]; done)), H', ⟨Nat.le_refl _⟩, ⟨by (with_reducible repeat (first | apply Kd.R_alloc | apply Kd.R_drewN | apply Kd.R_drew)); exact HO_7.out⟩, ⟨by (with_reducible repeat (first | apply Kd.R_alloc | apply Kd.R_drewN | apply Kd.R_drew)); exact HO_12.out⟩, ⟨by (with_reducible repeat (first | apply Kd.R_alloc | apply Kd.R_drewN | apply Kd.R_drew)); exact HO_16.out⟩, ⟨by repeat (first | (with_reducible first | exact HB.out | apply below_alloc | apply pw_below_drewN | apply below_drew1) | exact HB.out)⟩⟩
        case round =>
          clear H'
          try clear c1
          try clear c2
          try clear p2
          try clear c3
          try clear c4
          try clear c10
          try clear c11
          try clear c12
          try clear c13
          try clear c14
          try clear c15
          try clear c16
          try clear c19
          try clear c19b0
          try clear c19b1
          try clear c20
          try clear c20b0
          try clear c20b1
          try clear c22
          try clear c23
          try clear c23b0
          try clear c23b1
          try clear c25
          try clear c38
          try clear p2
          obtain ⟨x12_2, x20_2, rfl, HA, HK2, HO_7, HO_12, HO_16, HB⟩ := hrel
          cases gk with
          | zero => exact absurd HA.out (by simp [sutlerlaw07_DirsTurns.l0])
          | succ k2 =>
            have H := HA.out
            clear HA
            simp only [sutlerlaw07_DirsTurns.l0] at H
            by_cases c39 : x20_2 < (x12_2.length : Int)
            · rw [if_pos c39] at H
              have c39b0 : decide (x20_2 < (x12_2.length : Int)) = true := decide_eq_true c39
              clear c39
              by_cases c40 : 0 ≤ x20_2
              · rw [if_pos c40] at H
                have c40b0 : decide (0 ≤ x20_2) = true := decide_eq_true c40
                clear c40
                obtain ⟨y276, hy276⟩ : ∃ y_ : List (S37), y_ = (x12_2.set (x20_2 : Int).toNat (⟨(⟨#[115, 112, 111, 105, 108, 116]⟩ : ByteArray), (rd_T37 x12_2 x20_2).f1⟩ : S37)) := ⟨_, rfl⟩
                replace H : (sutlerlaw07_DirsTurns.l0 k2 l0 t251 y276 t266 (wrap64 (x20_2 + 1))) = some r := by first | (rw [hy276]; with_reducible exact H) | (have H2_ := (Option.bind_some _ _).symm.trans H; rw [hy276]; with_reducible exact H2_) | (have H2_ := (Option.bind_some _ _).symm.trans H; with_reducible exact H2_) | with_reducible exact H | (rw [hy276]; exact H) | exact H
                have Ny276 := Aside0.mk hy276
                clear hy276
                have H' := Aside0.mk H
                clear H
                obtain ⟨Ao42, co42, eo42⟩ := Kd.R_slice HO_12.out
                subst eo42
                have p41 : 0 ≤ (x20_2 : Int) := of_decide_eq_true (by first | (with_reducible assumption) | assumption)
                have q41 : (x20_2 : Int) < ((x12_2.length : Int) : Int) := of_decide_eq_true (by first | (with_reducible assumption) | assumption)
                obtain ⟨go41, co41, eo41, gb41, gl41, cl41, HG41⟩ := Kd.R_form HO_12.out (by omega)
                (first | cases eo41 | (injection eo41 with ea_ en_ ec_; (first | subst ea_ | (injection ea_ with ea_; subst ea_)); subst ec_; clear en_))
                have GB41 := Aside0.mk gb41
                have GG41 := Aside0.mk HG41
                clear gb41 gl41 HG41
                obtain ⟨ce41, hcl41, hM41, hcc41, hfr41⟩ := Kd.R_elem HO_12.out z37 (x20_2 : Int) p41 q41
                obtain rfl := k37_openM hM41
                have hx41_0 : wr.cell? ⟨go41, (x20_2 : Int).toNat * 2, none⟩ = some (.string ((rd_T37 x12_2 x20_2).f0)) := hcc41 0 _ rfl
                have hx41_1 : wr.cell? ⟨go41, (x20_2 : Int).toNat * 2 + 1, none⟩ = some (.int .i64 ((rd_T37 x12_2 x20_2).f1)) := hcc41 1 _ rfl
                have hf41_0 : wr.frozen? ⟨go41, (x20_2 : Int).toNat * 2, none⟩ = false := hfr41 0
                have hf41_1 : wr.frozen? ⟨go41, (x20_2 : Int).toNat * 2 + 1, none⟩ = false := hfr41 1
                clear hcl41 hcc41 hfr41 hM41
                replace p41 := eq_true p41
                replace q41 := eq_true q41
                have HX43 := Aside0.mk (show Kd.R k37 37 wr w.heap.size (fun k_ => some k_ ≠ (.slice Ao13 t251.length co13 : Value).ownBlock ∧ some k_ ≠ (v268 : Value).ownBlock) (.slice (some ⟨go41, 0, none⟩) x12_2.length co42) x12_2 from (by (with_reducible repeat (first | apply Kd.R_alloc | apply Kd.R_drewN | apply Kd.R_drew)); exact HO_12.out))
                obtain ⟨ce43, hcl43, hM43, hcc43, hfr43⟩ := Kd.R_elem HX43.out z37 (x20_2 : Int) (of_decide_eq_true (by first | (with_reducible assumption) | assumption)) (by have h_ : (x20_2 : Int) < ((x12_2.length : Int) : Int) := of_decide_eq_true (by first | (with_reducible assumption) | assumption); first | exact h_ | (have e_ := (Kd.R_reads' HO_12.out).1; omega) | simpa using h_)
                obtain rfl := k37_openM hM43
                have HP43 := Kd.R_seg HX43.out (x20_2 : Int) (of_decide_eq_true (by first | (with_reducible assumption) | assumption)) (by have h_ : (x20_2 : Int) < ((x12_2.length : Int) : Int) := of_decide_eq_true (by first | (with_reducible assumption) | assumption); first | exact h_ | (have e_ := (Kd.R_reads' HO_12.out).1; omega) | simpa using h_) (seg := [.string (⟨#[115, 112, 111, 105, 108, 116]⟩ : ByteArray)]) (j := 0) hcl43 hcc43 (show 1 ≤ 2 from by decide) (x' := (⟨(⟨#[115, 112, 111, 105, 108, 116]⟩ : ByteArray), (rd_T37 x12_2 x20_2).f1⟩ : S37)) (k37_mkM _ _ _ (⟨(⟨#[115, 112, 111, 105, 108, 116]⟩ : ByteArray), (rd_T37 x12_2 x20_2).f1⟩ : S37) ) (fun _ hk => hk)
                have hx43_0 := hcc43 0 _ rfl
                (try simp only [show (k37).sz = 2 from rfl, Nat.mul_one, Nat.add_zero] at hx43_0)
                have hf43_0 := hfr43 0
                (try simp only [show (k37).sz = 2 from rfl, Nat.mul_one, Nat.add_zero] at hf43_0)
                clear hcl43 hcc43 hfr43 hM43
                go_wp2_with (first | ((with_reducible refine gate_store (t := 9) (p := 101) rfl ?_); refine store_event (t := 9) (p := 101) (v := ?vo_w44) (w1 := (wr.setCell ⟨go41, (x20_2 : Int).toNat * 2, none⟩ (.string (⟨#[115, 112, 111, 105, 108, 116]⟩ : ByteArray)))) ?hg ?ho ?hn ?hr ?_; (case ho => rfl); (case hg => rfl); (case hn => rfl); (case hr => first | (go_simp; done) | (go_simp; rfl)); intro w44 hw; have hg : wr.grownBy w44 (some go41) := (by rw [hw]; exact HP43.2); have hp_ : Kd.R k37 37 w44 w.heap.size (fun k_ => some k_ ≠ (.slice Ao13 t251.length co13 : Value).ownBlock ∧ some k_ ≠ (v268 : Value).ownBlock) (.slice (some ⟨go41, 0, none⟩) x12_2.length co42) y276 := (by rw [hw, Ny276.out]; exact HP43.1); clear HP43; have n0_ := Aside0.mk (Kd.R_after (v := (.slice (some ⟨go41, 0, none⟩) x12_2.length co42)) (v1 := (.slice (some ⟨go41, 0, none⟩) x12_2.length co42)) (ok := (fun k_ => some k_ ≠ (v268 : Value).ownBlock)) (by (with_reducible repeat (first | apply Kd.R_alloc | apply Kd.R_drewN | apply Kd.R_drew)); exact Kd.R_mono HO_7.out (fun _ hk => ⟨hk.2, hk.1⟩)) hg (.inl rfl)); have n1_ := Aside0.mk (hp_); have n2_ := Aside0.mk (Kd.R_after (v := (.slice (some ⟨go41, 0, none⟩) x12_2.length co42)) (v1 := (.slice (some ⟨go41, 0, none⟩) x12_2.length co42)) (ok := (fun k_ => some k_ ≠ (.slice Ao13 t251.length co13 : Value).ownBlock)) (by (with_reducible repeat (first | apply Kd.R_alloc | apply Kd.R_drewN | apply Kd.R_drew)); exact HO_16.out) hg (.inl rfl)); have n3_ := Aside0.mk ((by rw [hw]; exact below_set (HB.out) GB41.out : Below w.heap.size w w44)); clear HO_7; clear HO_12; clear HO_16; clear HB; have HO_7 := n0_; have HO_12 := n1_; have HO_16 := n2_; have HB := n3_; clear n0_ n1_ n2_ n3_; clear hg hw hp_))
                go_roundg k2
                case measure => have := HJ10.out; have := HK2.out; omega
                case rel => exact ⟨(y276), (wrap64 (x20_2 + 1)), (by first | rfl | (simp; done) | (simp [*]; done)), H', ⟨by have := HJ10.out; have := HK2.out; omega⟩, ⟨by (with_reducible repeat (first | apply Kd.R_alloc | apply Kd.R_drewN | apply Kd.R_drew)); exact Kd.R_mono HO_7.out (fun _ hk => ⟨hk.2, hk.1⟩)⟩, ⟨by (with_reducible repeat (first | apply Kd.R_alloc | apply Kd.R_drewN | apply Kd.R_drew)); exact HO_12.out⟩, ⟨by (with_reducible repeat (first | apply Kd.R_alloc | apply Kd.R_drewN | apply Kd.R_drew)); exact HO_16.out⟩, ⟨by repeat (first | (with_reducible first | exact HB.out | apply below_alloc | apply pw_below_drewN | apply below_drew1) | exact HB.out)⟩⟩
              · rw [if_neg c40] at H
                exact absurd H (by simp)
            · rw [if_neg c39] at H
              have c39b0 : decide (x20_2 < (x12_2.length : Int)) = false := decide_eq_false c39
              clear c39
              have H' := Aside0.mk H
              clear H
              obtain ⟨Ao45, co45, eo45⟩ := Kd.R_slice HO_12.out
              subst eo45
              go_wp2
              go_loopg [21] k2 (fun kq v21 w' => ∃ (x16_3 : List (S37)) (x21_3 : Int), v21 = .int .i64 x21_3 ∧ Aside0 (sutlerlaw07_DirsTurns.l1 kq l0 t251 x16_3 x21_3 = some r) ∧ Aside0 (kq ≤ k2) ∧ Aside0 (Kd.R k37 37 w' w.heap.size (fun k_ => some k_ ≠ (v268 : Value).ownBlock) (.slice Ao13 t251.length co13) t251) ∧ Aside0 (Kd.R k37 37 w' w.heap.size (fun k_ => some k_ ≠ ((.slice Ao13 t251.length co13) : Value).ownBlock) v268 x16_3) ∧ Aside0 (Below w.heap.size w w'))
              case atStart => exact ⟨(t266), (0), (by first | rfl | (simp; done) | (simp [*]; done)), H', ⟨Nat.le_refl _⟩, ⟨by (with_reducible repeat (first | apply Kd.R_alloc | apply Kd.R_drewN | apply Kd.R_drew)); exact Kd.R_mono HO_7.out (fun _ hk => hk.2)⟩, ⟨by (with_reducible repeat (first | apply Kd.R_alloc | apply Kd.R_drewN | apply Kd.R_drew)); exact Kd.R_mono HO_16.out (fun _ hk => hk.1)⟩, ⟨by repeat (first | (with_reducible first | exact HB.out | apply below_alloc | apply pw_below_drewN | apply below_drew1) | exact HB.out)⟩⟩
              case round =>
                clear H'
                try clear c1
                try clear c2
                try clear p2
                try clear c3
                try clear c4
                try clear p4
                try clear q4
                try clear hx4
                try clear hf4
                try clear p6
                try clear c10
                try clear c11
                try clear c12
                try clear c13
                try clear c14
                try clear c15
                try clear c16
                try clear c19
                try clear c19b0
                try clear c19b1
                try clear c20
                try clear c20b0
                try clear c20b1
                try clear c22
                try clear c23
                try clear c23b0
                try clear c23b1
                try clear c25
                try clear c38
                try clear c39
                try clear c39b0
                try clear c40
                try clear c40b0
                try clear c41
                try clear p41
                try clear q41
                try clear hx41
                try clear hf41
                try clear c43
                try clear hx43
                try clear hf43
                try clear hx41_0
                try clear hx41_1
                try clear hx43_0
                try clear p2
                try clear p41
                try clear q41
                obtain ⟨x16_3, x21_3, rfl, HA, HK3, HO_7, HO_16, HB⟩ := hrel
                cases gk with
                | zero => exact absurd HA.out (by simp [sutlerlaw07_DirsTurns.l1])
                | succ k3 =>
                  have H := HA.out
                  clear HA
                  simp only [sutlerlaw07_DirsTurns.l1] at H
                  by_cases c46 : x21_3 < (x16_3.length : Int)
                  · rw [if_pos c46] at H
                    have c46b0 : decide (x21_3 < (x16_3.length : Int)) = true := decide_eq_true c46
                    clear c46
                    by_cases c47 : 0 ≤ x21_3
                    · rw [if_pos c47] at H
                      have c47b0 : decide (0 ≤ x21_3) = true := decide_eq_true c47
                      clear c47
                      obtain ⟨y277, hy277⟩ : ∃ y_ : List (S37), y_ = (x16_3.set (x21_3 : Int).toNat (⟨(⟨#[115, 112, 111, 105, 108, 116]⟩ : ByteArray), (rd_T37 x16_3 x21_3).f1⟩ : S37)) := ⟨_, rfl⟩
                      replace H : (sutlerlaw07_DirsTurns.l1 k3 l0 t251 y277 (wrap64 (x21_3 + 1))) = some r := by first | (rw [hy277]; with_reducible exact H) | (have H2_ := (Option.bind_some _ _).symm.trans H; rw [hy277]; with_reducible exact H2_) | (have H2_ := (Option.bind_some _ _).symm.trans H; with_reducible exact H2_) | with_reducible exact H | (rw [hy277]; exact H) | exact H
                      have Ny277 := Aside0.mk hy277
                      clear hy277
                      have H' := Aside0.mk H
                      clear H
                      obtain ⟨Ao49, co49, eo49⟩ := Kd.R_slice HO_16.out
                      subst eo49
                      have p48 : 0 ≤ (x21_3 : Int) := of_decide_eq_true (by first | (with_reducible assumption) | assumption)
                      have q48 : (x21_3 : Int) < ((x16_3.length : Int) : Int) := of_decide_eq_true (by first | (with_reducible assumption) | assumption)
                      obtain ⟨go48, co48, eo48, gb48, gl48, cl48, HG48⟩ := Kd.R_form HO_16.out (by omega)
                      (first | cases eo48 | (injection eo48 with ea_ en_ ec_; (first | subst ea_ | (injection ea_ with ea_; subst ea_)); subst ec_; clear en_))
                      have GB48 := Aside0.mk gb48
                      have GG48 := Aside0.mk HG48
                      clear gb48 gl48 HG48
                      obtain ⟨ce48, hcl48, hM48, hcc48, hfr48⟩ := Kd.R_elem HO_16.out z37 (x21_3 : Int) p48 q48
                      obtain rfl := k37_openM hM48
                      have hx48_0 : wr.cell? ⟨go48, (x21_3 : Int).toNat * 2, none⟩ = some (.string ((rd_T37 x16_3 x21_3).f0)) := hcc48 0 _ rfl
                      have hx48_1 : wr.cell? ⟨go48, (x21_3 : Int).toNat * 2 + 1, none⟩ = some (.int .i64 ((rd_T37 x16_3 x21_3).f1)) := hcc48 1 _ rfl
                      have hf48_0 : wr.frozen? ⟨go48, (x21_3 : Int).toNat * 2, none⟩ = false := hfr48 0
                      have hf48_1 : wr.frozen? ⟨go48, (x21_3 : Int).toNat * 2 + 1, none⟩ = false := hfr48 1
                      clear hcl48 hcc48 hfr48 hM48
                      replace p48 := eq_true p48
                      replace q48 := eq_true q48
                      have HX50 := Aside0.mk (show Kd.R k37 37 wr w.heap.size (fun k_ => some k_ ≠ (.slice Ao13 t251.length co13 : Value).ownBlock) (.slice (some ⟨go48, 0, none⟩) x16_3.length co49) x16_3 from (by (with_reducible repeat (first | apply Kd.R_alloc | apply Kd.R_drewN | apply Kd.R_drew)); exact HO_16.out))
                      obtain ⟨ce50, hcl50, hM50, hcc50, hfr50⟩ := Kd.R_elem HX50.out z37 (x21_3 : Int) (of_decide_eq_true (by first | (with_reducible assumption) | assumption)) (by have h_ : (x21_3 : Int) < ((x16_3.length : Int) : Int) := of_decide_eq_true (by first | (with_reducible assumption) | assumption); first | exact h_ | (have e_ := (Kd.R_reads' HO_16.out).1; omega) | simpa using h_)
                      obtain rfl := k37_openM hM50
                      have HP50 := Kd.R_seg HX50.out (x21_3 : Int) (of_decide_eq_true (by first | (with_reducible assumption) | assumption)) (by have h_ : (x21_3 : Int) < ((x16_3.length : Int) : Int) := of_decide_eq_true (by first | (with_reducible assumption) | assumption); first | exact h_ | (have e_ := (Kd.R_reads' HO_16.out).1; omega) | simpa using h_) (seg := [.string (⟨#[115, 112, 111, 105, 108, 116]⟩ : ByteArray)]) (j := 0) hcl50 hcc50 (show 1 ≤ 2 from by decide) (x' := (⟨(⟨#[115, 112, 111, 105, 108, 116]⟩ : ByteArray), (rd_T37 x16_3 x21_3).f1⟩ : S37)) (k37_mkM _ _ _ (⟨(⟨#[115, 112, 111, 105, 108, 116]⟩ : ByteArray), (rd_T37 x16_3 x21_3).f1⟩ : S37) ) (fun _ hk => hk)
                      have hx50_0 := hcc50 0 _ rfl
                      (try simp only [show (k37).sz = 2 from rfl, Nat.mul_one, Nat.add_zero] at hx50_0)
                      have hf50_0 := hfr50 0
                      (try simp only [show (k37).sz = 2 from rfl, Nat.mul_one, Nat.add_zero] at hf50_0)
                      clear hcl50 hcc50 hfr50 hM50
                      go_wp2_with (first | ((with_reducible refine gate_store (t := 9) (p := 111) rfl ?_); refine store_event (t := 9) (p := 111) (v := ?vo_w51) (w1 := (wr.setCell ⟨go48, (x21_3 : Int).toNat * 2, none⟩ (.string (⟨#[115, 112, 111, 105, 108, 116]⟩ : ByteArray)))) ?hg ?ho ?hn ?hr ?_; (case ho => rfl); (case hg => rfl); (case hn => rfl); (case hr => first | (go_simp; done) | (go_simp; rfl)); intro w51 hw; have hg : wr.grownBy w51 (some go48) := (by rw [hw]; exact HP50.2); have hp_ : Kd.R k37 37 w51 w.heap.size (fun k_ => some k_ ≠ (.slice Ao13 t251.length co13 : Value).ownBlock) (.slice (some ⟨go48, 0, none⟩) x16_3.length co49) y277 := (by rw [hw, Ny277.out]; exact HP50.1); clear HP50; have n0_ := Aside0.mk (Kd.R_after (v := (.slice (some ⟨go48, 0, none⟩) x16_3.length co49)) (v1 := (.slice (some ⟨go48, 0, none⟩) x16_3.length co49)) (ok := (fun _ => True)) (by (with_reducible repeat (first | apply Kd.R_alloc | apply Kd.R_drewN | apply Kd.R_drew)); exact Kd.R_mono HO_7.out (fun _ hk => ⟨trivial, hk⟩)) hg (.inl rfl)); have n1_ := Aside0.mk (hp_); have n2_ := Aside0.mk ((by rw [hw]; exact below_set (HB.out) GB48.out : Below w.heap.size w w51)); clear HO_7; clear HO_16; clear HB; have HO_7 := n0_; have HO_16 := n1_; have HB := n2_; clear n0_ n1_ n2_; clear hg hw hp_))
                      go_roundg k3
                      case measure => have := HJ10.out; have := HK2.out; have := HK3.out; omega
                      case rel => exact ⟨(y277), (wrap64 (x21_3 + 1)), (by first | rfl | (simp; done) | (simp [*]; done)), H', ⟨by have := HJ10.out; have := HK2.out; have := HK3.out; omega⟩, ⟨by (with_reducible repeat (first | apply Kd.R_alloc | apply Kd.R_drewN | apply Kd.R_drew)); exact Kd.R_mono HO_7.out (fun _ hk => hk.2)⟩, ⟨by (with_reducible repeat (first | apply Kd.R_alloc | apply Kd.R_drewN | apply Kd.R_drew)); exact HO_16.out⟩, ⟨by repeat (first | (with_reducible first | exact HB.out | apply below_alloc | apply pw_below_drewN | apply below_drew1) | exact HB.out)⟩⟩
                    · rw [if_neg c47] at H
                      exact absurd H (by simp)
                  · rw [if_neg c46] at H
                    have c46b0 : decide (x21_3 < (x16_3.length : Int)) = false := decide_eq_false c46
                    clear c46
                    replace H := Option.bind_eq_some_iff.mp H
                    obtain ⟨t278, A520, H⟩ := H
                    replace H : (if t278 = true then ((sutlerlaw07_works.f k3).bind fun t279 => (some t279)) else (some false)) = some r := H
                    have A52 := Aside0.mk A520
                    clear A520
                    by_cases c53 : t278 = true
                    · subst c53
                      have H1 : ((sutlerlaw07_works.f k3).bind fun t279 => (some t279)) = some r := by rw [if_pos rfl] at H; exact H
                      clear H
                      have H := H1
                      clear H1
                      replace H := Option.bind_eq_some_iff.mp H
                      obtain ⟨t279, A540, H⟩ := H
                      replace H : (some t279) = some r := H
                      have A54 := Aside0.mk A540
                      clear A540
                      obtain rfl := Option.some.inj H
                      obtain ⟨Ao55, co55, eo55⟩ := Kd.R_slice HO_16.out
                      subst eo55
                      go_wp2_with (first | ((with_reducible refine gate_callee (f := 17) rfl ?_); refine goesL_ (some 114) rfl rfl Try.func17 (by kernel_rfl) rfl #[.slice Ao13 t251.length co13, .slice A0 l0.length c0] rfl (by (try simp only [List.map_toArray, List.map_cons, List.map_nil]); first | done | rfl | (simp only [List.length_drop, List.length_take]; rfl)) ?_; (with_reducible refine (sutlerbase_SameNames.calls k3 _ _ t251 _ _ l0 true _ ?side1 ?side2 ?side3 ?side4 A52.out).mono ?_); (case side1 => repeat (first | exact (Kd.R_reads' HO_7.out).2.2 | (with_reducible refine Kd.C_alloc ?_ _) | (with_reducible refine Kd.C_drewN ?_ _) | (with_reducible refine Kd.C_drew ?_))); (case side2 => exact (Kd.R_reads' HO_7.out).2.1); (case side3 => repeat (first | exact (Kd.C_below HR0.out HB.out) | (with_reducible refine Kd.C_alloc ?_ _) | (with_reducible refine Kd.C_drewN ?_ _) | (with_reducible refine Kd.C_drew ?_))); (case side4 => exact HC0.out); rintro e w' ⟨rfl, ⟨nd, rfl⟩⟩; refine ⟨_, rfl, ?_⟩) | (go_at_call 8; (with_reducible refine (sutlerlaw07_works.calls k3  t279 _ A54.out).mono ?_); rintro e w56 ⟨rfl, hb⟩; have n0_ := Aside0.mk (Kd.R_below (by (with_reducible repeat (first | apply Kd.R_alloc | apply Kd.R_drewN | apply Kd.R_drew)); exact HO_7.out) hb); have n1_ := Aside0.mk (Kd.R_below (by (with_reducible repeat (first | apply Kd.R_alloc | apply Kd.R_drewN | apply Kd.R_drew)); exact HO_16.out) hb); have n2_ := Aside0.mk (below_step (by repeat (first | (with_reducible first | exact HB.out | apply below_alloc | apply pw_below_drewN | apply below_drew1) | exact HB.out)) hb); clear HO_7; clear HO_16; clear HB; have HO_7 := n0_; have HO_16 := n1_; have HB := n2_; clear n0_ n1_ n2_; (try clear hb); (try clear hb2); (try clear hk); (try clear hi)))
                      go_ret
                      exact ⟨by first | rfl | (simp [errW_none, errW_some] <;> rfl) | (simp [*, errW_none, errW_some] <;> rfl), by repeat (first | (with_reducible first | exact HB.out | apply below_alloc | apply pw_below_drewN | apply below_drew1) | exact HB.out)⟩
                    · replace c53 := Bool.eq_false_iff.mpr c53
                      subst c53
                      have H1 : (some false) = some r := by rw [if_neg (show ¬ (false = true) by decide)] at H; exact H
                      clear H
                      have H := H1
                      clear H1
                      obtain rfl := Option.some.inj H
                      obtain ⟨Ao57, co57, eo57⟩ := Kd.R_slice HO_16.out
                      subst eo57
                      go_wp2_with (first | ((with_reducible refine gate_callee (f := 17) rfl ?_); refine goesL_ (some 114) rfl rfl Try.func17 (by kernel_rfl) rfl #[.slice Ao13 t251.length co13, .slice A0 l0.length c0] rfl (by (try simp only [List.map_toArray, List.map_cons, List.map_nil]); first | done | rfl | (simp only [List.length_drop, List.length_take]; rfl)) ?_; (with_reducible refine (sutlerbase_SameNames.calls k3 _ _ t251 _ _ l0 false _ ?side1 ?side2 ?side3 ?side4 A52.out).mono ?_); (case side1 => repeat (first | exact (Kd.R_reads' HO_7.out).2.2 | (with_reducible refine Kd.C_alloc ?_ _) | (with_reducible refine Kd.C_drewN ?_ _) | (with_reducible refine Kd.C_drew ?_))); (case side2 => exact (Kd.R_reads' HO_7.out).2.1); (case side3 => repeat (first | exact (Kd.C_below HR0.out HB.out) | (with_reducible refine Kd.C_alloc ?_ _) | (with_reducible refine Kd.C_drewN ?_ _) | (with_reducible refine Kd.C_drew ?_))); (case side4 => exact HC0.out); rintro e w' ⟨rfl, ⟨nd, rfl⟩⟩; refine ⟨_, rfl, ?_⟩))
                      go_ret
                      exact ⟨by first | rfl | (simp [errW_none, errW_some] <;> rfl) | (simp [*, errW_none, errW_some] <;> rfl), by repeat (first | (with_reducible first | exact HB.out | apply below_alloc | apply pw_below_drewN | apply below_drew1) | exact HB.out)⟩

end Go.Proofs.Ytcklpecjcebekaa.PAll
end
section
/- Names looked for, added and removed: the program and the reference come to the same (DirsTurns), in plain Lean. -/
namespace Go.Proofs.Ytcklpecjcebekaa.PAll
open Go.RowKit Go.Lib Go.Proofs.YtcklpecjcebekaaW.PrintWords Go.Proofs.YtcklpecjcebekaaW.PrintLast Go.Proofs.YtcklpecjcebekaaW.PrintMore Go.Proofs.Ytcklpecjcebekaa Go.Proofs.Ytcklpecjcebekaa.Sp
set_option linter.unusedVariables false
set_option linter.unusedSimpArgs false

theorem works_all : Ev sutlerlaw07_works.f true := Ev.of (g := sutlerlaw07_works.f) sutlerlaw07_works.mono (k := 10) works_ten
theorem names_f (l : List S37) (hl : l.length < 5864062014805) : sutlerlaw07_names.f l = some l := by
  simp [sutlerlaw07_names.f, hl]

theorem slot_facts (l : List S37) (s : ByteArray) : slot l s ≤ l.length ∧ (∀ j, j < slot l s → Op.bytesLess s.toList (rd_T37 l (j : Int)).f0.toList = false) ∧ (slot l s < l.length → Op.bytesLess s.toList (rd_T37 l (slot l s : Int)).f0.toList = true) := by
  unfold slot
  dsimp only
  rcases idx_facts (fun x => Op.bytesLess s.toList x.f0.toList) l with ⟨h, hf⟩ | ⟨m, h, hm, hn, hf⟩
  · rw [h, if_pos (by omega)]
    exact ⟨Nat.le_refl _, hf, fun h => absurd h (by omega)⟩
  · rw [h, if_neg (by omega), Int.toNat_natCast]
    exact ⟨by omega, hf, fun _ => hn⟩
theorem add_ref_l0 (l : List S37) (s : ByteArray) (n : Int) (hl : l.length < 256) : ∀ (d i : Nat), slot l s - i = d → i ≤ slot l s →
    Ev (fun k => sutlerref07_Add.l0 k l s n (i : Int)) (l.take (slot l s) ++ ⟨s, n⟩ :: l.drop (slot l s), 0) := by
  obtain ⟨h1, h2, h3⟩ := slot_facts l s
  intro d
  induction d with
  | zero =>
    intro i hd hi
    have hi' : i = slot l s := by omega
    rw [← hi'] at h1 h2 h3 ⊢
    refine Ev.round (fun _ => some _) (fun k => ?_) (Ev.now _)
    simp only [sutlerref07_Add.l0]
    have e1 : (l.take i).length ≤ 256 := by rw [List.length_take]; omega
    have e2 : (l.drop i).length ≤ 256 := by rw [List.length_drop]; omega
    have f1 : ([] : List S37).length + (l.take i).length < 5864062014805 := by rw [List.length_nil]; omega
    have f2 : (([] : List S37) ++ l.take i).length + [(⟨s, n⟩ : S37)].length < 5864062014805 := by rw [List.nil_append, List.length_singleton]; omega
    have f3 : ((([] : List S37) ++ l.take i) ++ [(⟨s, n⟩ : S37)]).length + (l.drop i).length < 5864062014805 := by rw [List.nil_append, List.length_append, List.length_singleton]; omega
    have g : ((([] : List S37) ++ l.take i) ++ [(⟨s, n⟩ : S37)]) ++ l.drop i = l.take i ++ ⟨s, n⟩ :: l.drop i := by simp
    by_cases hlt : i < l.length
    · rw [if_pos (by omega), if_pos (by omega), if_pos (h3 hlt)]
      simp only [Option.bind_some, Int.toNat_natCast]
      rw [if_pos (by omega)]
      simp only [Option.bind_some, if_pos f1, if_pos f2, if_pos f3, g]
    · rw [if_neg (by omega)]
      simp only [Option.bind_some, Int.toNat_natCast]
      rw [if_pos (by omega), if_pos (by omega)]
      simp only [Option.bind_some, if_pos f1, if_pos f2, if_pos f3, g]
  | succ d ih =>
    intro i hd hi
    have hlt : i < l.length := by omega
    refine Ev.round (fun k => sutlerref07_Add.l0 k l s n (wrap64 ((i : Int) + 1))) (fun k => ?_) ?_
    · simp only [sutlerref07_Add.l0]
      rw [if_pos (by omega), if_pos (by omega), if_neg (by rw [h2 i (by omega)]; simp)]
    · rw [wrap_up hlt (by omega)]; exact ih (i + 1) (by omega) (by omega)
theorem inode_ref (n : Int) : sutlerref07_inode.f n = some (decide (0 ≤ n ∧ n ≤ 65535)) := by
  unfold sutlerref07_inode.f
  by_cases h : n ≥ 0
  · rw [if_pos h]; simp [show 0 ≤ n from h]
  · rw [if_neg h]; simp [show ¬ 0 ≤ n from h]
theorem add_both (l : List S37) (s : ByteArray) (n : Int) (hl : l.length ≤ 9223372036854775807) (hs : s.size ≤ 9223372036854775807) : ∃ r, dirs_Add.f l s n = some r ∧ Ev (fun k => sutlerref07_Add.f k l s n) r ∧ (r.2 ≠ 0 → r.1 = []) ∧ r.1.length ≤ 256 ∧ (r.2 = 0 → isName s.data.toList = true ∧ 0 ≤ n ∧ n ≤ 65535 ∧ idxL (named s) l < 0 ∧ l.length < 256 ∧ r.1 = l.take (slot l s) ++ ⟨s, n⟩ :: l.drop (slot l s)) := by
  have e : (fun x : S37 => x.f0.toList == s.toList) = named s := rfl
  have hB := look_ref l s hl hs
  have hev : ∀ r, Ev (fun k => (if (lookL l s).2 = 71 then (some (([] : List (S37)), (lookL l s).2)) else ((sutlerref07_inode.f n).bind fun t183 => (if t183 = true then (if (lookL l s).2 = 0 then (some (([] : List (S37)), 6)) else (if (l.length : Int) ≥ 256 then (some (([] : List (S37)), 4)) else (sutlerref07_Add.l0 k l s n 0))) else (some (([] : List (S37)), 2)))))) r → Ev (fun k => sutlerref07_Add.f k l s n) r := fun r h => Ev.bind hB h
  unfold dirs_Add.f
  simp only [e]
  by_cases c1 : isName s.data.toList = false
  · refine ⟨([], 71), by rw [if_pos c1], hev _ ?_, fun _ => rfl, by simp, fun h => by simp at h⟩
    have : lookL l s = (0, 71) := by unfold lookL; rw [if_pos c1]
    rw [this]; simpa using Ev.now _
  rw [if_neg c1]
  have hne : (lookL l s).2 ≠ 71 := by
    unfold lookL; rw [if_neg c1]
    split <;> simp
  rw [inode_ref] at hev
  simp only [if_neg hne, Option.bind_some] at hev
  by_cases c2 : ¬ (0 ≤ n ∧ n ≤ 65535)
  · refine ⟨([], 2), by rw [if_pos c2], hev _ ?_, fun _ => rfl, by simp, fun h => by simp at h⟩
    rw [decide_eq_false c2]; simpa using Ev.now _
  rw [if_neg c2]
  have c2' := Decidable.not_not.1 c2
  rw [decide_eq_true c2'] at hev
  simp only [if_true] at hev
  by_cases c3 : ¬ idxL (named s) l < 0
  · refine ⟨([], 6), by rw [if_pos c3], hev _ ?_, fun _ => rfl, by simp, fun h => by simp at h⟩
    have : (lookL l s).2 = 0 := by unfold lookL; rw [if_neg c1, if_neg c3]
    simp only [this, if_true]; exact Ev.now _
  rw [if_neg c3]
  have c3' := Decidable.not_not.1 c3
  have h5 : ¬ (lookL l s).2 = 0 := by unfold lookL; rw [if_neg c1, if_pos c3']; decide
  simp only [if_neg h5] at hev
  by_cases c4 : 256 ≤ l.length
  · refine ⟨([], 4), by rw [if_pos c4], hev _ ?_, fun _ => rfl, by simp, fun h => by simp at h⟩
    simp only [if_pos (show (l.length : Int) ≥ 256 by omega)]; exact Ev.now _
  rw [if_neg c4]
  simp only [if_neg (show ¬ (l.length : Int) ≥ 256 by omega)] at hev
  have hlen := ins_length l s n
  refine ⟨_, rfl, hev _ (add_ref_l0 l s n (by omega) _ 0 rfl (by omega)), fun h => absurd rfl h, ?_, fun _ => ⟨by simpa using c1, c2'.1, c2'.2, c3', by omega, rfl⟩⟩
  show (ins l s n).length ≤ 256
  omega

theorem rem_ref_l0 (l : List S37) (s : ByteArray) (hl : l.length < 5864062014805) (m : Nat) (hm : m < l.length) (hn : named s (rd_T37 l (m : Int)) = true) (hf : ∀ j, j < m → named s (rd_T37 l (j : Int)) = false) : ∀ (d i : Nat), m - i = d → i ≤ m →
    Ev (fun k => sutlerref07_Remove.l0 k l s (i : Int)) (l.take m ++ l.drop (m + 1), 0) := by
  intro d
  induction d with
  | zero =>
    intro i hd hi
    have hi' : i = m := by omega
    subst hi'
    refine Ev.round (fun _ => some _) (fun k => ?_) (Ev.now _)
    simp only [sutlerref07_Remove.l0]
    rw [if_pos (by omega), if_pos (by omega), if_pos (by simpa [named] using hn), wrap_up hm (by omega)]
    have e1 : (l.take i).length = i := by rw [List.length_take]; omega
    have e2 : (l.drop (i + 1)).length = l.length - (i + 1) := by rw [List.length_drop]
    have f1 : ([] : List S37).length + (l.take i).length < 5864062014805 := by rw [List.length_nil]; omega
    have f2 : (l.take i).length + (l.drop (i + 1)).length < 5864062014805 := by omega
    simp only [Option.bind_some, Int.toNat_natCast]
    rw [if_pos (by omega)]
    simp only [Option.bind_some, if_pos f1]
    rw [if_pos (by omega), if_pos (by omega)]
    simp only [Option.bind_some, List.nil_append]
    rw [if_pos f2]
  | succ d ih =>
    intro i hd hi
    have hlt : i < l.length := by omega
    refine Ev.round (fun k => sutlerref07_Remove.l0 k l s (wrap64 ((i : Int) + 1))) (fun k => ?_) ?_
    · simp only [sutlerref07_Remove.l0]
      rw [if_pos (by omega), if_pos (by omega), if_neg (by simpa [named] using hf i (by omega))]
    · rw [wrap_up hlt (by omega)]; exact ih (i + 1) (by omega) (by omega)
theorem rem_both (l : List S37) (s : ByteArray) (hl : l.length < 5864062014805) (hs : s.size ≤ 9223372036854775807) : ∃ r, dirs_Remove.f l s = some r ∧ Ev (fun k => sutlerref07_Remove.f k l s) r ∧ r.1.length ≤ l.length := by
  have e : (fun x : S37 => x.f0.toList == s.toList) = named s := rfl
  have hB := look_ref l s (by omega) hs
  have hev : ∀ r, Ev (fun k => (if (lookL l s).2 = 0 then (sutlerref07_Remove.l0 k l s 0) else (some (([] : List (S37)), (lookL l s).2)))) r → Ev (fun k => sutlerref07_Remove.f k l s) r := fun r h => Ev.bind hB h
  unfold dirs_Remove.f
  simp only [e]
  by_cases c1 : isName s.data.toList = false
  · refine ⟨([], 71), by rw [if_pos c1], hev _ ?_, by simp⟩
    have : lookL l s = (0, 71) := by unfold lookL; rw [if_pos c1]
    rw [this]; simpa using Ev.now _
  rw [if_neg c1]
  rcases idx_facts (named s) l with ⟨h, hf⟩ | ⟨m, h, hm, hn, hf⟩
  · refine ⟨([], 5), by rw [h, if_pos (by omega)], hev _ ?_, by simp⟩
    have : lookL l s = (0, 5) := by unfold lookL; rw [if_neg c1, h, if_pos (by omega)]
    rw [this]; simpa using Ev.now _
  · refine ⟨(l.take m ++ l.drop (m + 1), 0), by rw [h, if_neg (by omega), if_neg (by omega)]; rfl, hev _ ?_, by simp; omega⟩
    have : (lookL l s).2 = 0 := by unfold lookL; rw [if_neg c1, h, if_neg (by omega)]
    simp only [this, if_true]
    exact rem_ref_l0 l s hl m hm hn hf _ 0 rfl (by omega)

theorem spoil_l1 (l : List S37) (hl : l.length ≤ 9223372036854775807) : ∀ (d i : Nat) (x : List S37), x.length ≤ 9223372036854775807 → x.length - i = d → i ≤ x.length → Ev (fun k => sutlerlaw07_DirsTurns.l1 k l l x (i : Int)) true := by
  intro d
  induction d with
  | zero =>
    intro i x hx hd hi
    refine Ev.round (fun k => (sutlerbase_SameNames.f k l l).bind fun t278 => (if t278 = true then ((sutlerlaw07_works.f k).bind fun t279 => (some t279)) else (some false))) (fun k => ?_) ?_
    · simp only [sutlerlaw07_DirsTurns.l1]; rw [if_neg (by omega)]
    · refine Ev.bind (same_names l hl) ?_
      simp only [if_true]
      exact Ev.bind works_all (Ev.now _)
  | succ d ih =>
    intro i x hx hd hi
    have hlt : i < x.length := by omega
    refine Ev.round (fun k => sutlerlaw07_DirsTurns.l1 k l l (x.set i (⟨(⟨#[115, 112, 111, 105, 108, 116]⟩ : ByteArray), (rd_T37 x i).f1⟩ : S37)) (wrap64 ((i : Int) + 1))) (fun k => ?_) ?_
    · simp only [sutlerlaw07_DirsTurns.l1]
      rw [if_pos (by omega), if_pos (by omega), Int.toNat_natCast]
    · rw [wrap_up hlt hx]
      exact ih (i + 1) _ (by rw [List.length_set]; exact hx) (by rw [List.length_set]; omega) (by rw [List.length_set]; omega)
theorem spoil_l0 (l : List S37) (hl : l.length ≤ 9223372036854775807) (y : List S37) (hy : y.length ≤ 9223372036854775807) : ∀ (d i : Nat) (x : List S37), x.length ≤ 9223372036854775807 → x.length - i = d → i ≤ x.length → Ev (fun k => sutlerlaw07_DirsTurns.l0 k l l x y (i : Int)) true := by
  intro d
  induction d with
  | zero =>
    intro i x hx hd hi
    refine Ev.round (fun k => sutlerlaw07_DirsTurns.l1 k l l y 0) (fun k => ?_) (spoil_l1 l hl _ 0 y hy rfl (by omega))
    simp only [sutlerlaw07_DirsTurns.l0]; rw [if_neg (by omega)]
  | succ d ih =>
    intro i x hx hd hi
    have hlt : i < x.length := by omega
    refine Ev.round (fun k => sutlerlaw07_DirsTurns.l0 k l l (x.set i (⟨(⟨#[115, 112, 111, 105, 108, 116]⟩ : ByteArray), (rd_T37 x i).f1⟩ : S37)) y (wrap64 ((i : Int) + 1))) (fun k => ?_) ?_
    · simp only [sutlerlaw07_DirsTurns.l0]
      rw [if_pos (by omega), if_pos (by omega), Int.toNat_natCast]
    · rw [wrap_up hlt hx]
      exact ih (i + 1) _ (by rw [List.length_set]; exact hx) (by rw [List.length_set]; omega) (by rw [List.length_set]; omega)
theorem turns_f (l : List S37) (s : ByteArray) (n : Int) (hl : l.length < 5864062014805) (hs : s.size ≤ 9223372036854775807) : Ev (fun k => sutlerlaw07_DirsTurns.f k l s n) true := by
  obtain ⟨ra, ha, hae, _, hal, _⟩ := add_both l s n (by omega) hs
  obtain ⟨rr, hr, hre, hrl⟩ := rem_both l s hl hs
  simp only [sutlerlaw07_DirsTurns.f, names_f l hl, Option.bind_some, look_dirs, ha, hr]
  refine Ev.bind (look_ref l s (by omega) hs) ?_
  refine Ev.bind hae ?_
  refine Ev.bind hre ?_
  simp only [if_true]
  refine Ev.bind (same_names ra.1 (by omega)) ?_
  simp only [if_true]
  refine Ev.bind (same_names rr.1 (by omega)) ?_
  simp only [if_true, bne_self_eq_false]
  refine Ev.round (fun k => sutlerlaw07_DirsTurns.l0 k l l ra.1 rr.1 0) (fun k => ?_) (spoil_l0 l (by omega) rr.1 (by omega) _ 0 ra.1 (by omega) rfl (by omega))
  simp only [sutlerlaw07_DirsTurns.j0]; rw [if_neg (by simp)]
#print axioms turns_f
end Go.Proofs.Ytcklpecjcebekaa.PAll
end
section
/- The law DirsTurns, walked. -/
namespace Go.Proofs.Ytcklpecjcebekaa.PAll
open Go.RowKit Go.Proofs.YtcklpecjcebekaaW.PrintWords
theorem turns_walk (A0 : Option Addr) (c0 : Nat) (l0 : List (S37)) (a1 : ByteArray) (a2 : Int) (w : World) (hr0 : Kd.C k37 w A0 l0.length l0) (hc0 : l0.length ≤ c0) (hl : l0.length * 24 ≤ reachBytes) (hs : a1.size ≤ 140737488351232) :
    Calls Try.prog 4 #[.slice A0 l0.length c0, .string a1, .int .i64 a2] w fun e w' => e = .returned (.bool true) ∧ Below w.heap.size w w' := by
  have hb : reachBytes = 140737488351232 := rfl
  obtain ⟨k, hk⟩ := (turns_f l0 a1 a2 (by omega) (by omega)).rounds
  exact sutlerlaw07_DirsTurns.calls k A0 c0 l0 a1 a2 true w hr0 hc0 hk
end Go.Proofs.Ytcklpecjcebekaa.PAll
end
