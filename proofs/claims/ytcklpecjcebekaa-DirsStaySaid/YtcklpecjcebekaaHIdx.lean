/- slices.IndexFunc at entries, over a closure that only looks. -/
import Derived.Shelf.Abstract
import Derived.Shelf.RegionOpen
import Derived.WalkKit
import Derived.Outline
import Derived.Deep.QuietTactic
import Derived.BigQuiet
import Derived.WalkSpells
import Derived.Deep.DeepFit
import Derived.Lib.Hide
import Derived.Lib.QuietBelow
import Derived.Test.YtcklpecjcebekaaPAllx0
namespace Go.Proofs.Ytcklpecjcebekaa.PAll
open Go.RowKit Go.Shelf Go.Lib Go.Proofs.YtcklpecjcebekaaW.PrintWords
attribute [local go_sem] Oper.semAt_some

/-- The first place at which p holds, or -1. -/
def idxL (p : S37 → Bool) (l : List S37) : Int := match l.findIdx? p with | some i => (i : Int) | none => -1
theorem idxL_none {p : S37 → Bool} {l : List S37} (h : ∀ j, j < l.length → p (rd_T37 l (j : Int)) = false) : idxL p l = -1 := by
  unfold idxL
  have : l.findIdx? p = none := by
    rw [List.findIdx?_eq_none_iff]
    intro x hx
    obtain ⟨j, hj, rfl⟩ := List.getElem_of_mem hx
    have := h j hj
    simpa [rd_T37, List.getD_eq_getElem?_getD, hj] using this
  rw [this]
theorem idxL_some {p : S37 → Bool} {l : List S37} {k : Nat} (hk : k < l.length) (hp : p (rd_T37 l (k : Int)) = true) (h : ∀ j, j < k → p (rd_T37 l (j : Int)) = false) : idxL p l = (k : Int) := by
  unfold idxL
  have : l.findIdx? p = some k := by
    rw [List.findIdx?_eq_some_iff_getElem]
    refine ⟨hk, by simpa [rd_T37, List.getD_eq_getElem?_getD, hk] using hp, fun j hj => ?_⟩
    have hjl : j < l.length := by omega
    have := h j hj
    simpa [rd_T37, List.getD_eq_getElem?_getD, hjl] using this
  rw [this]

theorem bl_trans {w w1 w2 : World} (h : Below w.heap.size w w1) (k : Below w1.heap.size w1 w2) : Below w.heap.size w w2 := h.trans (k.mono h.size)
def enc37 (x : S37) : Value := .agg #[.string x.f0, .int .i64 x.f1]

set_option maxRecDepth 100000 in
set_option maxHeartbeats 2000000 in
theorem idx_calls (g : Nat) (lb : Array Value) (eg : ∀ args w, (callFunc g args).run Try.prog w = .ok (.enter g args) w) (p : S37 → Bool) (A : Option Addr) (c : Nat) (l : List S37) (w : World) (hC : Kd.C k37 w A l.length l)
    (hp : ∀ W x, Below w.heap.size w W → Calls Try.prog g (#[.agg #[.string x.f0, .int .i64 x.f1]] ++ lb) W fun e w' => e = .returned (.bool (p x)) ∧ Below W.heap.size W w') :
    Calls Try.prog 28 #[.slice A l.length c, .func (.func g) #[] lb] w fun e w' => e = .returned (.int .i64 (idxL p l)) ∧ Below w.heap.size w w' := by
  have hu37 := Try.underlying37
  have HC := Lib.hid hC; clear hC
  have HP := Lib.hid hp; clear hp
  have hl : l.length ≤ 9223372036854775807 := HC.out.2.1
  obtain ⟨R, hR⟩ : ∃ R, idxL p l = R := ⟨_, rfl⟩
  rw [hR]
  have HR := Lib.hid hR; clear hR
  go_enter Try.func28, Try.ntmps28
  go_wp2_with fail
  go_loopw [8] (fun i W => ∃ k : Nat, i = .int .i64 (k : Int) ∧ k ≤ l.length ∧ (∀ j, j < k → p (rd_T37 l (j : Int)) = false) ∧ Below w.heap.size w W) (fun i _ => l.length - (intOf i).toNat)
  case atStart => exact ⟨0, rfl, by omega, fun j hj => absurd hj (by omega), Below.refl _ _⟩
  case round =>
    obtain ⟨k, rfl, hk, hF, HB⟩ := hrel
    by_cases hlt : k < l.length
    · have t1 : decide ((k : Int) < (l.length : Int)) = true := decide_eq_true (by omega)
      have t3 : (k : Int) < (l.length : Int) := by omega
      obtain ⟨ad, rfl, h0, h1⟩ := at_T37 HC.out (k : Int) (by omega) (by omega)
      have g0 := (HB.cell (World.block_lt_of_cell? w _ h0)).trans h0
      have g1 := (HB.cell (World.block_lt_of_cell? w _ h1)).trans h1
      have hcl := HP.out wr (rd_T37 l (k : Int)) HB
      have hwk : wrap64 ((k : Int) + 1) = ((k + 1 : Nat) : Int) := by unfold wrap64; omega
      clear h0 h1
      simp only [Int.toNat_natCast] at g0 g1
      obtain ⟨x, hx⟩ : ∃ x, x = rd_T37 l (k : Int) := ⟨_, rfl⟩
      rw [← hx] at g0 g1 hcl
      cases hpk : p x with
      | true =>
        rw [hpk] at hcl
        have hv : idxL p l = (k : Int) := idxL_some hlt (by rw [← hx]; exact hpk) hF
        have HV := Lib.hid (HR.out.symm.trans hv)
        clear hF hx hv
        go_wp2_with fail
        refine hcl.mono ?_
        rintro e w1 ⟨rfl, hb⟩
        replace HB := bl_trans HB hb
        go_wp2
        go_ret
        exact ⟨by rw [HV.out]; rfl, HB⟩
      | false =>
        rw [hpk] at hcl
        have hF' : ∀ j, j < k + 1 → p (rd_T37 l (j : Int)) = false := by
          intro j hj
          by_cases e : j = k
          · subst e; rw [← hx]; exact hpk
          · exact hF j (by omega)
        have HF := Lib.hid hF'
        clear hF hF' hx
        go_wp2_with fail
        refine hcl.mono ?_
        rintro e w1 ⟨rfl, hb⟩
        replace HB := bl_trans HB hb
        go_wp2
        exact ⟨⟨k + 1, rfl, by omega, HF.out, HB⟩, by simp [intOf]; omega⟩
    · have hkl : k = l.length := by omega
      have t1 : decide ((k : Int) < (l.length : Int)) = false := decide_eq_false (by omega)
      have hv : idxL p l = -1 := idxL_none (by rw [← hkl]; exact hF)
      have HV := Lib.hid (HR.out.symm.trans hv)
      clear hv
      go_wp2
      go_ret
      exact ⟨by rw [HV.out]; rfl, HB⟩
end Go.Proofs.Ytcklpecjcebekaa.PAll
