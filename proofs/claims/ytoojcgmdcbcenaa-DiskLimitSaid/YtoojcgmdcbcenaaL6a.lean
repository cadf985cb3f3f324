/- DiskLimit: a disk with a limit takes just so many operations, and does these as one without a limit does. -/
import Derived.Test.YtoojcgmdcbcenaaLw
namespace Go.Proofs.Ytoojcgmdcbcenaa
open Go.RowKit Go.Maps Go.Proofs.YtoojcgmdcbcenaaW.PrintWords
attribute [local go_sem ↓] Go.wp_at_zero Go.wp_at_succ
set_option linter.unusedVariables false
set_option linter.unusedSimpArgs false
set_option maxRecDepth 100000

/-- An operation: its answer, and the disk behind it. -/
def opD (d : Dsk) (x : S42) : Int × Dsk := if among x.f0 4 = 3 then d.sync else d.write (among x.f1 d.vals.length : Nat) (fullS x.f3)
def st1 (vals : List (List Sec)) (x : S42) : List (List Sec) := if among x.f0 4 = 3 then vals.map fun l => [lastOf l] else vals.modify (among x.f1 vals.length) (· ++ [fullS x.f3])
theorem do1_op (d : Dsk) (x : S42) : do1 d x = (opD d x).2 := by unfold do1 opD; split <;> rfl
theorem st1_len (vals : List (List Sec)) (x : S42) : (st1 vals x).length = vals.length := by unfold st1; split <;> simp
theorem opD_ok {d : Dsk} (x : S42) (ho : d.off = false) (hl : d.left ≠ 0) (hn : 0 < d.vals.length) : opD d x = (0, { d with vals := st1 d.vals x, left := max (-1) (d.left - 1), taken := d.taken + 1 }) := by
  have ht : d.take = (true, { d with left := max (-1) (d.left - 1), taken := d.taken + 1 }) := by
    unfold Dsk.take
    rw [if_neg (by rw [ho]; intro h; rcases h with h | h; cases h; exact hl h)]
  have ha := among_lt x.f1 hn
  unfold opD st1
  split
  · unfold Dsk.sync
    rw [ht]; rfl
  · unfold Dsk.write
    rw [if_neg (by omega), if_neg (by rw [fullS_len]; decide), ht]; rfl
theorem opD_no {d : Dsk} (x : S42) (h : d.off = true ∨ d.left = 0) (hn : 0 < d.vals.length) : opD d x = (10, { d with off := true }) := by
  have ht : d.take = (false, { d with off := true }) := by
    unfold Dsk.take
    rw [if_pos h]
  have ha := among_lt x.f1 hn
  unfold opD
  split
  · unfold Dsk.sync
    rw [ht]; rfl
  · unfold Dsk.write
    rw [if_neg (by omega), if_neg (by rw [fullS_len]; decide), ht]; rfl
theorem free_vals : ∀ (l : List S42) (d : Dsk), Free d → 0 < d.vals.length → (doD d l).vals = l.foldl st1 d.vals
  | [], _, _, _ => rfl
  | x :: r, d, h, hn => by
    rw [doD, List.foldl_cons, List.foldl_cons]
    have e := opD_ok x h.1 (by rw [h.2]; decide) hn
    have hd : do1 d x = { d with vals := st1 d.vals x, left := max (-1) (d.left - 1), taken := d.taken + 1 } := by rw [do1_op, e]
    have := free_vals r (do1 d x) (h.do1 x) (by rw [do1_len]; exact hn)
    rw [doD] at this
    rw [this, hd]
/-- The limited disk behind k operations. -/
structure Lim (n N : Nat) (l : List S42) (k : Nat) (d : Dsk) : Prop where
  vals : d.vals = (doD (newD n) (l.take (min k N))).vals
  len : d.vals.length = n
  left : d.left = (N - min k N : Nat)
  off : d.off = decide (N < k)
  taken : d.taken = min k N
theorem lim_start {n N : Nat} (l : List S42) : Lim n N l 0 ((newD n).limit (N : Nat)) := by
  refine ⟨by simp [doD, Dsk.limit], by simp [Dsk.limit, newD], ?_, by simp [Dsk.limit, newD], by simp [Dsk.limit, newD]⟩
  show max (-1 : Int) (N : Int) = _
  rw [Nat.zero_min, Nat.sub_zero]
  omega
theorem lim_step {n N k : Nat} {l : List S42} {d : Dsk} (h : Lim n N l k d) (hn : 0 < n) (hk : k < l.length) : (opD d l[k]).1 = (if k < N then 0 else 10) ∧ Lim n N l (k + 1) (opD d l[k]).2 := by
  have hl := h.len
  have hlt := h.left
  have hof := h.off
  have hv := h.vals
  have htk := h.taken
  have hfn : 0 < (newD n).vals.length := by simpa [newD] using hn
  by_cases hkN : k < N
  · have e1 : min k N = k := by omega
    have e2 : min (k + 1) N = k + 1 := by omega
    rw [e1] at hlt hv htk
    have ho : d.off = false := by rw [hof]; exact decide_eq_false (by omega)
    rw [opD_ok l[k] ho (by rw [hlt]; omega) (by omega), if_pos hkN]
    refine ⟨rfl, ⟨?_, ?_, ?_, ?_, ?_⟩⟩
    · rw [e2]
      show st1 d.vals l[k] = _
      rw [hv, free_vals _ _ (newD_free n) hfn, free_vals _ _ (newD_free n) hfn, List.take_succ_eq_append_getElem hk, List.foldl_append]
      rfl
    · show (st1 d.vals l[k]).length = n
      rw [st1_len, hl]
    · show max (-1) (d.left - 1) = _
      rw [e2, hlt]; omega
    · show d.off = _
      rw [ho]; exact (decide_eq_false (by omega)).symm
    · show d.taken + 1 = _
      rw [e2, htk]
  · have e1 : min k N = N := by omega
    have e2 : min (k + 1) N = N := by omega
    rw [e1] at hlt hv htk
    have hc : d.off = true ∨ d.left = 0 := .inr (by rw [hlt]; omega)
    rw [opD_no l[k] hc (by omega), if_neg hkN]
    refine ⟨rfl, ⟨?_, hl, ?_, ?_, ?_⟩⟩
    · rw [e2]; exact hv
    · rw [e2]; exact hlt
    · exact (decide_eq_true (by omega)).symm
    · rw [e2]; exact htk
theorem kd_take {α : Type} {d : Kd α} {w : World} {A : Option Addr} {l : List α} (h : Kd.C d w A l.length l) (k : Nat) (hk : k ≤ l.length) : Kd.C d w A (l.take k).length (l.take k) := by
  have hl : (l.take k).length = k := by rw [List.length_take]; omega
  refine ⟨rfl, by have := h.2.1; omega, fun hn => ?_⟩
  obtain ⟨ad, e, hc⟩ := h.2.2 (by omega)
  refine ⟨ad, e, fun j p hj => hc j p ?_⟩
  rw [List.getElem?_take] at hj
  split at hj
  · exact hj
  · cases hj
theorem opD_taken (d : Dsk) (x : S42) : (opD d x).2.taken ≤ d.taken + 1 := by
  rw [← do1_op]; exact do1_taken d x
/-- One operation, walked: a sync. -/
theorem opD_sync {d : Dsk} {x : S42} (h : among x.f0 4 = 3) : opD d x = d.sync := by unfold opD; rw [if_pos h]
theorem opD_write {d : Dsk} {x : S42} (h : among x.f0 4 ≠ 3) : opD d x = d.write (among x.f1 d.vals.length : Nat) (fullS x.f3) := by unfold opD; rw [if_neg h]
end Go.Proofs.Ytoojcgmdcbcenaa
