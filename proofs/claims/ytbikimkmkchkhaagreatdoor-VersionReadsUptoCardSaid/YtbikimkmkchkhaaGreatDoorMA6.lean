/- Texts of this claim, one behind the other: HCheck. -/
import Derived.Test.YtbikimkmkchkhaaGreatDoorMA4
import Derived.Test.YtbikimkmkchkhaaGreatDoorMA5
section
/- version.Check: its closure, slices.ContainsFunc, tailed. -/
namespace Go.Proofs.YtbikimkmkchkhaaGreatDoor.PAll
open Go.RowKit Go.Lib Go.Shelf Go.Proofs.YtbikimkmkchkhaaGreatDoorW.PrintWords Go.Proofs.YtbikimkmkchkhaaGreatDoorW.PrintLast Go.Proofs.YtbikimkmkchkhaaGreatDoorW.PrintMore
attribute [local go_sem] Oper.semAt_some
set_option linter.unusedVariables false
set_option linter.unusedSimpArgs false

def oddB (x : Int) : Bool := decide (x < 0) || decide (999999 < x)
theorem odd_gives (x : Int) (W : World) : Calls Tryz.prog 23 #[.int .i64 x] W fun e w' => e = .returned (.bool (oddB x)) ∧ w' = W := by
  unfold oddB
  by_cases h : x < 0
  · have b : decide (x < 0) = true := decide_eq_true h
    rw [b]
    go_enter Tryz.func23, Tryz.ntmps23
    go_wp2
    go_ret
    exact ⟨rfl, rfl⟩
  · have b : decide (x < 0) = false := decide_eq_false h
    rw [b]
    go_enter Tryz.func23, Tryz.ntmps23
    go_wp2
    go_ret
    exact ⟨rfl, rfl⟩
/-- The first part that is out of range: where it stands, or -1. -/
def idxOdd (l : List Int) : Int := match l.findIdx? oddB with | some i => (i : Int) | none => -1
theorem rd_nat (l : List Int) (i : Nat) (h : i < l.length) : rd l (i : Int) = l[i] := by simp [rd, List.getD_eq_getElem?_getD, h]
theorem idxOdd_none {l : List Int} (h : ∀ j, j < l.length → oddB (rd l (j : Int)) = false) : idxOdd l = -1 := by
  unfold idxOdd
  have : l.findIdx? oddB = none := by
    rw [List.findIdx?_eq_none_iff]
    intro x hx
    obtain ⟨j, hj, rfl⟩ := List.getElem_of_mem hx
    have := h j hj
    rwa [rd_nat l j hj] at this
  rw [this]
theorem idxOdd_some {l : List Int} {k : Nat} (hk : k < l.length) (hp : oddB (rd l (k : Int)) = true) (h : ∀ j, j < k → oddB (rd l (j : Int)) = false) : idxOdd l = (k : Int) := by
  unfold idxOdd
  have : l.findIdx? oddB = some k := by
    rw [List.findIdx?_eq_some_iff_getElem]
    refine ⟨hk, by rwa [rd_nat l k hk] at hp, fun j hj => ?_⟩
    have := h j hj
    rw [rd_nat l j (by omega)] at this
    simpa using this
  rw [this]
set_option maxHeartbeats 2000000 in
theorem idxodd_calls (A : Option Addr) (c : Nat) (l : List Int) (w : World) (hC : Kd.C (Kd.int .i64) w A l.length l) :
    Calls Tryz.prog 36 #[.slice A l.length c, .func (.func 23) #[] #[]] w fun e w' => e = .returned (.int .i64 (idxOdd l)) ∧ w' = w := by
  have HC := Aside0.mk hC; clear hC
  have hl : l.length ≤ 9223372036854775807 := HC.out.2.1
  obtain ⟨R, hR⟩ : ∃ R, idxOdd l = R := ⟨_, rfl⟩
  rw [hR]
  have HR := Aside0.mk hR; clear hR
  go_enter Tryz.func36, Tryz.ntmps36
  go_wp2_with fail
  go_loop [8] (fun i => ∃ k : Nat, i = .int .i64 (k : Int) ∧ k ≤ l.length ∧ (∀ j, j < k → oddB (rd l (j : Int)) = false)) (fun i => l.length - (RowKit.intOf i).toNat)
  case atStart => exact ⟨0, rfl, by omega, fun j hj => absurd hj (by omega)⟩
  case round =>
    obtain ⟨k, rfl, hk, hF⟩ := hrel
    by_cases hlt : k < l.length
    · have t1 : decide ((k : Int) < (l.length : Int)) = true := decide_eq_true (by omega)
      have p0 : (0 : Int) ≤ (k : Int) := by omega
      have q0 : (k : Int) < (l.length : Int) := by omega
      obtain ⟨ad, rfl, hx⟩ := Kd.at_int HC.out (k : Int) p0 q0
      simp only [Int.toNat_natCast] at hx
      have hwk : wrap64 ((k : Int) + 1) = ((k + 1 : Nat) : Int) := by unfold wrap64; omega
      have hcl := odd_gives (rd l (k : Int)) w
      obtain ⟨x, hxx⟩ : ∃ x, x = rd l (k : Int) := ⟨_, rfl⟩
      rw [← hxx] at hx hcl
      cases hpk : oddB x with
      | true =>
        rw [hpk] at hcl
        have hv : idxOdd l = (k : Int) := idxOdd_some hlt (by rw [← hxx]; exact hpk) hF
        have HV := Aside0.mk (HR.out.symm.trans hv)
        clear hF hxx hv hpk
        go_wp2_with fail
        refine hcl.mono ?_
        rintro e w1 ⟨rfl, rfl⟩
        go_wp2
        go_ret
        exact ⟨by rw [HV.out]; rfl, rfl⟩
      | false =>
        rw [hpk] at hcl
        have hF' : ∀ j, j < k + 1 → oddB (rd l (j : Int)) = false := by
          intro j hj
          by_cases e : j = k
          · subst e; rw [← hxx]; exact hpk
          · exact hF j (by omega)
        have HF := Aside0.mk hF'
        clear hF hF' hxx hpk
        go_wp2_with fail
        refine hcl.mono ?_
        rintro e w1 ⟨rfl, rfl⟩
        go_wp2
        exact ⟨⟨k + 1, rfl, by omega, HF.out⟩, by simp [RowKit.intOf]; omega⟩
    · have hkl : k = l.length := by omega
      have t1 : decide ((k : Int) < (l.length : Int)) = false := decide_eq_false (by omega)
      have hv : idxOdd l = -1 := idxOdd_none (by rw [← hkl]; exact hF)
      have HV := Aside0.mk (HR.out.symm.trans hv)
      clear hv
      go_wp2
      go_ret
      exact ⟨by rw [HV.out]; rfl, rfl⟩
set_option maxHeartbeats 2000000 in
theorem contains_calls (A : Option Addr) (c : Nat) (l : List Int) (w : World) (hC : Kd.C (Kd.int .i64) w A l.length l) :
    Calls Tryz.prog 24 #[.slice A l.length c, .func (.func 23) #[] #[]] w fun e w' => e = .returned (.bool (decide (0 ≤ idxOdd l))) ∧ w' = w := by
  have hI := idxodd_calls A c l w hC
  clear hC
  obtain ⟨R, hR⟩ : ∃ R, idxOdd l = R := ⟨_, rfl⟩
  rw [hR] at hI ⊢
  clear hR
  go_enter Tryz.func24, Tryz.ntmps24
  go_wp2_with fail
  refine hI.mono ?_
  rintro e w1 ⟨rfl, rfl⟩
  go_wp2
  go_ret
  exact ⟨rfl, rfl⟩

def letters : ByteArray := ⟨#[97, 98, 99, 100, 101, 102, 103, 104, 105, 106, 107, 108, 109, 110, 111, 112, 113, 114, 115, 116, 117, 118, 119, 120, 121, 122, 48, 49, 50, 51, 52, 53, 54, 55, 56, 57]⟩
def trimmed (s : ByteArray) : ByteArray := ⟨(Lib.trimS s.data.toList letters.data.toList).toArray⟩
def tailB (s : ByteArray) : Bool := decide (s.size ≤ 8) && (trimmed s).toList.isEmpty
theorem trim_calls (s : ByteArray) (w : World) (hs : s.size ≤ 9223372036854775807) : Calls Tryz.prog 37 #[.string s, .string letters] w fun e w' => e = .returned (.string (trimmed s)) ∧ Below w.heap.size w w' :=
  Any.strings_Trim_laid Tryz.lays160 (by kernel_rfl) s letters w hs (by decide) (ascii_of_all (by decide))
set_option maxHeartbeats 2000000 in
theorem tailed_calls (s : ByteArray) (w : World) (hs : s.size ≤ 9223372036854775807) :
    Calls Tryz.prog 25 #[.string s] w fun e w' => e = .returned (.bool (tailB s)) ∧ Below w.heap.size w w' := by
  have ht := fun W => trim_calls s W hs
  unfold letters at ht
  unfold tailB
  generalize trimmed s = u at *
  by_cases h : s.size ≤ 8
  · have b : decide ((s.size : Int) ≤ 8) = true := decide_eq_true (by omega)
    rw [decide_eq_true h, Bool.true_and]
    clear h
    go_enter Tryz.func25, Tryz.ntmps25
    go_wp2_with fail
    refine (ht _).mono ?_
    rintro e w1 ⟨rfl, hb⟩
    go_wp2
    go_ret
    exact ⟨rfl, hb⟩
  · have b : decide ((s.size : Int) ≤ 8) = false := decide_eq_false (by omega)
    rw [decide_eq_false h, Bool.false_and]
    clear h
    go_enter Tryz.func25, Tryz.ntmps25
    go_wp2
    go_ret
    exact ⟨rfl, Below.refl _ _⟩
def badV (l : List Int) (t : ByteArray) : Bool := decide (l.length < 1) || decide (4 < l.length) || decide (0 ≤ idxOdd l) || !tailB t
def chkV (l : List Int) (t : ByteArray) : Int := if badV l t then 170 else 0
set_option maxHeartbeats 4000000 in
theorem check_calls (A : Option Addr) (c : Nat) (l : List Int) (t : ByteArray) (w : World) (hC : Kd.C (Kd.int .i64) w A l.length l) (hl : l.length ≤ 140737488355328) (hs : t.size ≤ 9223372036854775807) :
    Calls Tryz.prog 10 #[.agg #[.slice A l.length c, .string t]] w fun e w' => e = .returned (.int .i64 (chkV l t)) ∧ Below w.heap.size w w' := by
  have hB := (Below.refl w.heap.size w).alloc (Nat.le_refl _) (.cells #[.slice A l.length c, .string t] 24)
  have hcc := contains_calls A c l _ (Kd.C_below hC hB)
  have htt := fun W => tailed_calls t W hs
  have HB := Aside0.mk hB
  clear hB hC
  obtain ⟨r, hr⟩ : ∃ r, chkV l t = r := ⟨_, rfl⟩
  rw [hr]
  unfold chkV badV at hr
  by_cases h1 : l.length < 1
  · obtain rfl : (170 : Int) = r := by rw [← hr]; simp [h1]
    clear hr hcc htt
    have b : decide ((l.length : Int) < 1) = true := decide_eq_true (by omega)
    go_enter Tryz.func10, Tryz.ntmps10
    go_wp2
    go_ret
    exact ⟨rfl, HB.out⟩
  · have b : decide ((l.length : Int) < 1) = false := decide_eq_false (by omega)
    by_cases h2 : 4 < l.length
    · obtain rfl : (170 : Int) = r := by rw [← hr]; simp [h2]
      clear hr hcc htt
      have b2 : decide ((4 : Int) < (l.length : Int)) = true := decide_eq_true (by omega)
      go_enter Tryz.func10, Tryz.ntmps10
      go_wp2
      go_ret
      exact ⟨rfl, HB.out⟩
    · have b2 : decide ((4 : Int) < (l.length : Int)) = false := decide_eq_false (by omega)
      cases h3 : decide (0 ≤ idxOdd l) with
      | true =>
        obtain rfl : (170 : Int) = r := by rw [← hr, h3]; simp
        rw [h3] at hcc
        clear hr htt h1 h2 h3
        have HC := Aside0.mk hcc
        clear hcc
        go_enter Tryz.func10, Tryz.ntmps10
        go_wp2_with fail
        refine HC.out.mono ?_
        rintro e w1 ⟨rfl, rfl⟩
        go_wp2
        go_ret
        exact ⟨rfl, HB.out⟩
      | false =>
        rw [h3] at hcc hr
        have HC := Aside0.mk hcc
        clear hcc h3
        cases h4 : tailB t with
        | true =>
          obtain rfl : (0 : Int) = r := by rw [← hr, h4]; simp [h1, h2]
          rw [h4] at htt
          have HT := Aside0.mk htt
          clear hr htt h1 h2 h4
          go_enter Tryz.func10, Tryz.ntmps10
          go_wp2_with fail
          refine HC.out.mono ?_
          rintro e w1 ⟨rfl, rfl⟩
          go_wp2_with fail
          refine (HT.out _).mono ?_
          rintro e w1 ⟨rfl, hb⟩
          go_wp2
          go_ret
          exact ⟨rfl, HB.out.trans (hb.mono (by simp))⟩
        | false =>
          obtain rfl : (170 : Int) = r := by rw [← hr, h4]; simp
          rw [h4] at htt
          have HT := Aside0.mk htt
          clear hr htt h1 h2 h4
          go_enter Tryz.func10, Tryz.ntmps10
          go_wp2_with fail
          refine HC.out.mono ?_
          rintro e w1 ⟨rfl, rfl⟩
          go_wp2_with fail
          refine (HT.out _).mono ?_
          rintro e w1 ⟨rfl, hb⟩
          go_wp2
          go_ret
          exact ⟨rfl, HB.out.trans (hb.mono (by simp))⟩
def version_Check.f (l0_0 : List Int) (a0_1 : ByteArray) : Option Int := if decide (l0_0.length ≤ 140737488355328) && decide (a0_1.size ≤ 9223372036854775807) then some (chkV l0_0 a0_1) else none
theorem version_Check.calls (A0_0 : Option Addr) (c0_0 : Nat) (l0_0 : List Int) (a0_1 : ByteArray) (r : Int) (w : World) (hr0_0 : Kd.C (Kd.int .i64) w A0_0 l0_0.length l0_0) (hc0_0 : l0_0.length ≤ c0_0) (h : version_Check.f l0_0 a0_1 = some r) :
    Calls Tryz.prog 10 #[.agg #[.slice A0_0 l0_0.length c0_0, .string a0_1]] w fun e w' => e = .returned (.int .i64 r) ∧ Below w.heap.size w w' := by
  unfold version_Check.f at h
  split at h
  case isFalse => cases h
  rename_i hf
  obtain rfl := Option.some.inj h
  simp only [Bool.and_eq_true, decide_eq_true_eq] at hf
  exact check_calls _ _ _ _ w hr0_0 hf.1 hf.2
end Go.Proofs.YtbikimkmkchkhaaGreatDoor.PAll
end
