/- Texts of this claim, one behind the other: A, B, E, F, A2. -/
import Derived.WalkKit
import Derived.Outline
import Derived.Deep.QuietTactic
import Derived.BigQuiet
import Derived.WalkSpells
import Derived.Deep.DeepFit
import Derived.Lib.Hide
import Derived.Lib.QuietBelow
import Derived.Shelf.RegionOpen
import Derived.Test.YteblbggmchcijaaDoorProg
import Derived.Test.YteblbggmchcijaaDoorWWords
import Derived.Test.YteblbggmchcijaaDoorWLast
import Derived.Test.YteblbggmchcijaaDoorWMore
section
/- head.of: a field's bytes. -/
namespace Go.Proofs.YteblbggmchcijaaDoor
open Go.RowKit Go.Lib Go.Proofs.YteblbggmchcijaaDoorW.PrintWords Go.Proofs.YteblbggmchcijaaDoorW.PrintLast Go.Proofs.YteblbggmchcijaaDoorW.PrintMore
attribute [local go_sem] Oper.semAt_some
set_option linter.unusedVariables false
set_option linter.unusedSimpArgs false

/-- The fields: where they begin, how long they are. -/
def fldAt (i : Nat) : Nat := [0, 100, 108, 116, 124, 136, 148, 156, 157, 257, 345].getD i 0
def fldSz (i : Nat) : Nat := [100, 8, 8, 8, 12, 12, 8, 1, 100, 8, 155].getD i 0
/-- The variable 'fields' holds what its initialiser lays. -/
def Fields (W : World) : Prop := ∀ i, i < 11 → W.cell? ⟨0, i * 2, none⟩ = some (.int .i64 (fldAt i : Int)) ∧ W.cell? ⟨0, i * 2 + 1, none⟩ = some (.int .i64 (fldSz i : Int))
theorem Fields.below {w W : World} (h : Fields w) (hb : Below w.heap.size w W) : Fields W := fun i hi =>
  ⟨(hb.cell (World.block_lt_of_cell? w _ (h i hi).1)).trans (h i hi).1, (hb.cell (World.block_lt_of_cell? w _ (h i hi).2)).trans (h i hi).2⟩
theorem fld_le (i : Nat) (h : i < 11) : fldAt i + fldSz i ≤ 500 ∧ 0 < fldSz i := by
  revert i; decide

set_option maxHeartbeats 2000000 in
theorem of_calls (A : Addr) (c : Nat) (f : Nat) (w : World) (hF : Fields w) (hf : f < 11) (hc : 512 ≤ c) (hc2 : c ≤ 9223372036854775807) :
    Calls Tryd.prog 23 #[.slice (some A) 512 c, .int .i64 (f : Int)] w fun e w' => e = .returned (.slice (some (A.add (fldAt f))) (fldSz f) (fldSz f)) ∧ Below w.heap.size w w' := by
  obtain ⟨h0, h1⟩ := hF f hf
  obtain ⟨hle, hpos⟩ := fld_le f hf
  obtain ⟨a, ha⟩ : ∃ a, fldAt f = a := ⟨_, rfl⟩
  obtain ⟨z, hz⟩ : ∃ z, fldSz f = z := ⟨_, rfl⟩
  rw [ha] at h0 hle ⊢
  rw [hz] at h1 hle hpos ⊢
  clear ha hz hF
  have hu44 := Tryd.underlying44
  have hB := (Below.refl w.heap.size w).alloc (Nat.le_refl _) (.cells #[Value.int IntKind.i64 (a : Int), Value.int IntKind.i64 (z : Int)] 44)
  go_enter Tryd.func23, Tryd.ntmps23
  go_wp2
  go_ret
  exact ⟨by simp [Nat.add_sub_cancel_left], hB⟩
end Go.Proofs.YteblbggmchcijaaDoor
end
section
/- head.Sum. -/
namespace Go.Proofs.YteblbggmchcijaaDoor
open Go.RowKit Go.Lib Go.Proofs.YteblbggmchcijaaDoorW.PrintWords Go.Proofs.YteblbggmchcijaaDoorW.PrintLast Go.Proofs.YteblbggmchcijaaDoorW.PrintMore
attribute [local go_sem] Oper.semAt_some
set_option linter.unusedVariables false
set_option linter.unusedSimpArgs false

def sumTo (l : List Int) : Nat → Int
  | 0 => 0
  | k + 1 => sumTo l k + (if 148 ≤ k ∧ k < 156 then 32 else rd l (k : Int))
def AreBytes (x : List Int) : Prop := ∀ b ∈ x, 0 ≤ b ∧ b ≤ 255
theorem rd_byte {x : List Int} (hx : AreBytes x) (i : Int) : 0 ≤ rd x i ∧ rd x i ≤ 255 := by
  unfold rd
  rw [List.getD_eq_getElem?_getD]
  cases h : x[i.toNat]? with
  | none => simp
  | some b => exact hx b (List.mem_of_getElem? h)
theorem sumTo_range {l : List Int} (hl : AreBytes l) : ∀ k : Nat, 0 ≤ sumTo l k ∧ sumTo l k ≤ 255 * (k : Int)
  | 0 => by simp [sumTo]
  | k + 1 => by
    have ih := sumTo_range hl k
    have hb := rd_byte hl (k : Int)
    unfold sumTo
    split <;> omega

set_option maxHeartbeats 2000000 in
theorem sum_calls (A0 : Option Addr) (c0 : Nat) (l0 : List Int) (w : World) (hF : Fields w) (hr0 : Kd.C (Kd.int .u8) w A0 l0.length l0) (hc0 : l0.length ≤ c0) (hl : l0.length ≤ 140737488355328) (hb : AreBytes l0) :
    Calls Tryd.prog 12 #[.slice A0 l0.length c0] w fun e w' => e = .returned (.int .i64 (sumTo l0 l0.length)) ∧ Below w.heap.size w w' := by
  have HR := Aside0.mk hr0
  have HF := Aside0.mk hF
  have HS := Aside0.mk (sumTo_range hb)
  have HBy := Aside0.mk hb
  clear hr0 hF hb
  have hu44 := Tryd.underlying44
  go_enter Tryd.func12, Tryd.ntmps12
  go_wp2
  go_loopw [3, 9] (fun n i W => ∃ k : Nat, i = .int .i64 (k : Int) ∧ k ≤ l0.length ∧ n = .int .i64 (sumTo l0 k) ∧ Aside0 (Below w.heap.size w W)) (fun _ i _ => l0.length - (intOf i).toNat)
  case atStart => exact ⟨0, rfl, by omega, rfl, Aside0.mk (Below.refl _ _)⟩
  case round =>
    obtain ⟨k, rfl, hk, rfl, HB⟩ := hrel
    by_cases hlt : k < l0.length
    · have t1 : decide ((k : Int) < (l0.length : Int)) = true := decide_eq_true (by omega)
      have h6 := (HF.out.below HB.out) 6 (by decide)
      obtain ⟨h60, h61⟩ := h6
      rw [show fldAt 6 = 148 from rfl] at h60
      rw [show fldSz 6 = 8 from rfl] at h61
      have p0 : (0 : Int) ≤ (k : Int) := by omega
      have q0 : (k : Int) < (l0.length : Int) := by omega
      obtain ⟨ad, rfl, hx⟩ := Kd.at_int HR.out (k : Int) p0 q0
      have gx := (HB.out.cell (World.block_lt_of_cell? w _ hx)).trans hx
      clear hx
      simp only [Int.toNat_natCast] at gx
      have hby := rd_byte HBy.out (k : Int)
      have hs := HS.out k
      obtain ⟨y, hy⟩ : ∃ y, rd l0 (k : Int) = y := ⟨_, rfl⟩
      obtain ⟨s, hsk⟩ : ∃ s, sumTo l0 k = s := ⟨_, rfl⟩
      have HK : Aside0 (sumTo l0 (k + 1) = s + (if 148 ≤ k ∧ k < 156 then 32 else y)) := Aside0.mk (by rw [← hy, ← hsk]; rfl)
      rw [hy] at gx hby
      rw [hsk] at hs
      clear hy
      have HSK := Aside0.mk hsk
      rw [hsk]
      clear hsk
      have hB1 := HB.out.alloc (HB.out.size) (.cells #[Value.int IntKind.i64 148, Value.int IntKind.i64 8] 44)
      by_cases h1 : 148 ≤ k
      · have d1 : decide ((148 : Int) ≤ (k : Int)) = true := decide_eq_true (by omega)
        by_cases h2 : k < 156
        · have d2 : decide ((k : Int) < (156 : Int)) = true := decide_eq_true (by omega)
          go_wp2
          exact ⟨⟨k + 1, rfl, by omega, by rw [HK.out, if_pos ⟨h1, h2⟩], Aside0.mk hB1⟩, by simp [intOf]; omega⟩
        · have d2 : decide ((k : Int) < (156 : Int)) = false := decide_eq_false (by omega)
          go_wp2
          exact ⟨⟨k + 1, rfl, by omega, by rw [HK.out, if_neg (by omega)], Aside0.mk hB1⟩, by simp [intOf]; omega⟩
      · have d1 : decide ((148 : Int) ≤ (k : Int)) = false := decide_eq_false (by omega)
        go_wp2
        exact ⟨⟨k + 1, rfl, by omega, by rw [HK.out, if_neg (by omega)], Aside0.mk hB1⟩, by simp [intOf]; omega⟩
    · have hkl : k = l0.length := by omega
      subst hkl
      go_wp2
      go_ret
      exact ⟨rfl, HB.out⟩
end Go.Proofs.YteblbggmchcijaaDoor
end
section
/- head.Empty. -/
namespace Go.Proofs.YteblbggmchcijaaDoor
open Go.RowKit Go.Lib Go.Proofs.YteblbggmchcijaaDoorW.PrintWords Go.Proofs.YteblbggmchcijaaDoorW.PrintLast Go.Proofs.YteblbggmchcijaaDoorW.PrintMore
attribute [local go_sem] Oper.semAt_some
set_option linter.unusedVariables false
set_option linter.unusedSimpArgs false

theorem nz_gives (x : Int) (W : World) : Calls Tryd.prog 27 #[.int .u8 x] W fun e w' => e = .returned (.bool (x != 0)) ∧ w' = W := by
  go_enter Tryd.func27, Tryd.ntmps27
  go_wp2
  go_ret
  exact ⟨rfl, rfl⟩
/-- The first byte that is not 0: where it stands, or -1. -/
def idxNZ (l : List Int) : Int := match l.findIdx? (· != 0) with | some i => (i : Int) | none => -1
theorem rd_nat (l : List Int) (i : Nat) (h : i < l.length) : rd l (i : Int) = l[i] := by simp [rd, List.getD_eq_getElem?_getD, h]
theorem idxNZ_none {l : List Int} (h : ∀ j, j < l.length → (rd l (j : Int) != 0) = false) : idxNZ l = -1 := by
  unfold idxNZ
  have : l.findIdx? (· != 0) = none := by
    rw [List.findIdx?_eq_none_iff]
    intro x hx
    obtain ⟨j, hj, rfl⟩ := List.getElem_of_mem hx
    have := h j hj
    rwa [rd_nat l j hj] at this
  rw [this]
theorem idxNZ_some {l : List Int} {k : Nat} (hk : k < l.length) (hp : (rd l (k : Int) != 0) = true) (h : ∀ j, j < k → (rd l (j : Int) != 0) = false) : idxNZ l = (k : Int) := by
  unfold idxNZ
  have : l.findIdx? (· != 0) = some k := by
    rw [List.findIdx?_eq_some_iff_getElem]
    refine ⟨hk, by rwa [rd_nat l k hk] at hp, fun j hj => ?_⟩
    have := h j hj
    rw [rd_nat l j (by omega)] at this
    simpa using this
  rw [this]
set_option maxHeartbeats 2000000 in
theorem idxnz_calls (A : Option Addr) (c : Nat) (l : List Int) (w : World) (hC : Kd.C (Kd.int .u8) w A l.length l) :
    Calls Tryd.prog 39 #[.slice A l.length c, .func (.func 27) #[] #[]] w fun e w' => e = .returned (.int .i64 (idxNZ l)) ∧ w' = w := by
  have HC := Aside0.mk hC; clear hC
  have hl : l.length ≤ 9223372036854775807 := HC.out.2.1
  obtain ⟨R, hR⟩ : ∃ R, idxNZ l = R := ⟨_, rfl⟩
  rw [hR]
  have HR := Aside0.mk hR; clear hR
  go_enter Tryd.func39, Tryd.ntmps39
  go_wp2_with fail
  go_loop [8] (fun i => ∃ k : Nat, i = .int .i64 (k : Int) ∧ k ≤ l.length ∧ (∀ j, j < k → (rd l (j : Int) != 0) = false)) (fun i => l.length - (intOf i).toNat)
  case atStart => exact ⟨0, rfl, by omega, fun j hj => absurd hj (by omega)⟩
  case round =>
    obtain ⟨k, rfl, hk, hF⟩ := hrel
    by_cases hlt : k < l.length
    · have t1 : decide ((k : Int) < (l.length : Int)) = true := decide_eq_true (by omega)
      have p0 : (0 : Int) ≤ (k : Int) := by omega
      have q0 : (k : Int) < (l.length : Int) := by omega
      obtain ⟨ad, rfl, hx⟩ := Kd.at_int HC.out (k : Int) p0 q0
      simp only [Int.toNat_natCast] at hx
      have hwk : wrap64 ((k : Int) + 1) = ((k + 1 : Nat) : Int) := by unfold wrap64; omega
      have hcl := nz_gives (rd l (k : Int)) w
      obtain ⟨x, hxx⟩ : ∃ x, x = rd l (k : Int) := ⟨_, rfl⟩
      rw [← hxx] at hx hcl
      cases hpk : (x != 0) with
      | true =>
        rw [hpk] at hcl
        have hv : idxNZ l = (k : Int) := idxNZ_some hlt (by rw [← hxx]; exact hpk) hF
        have HV := Aside0.mk (HR.out.symm.trans hv)
        clear hF hxx hv hpk
        go_wp2_with fail
        refine hcl.mono ?_
        rintro e w1 ⟨rfl, rfl⟩
        go_wp2
        go_ret
        exact ⟨by rw [HV.out]; rfl, rfl⟩
      | false =>
        rw [hpk] at hcl
        have hF' : ∀ j, j < k + 1 → (rd l (j : Int) != 0) = false := by
          intro j hj
          by_cases e : j = k
          · subst e; rw [← hxx]; exact hpk
          · exact hF j (by omega)
        have HF := Aside0.mk hF'
        clear hF hF' hxx hpk
        go_wp2_with fail
        refine hcl.mono ?_
        rintro e w1 ⟨rfl, rfl⟩
        go_wp2
        exact ⟨⟨k + 1, rfl, by omega, HF.out⟩, by simp [intOf]; omega⟩
    · have hkl : k = l.length := by omega
      have t1 : decide ((k : Int) < (l.length : Int)) = false := decide_eq_false (by omega)
      have hv : idxNZ l = -1 := idxNZ_none (by rw [← hkl]; exact hF)
      have HV := Aside0.mk (HR.out.symm.trans hv)
      clear hv
      go_wp2
      go_ret
      exact ⟨by rw [HV.out]; rfl, rfl⟩
def emptyL (l : List Int) : Bool := decide (l.length = 512) && decide (idxNZ l < 0)
set_option maxHeartbeats 2000000 in
theorem empty_calls (A : Option Addr) (c : Nat) (l : List Int) (w : World) (hC : Kd.C (Kd.int .u8) w A l.length l) :
    Calls Tryd.prog 14 #[.slice A l.length c] w fun e w' => e = .returned (.bool (emptyL l)) ∧ w' = w := by
  have hI : ∀ W, W = w → Calls Tryd.prog 39 #[.slice A l.length c, .func (.func 27) #[] #[]] W fun e w' => e = .returned (.int .i64 (idxNZ l)) ∧ w' = W := fun W hW => by subst hW; exact idxnz_calls A c l W hC
  unfold emptyL
  clear hC
  obtain ⟨R, hR⟩ : ∃ R, idxNZ l = R := ⟨_, rfl⟩
  rw [hR] at hI ⊢
  clear hR
  by_cases h5 : l.length = 512
  · rw [h5] at hI ⊢
    by_cases h0 : R < 0
    · have b0 : decide ((0 : Int) ≤ R) = false := decide_eq_false (by omega)
      have b1 : decide (R < 0) = true := decide_eq_true h0
      rw [b1]
      go_enter Tryd.func14, Tryd.ntmps14
      go_wp2_with (first | (go_at_call 39; refine (hI _ rfl).mono ?_; rintro e w' ⟨rfl, rfl⟩) | go_in)
      go_ret
      exact ⟨rfl, rfl⟩
    · have b0 : decide ((0 : Int) ≤ R) = true := decide_eq_true (by omega)
      have b1 : decide (R < 0) = false := decide_eq_false h0
      rw [b1]
      go_enter Tryd.func14, Tryd.ntmps14
      go_wp2_with (first | (go_at_call 39; refine (hI _ rfl).mono ?_; rintro e w' ⟨rfl, rfl⟩) | go_in)
      go_ret
      exact ⟨rfl, rfl⟩
  · have b1 : ((l.length : Int) == 512) = false := by simp; omega
    have b2 : decide (l.length = 512) = false := decide_eq_false h5
    rw [b2]
    go_enter Tryd.func14, Tryd.ntmps14
    go_wp2
    go_ret
    exact ⟨rfl, rfl⟩
end Go.Proofs.YteblbggmchcijaaDoor
end
section
/- head.parted. -/
namespace Go.Proofs.YteblbggmchcijaaDoor
open Go.RowKit Go.Lib Go.Proofs.YteblbggmchcijaaDoorW.PrintWords Go.Proofs.YteblbggmchcijaaDoorW.PrintLast Go.Proofs.YteblbggmchcijaaDoorW.PrintMore
attribute [local go_sem] Oper.semAt_some
set_option linter.unusedVariables false
set_option linter.unusedSimpArgs false

/-- Where the name is parted, from a place downward. -/
def partIdx (s : ByteArray) : Nat → Option Nat
  | 0 => none
  | j + 1 => if s.size - (j + 1) - 1 ≤ 100 then (if bt s ((j + 1 : Nat) : Int) = 47 ∧ j + 1 ≤ 155 then some (j + 1) else partIdx s j) else none
structure Parted where
  pre : ByteArray
  nam : ByteArray
  ok : Bool
def partedAt (s : ByteArray) : Option Nat → Parted
  | some i => ⟨s.extract 0 i, s.extract (i + 1) s.size, true⟩
  | none => ⟨⟨#[]⟩, ⟨#[]⟩, false⟩
def parted (s : ByteArray) : Parted := if s.size ≤ 100 then ⟨⟨#[]⟩, s, !s.toList.isEmpty⟩ else partedAt s (partIdx s (s.size - 2))
def Parted.val (p : Parted) : Value := .tuple #[.string p.pre, .string p.nam, .bool p.ok]

theorem bt_get' (s : ByteArray) (i : Nat) (h : i < s.size) : bt s (i : Int) = ((s[i]'h).toNat : Int) := by
  unfold bt; simp [h]
set_option maxHeartbeats 2000000 in
theorem parted_calls (s : ByteArray) (w : World) (hF : Fields w) (hs : s.size ≤ 140737488355328) :
    Calls Tryd.prog 30 #[.string s] w fun e w' => e = .returned (parted s).val ∧ Below w.heap.size w w' := by
  obtain ⟨_, h01⟩ := hF 0 (by decide)
  obtain ⟨_, h101⟩ := hF 10 (by decide)
  rw [show fldSz 0 = 100 from rfl] at h01
  rw [show fldSz 10 = 155 from rfl] at h101
  clear hF
  have hu44 := Tryd.underlying44
  by_cases h1 : s.size ≤ 100
  · have b1 : decide ((s.size : Int) ≤ 100) = true := decide_eq_true (by omega)
    have hv : parted s = ⟨⟨#[]⟩, s, !s.toList.isEmpty⟩ := by unfold parted; rw [if_pos h1]
    rw [hv]
    clear hv
    go_enter Tryd.func30, Tryd.ntmps30
    go_wp2
    exact bodyPost_ret (v := .tuple #[.string ⟨#[]⟩, .string s, .bool (!s.toList.isEmpty)]) (by simp [results, Tryd.results30, go_sem]) rfl ⟨rfl, Below.refl _ _⟩
  · have b1 : decide ((s.size : Int) ≤ 100) = false := decide_eq_false (by omega)
    obtain ⟨R, hR⟩ : ∃ R, partIdx s (s.size - 2) = R := ⟨_, rfl⟩
    have hv : parted s = partedAt s R := by unfold parted; rw [if_neg h1, hR]
    rw [hv]
    clear hv
    have HR := Aside0.mk hR
    clear hR
    go_enter Tryd.func30, Tryd.ntmps30
    go_wp2
    go_loop [5] (fun i => ∃ j : Nat, i = .int .i64 (j : Int) ∧ j + 2 ≤ s.size ∧ Aside0 (partIdx s j = R)) (fun i => (intOf i).toNat)
    case atStart => exact ⟨s.size - 2, by congr 1; omega, by omega, HR⟩
    case round =>
      clear HR
      obtain ⟨j, rfl, hj, HJ⟩ := hrel
      cases j with
      | zero =>
        have hz : R = none := by rw [← HJ.out]; rfl
        subst hz
        go_wp2
        exact bodyPost_ret (v := .tuple #[.string ⟨#[]⟩, .string ⟨#[]⟩, .bool false]) (by simp [results, Tryd.results30, go_sem]) rfl ⟨rfl, Below.refl _ _⟩
      | succ m =>
        have d0 : decide ((0 : Int) < ((m + 1 : Nat) : Int)) = true := decide_eq_true (by omega)
        have hJ := HJ.out
        simp only [partIdx] at hJ
        obtain ⟨jj, hjj⟩ : ∃ jj : Int, jj = ((m + 1 : Nat) : Int) := ⟨_, rfl⟩
        have hm : m + 1 < s.size := by omega
        have hbt := bt_get' s (m + 1) hm
        obtain ⟨c, hc⟩ : ∃ c : UInt8, c = s[m + 1]'hm := ⟨_, rfl⟩
        by_cases h2 : s.size - (m + 1) - 1 ≤ 100
        · rw [if_pos h2] at hJ
          have d1 : decide ((s.size : Int) - ((m : Int) + 1) - 1 ≤ 100) = true := decide_eq_true (by omega)
          by_cases h3 : bt s ((m + 1 : Nat) : Int) = 47
          · by_cases h4 : m + 1 ≤ 155
            · rw [if_pos ⟨h3, h4⟩] at hJ
              subst hJ
              rw [hbt] at h3
              clear hbt hc hjj
              have d2 : decide ((m : Int) + 1 ≤ 155) = true := decide_eq_true (by omega)
              have hmi : (m : Int) + 1 < (s.size : Int) := by omega
              go_wp2
              go_quiet (fail)
              go_wp2
              exact bodyPost_ret (v := .tuple #[.string (s.extract 0 (m + 1)), .string (s.extract (m + 1 + 1) s.size), .bool true]) (by simp [results, Tryd.results30, go_sem]) rfl ⟨rfl, pw_below_drewN (Below.refl _ _) _⟩
            · rw [if_neg (fun h => h4 h.2)] at hJ
              have HJ' := Aside0.mk hJ
              rw [hbt] at h3
              clear hbt hc hjj HJ hJ
              have d2 : decide ((m : Int) + 1 ≤ 155) = false := decide_eq_false (by omega)
              go_wp2
              exact ⟨⟨m, rfl, by omega, HJ'⟩, by simp [intOf]⟩
          · rw [if_neg (fun h => h3 h.1)] at hJ
            have HJ' := Aside0.mk hJ
            rw [hbt] at h3
            clear hbt hc hjj HJ hJ
            go_wp2
            exact ⟨⟨m, rfl, by omega, HJ'⟩, by simp [intOf]⟩
        · rw [if_neg h2] at hJ
          have d1 : decide ((s.size : Int) - ((m + 1 : Nat) : Int) - 1 ≤ 100) = false := decide_eq_false (by omega)
          subst hJ
          clear hbt hc hjj
          go_wp2
          exact bodyPost_ret (v := .tuple #[.string ⟨#[]⟩, .string ⟨#[]⟩, .bool false]) (by simp [results, Tryd.results30, go_sem]) rfl ⟨rfl, Below.refl _ _⟩
end Go.Proofs.YteblbggmchcijaaDoor
end
section
/- head.of: a field's bytes. -/
namespace Go.Proofs.YteblbggmchcijaaDoor
open Go.RowKit Go.Lib Go.Proofs.YteblbggmchcijaaDoorW.PrintWords Go.Proofs.YteblbggmchcijaaDoorW.PrintLast Go.Proofs.YteblbggmchcijaaDoorW.PrintMore
attribute [local go_sem] Oper.semAt_some
set_option linter.unusedVariables false
set_option linter.unusedSimpArgs false

set_option maxHeartbeats 2000000 in
theorem of_calls2 (A : Addr) (c : Nat) (f : Nat) (w : World) (hF : Fields w) (hf : f < 11) (hc : 512 ≤ c) :
    Calls Tryd.prog 23 #[.slice (some A) 512 c, .int .i64 (f : Int)] w fun e w' => e = .returned (.slice (some (A.add (fldAt f))) (fldSz f) (fldSz f)) ∧ Below w.heap.size w w' := by
  obtain ⟨h0, h1⟩ := hF f hf
  obtain ⟨hle, hpos⟩ := fld_le f hf
  obtain ⟨a, ha⟩ : ∃ a, fldAt f = a := ⟨_, rfl⟩
  obtain ⟨z, hz⟩ : ∃ z, fldSz f = z := ⟨_, rfl⟩
  rw [ha] at h0 hle ⊢
  rw [hz] at h1 hle hpos ⊢
  clear ha hz hF
  have hu44 := Tryd.underlying44
  have hB := (Below.refl w.heap.size w).alloc (Nat.le_refl _) (.cells #[Value.int IntKind.i64 (a : Int), Value.int IntKind.i64 (z : Int)] 44)
  go_enter Tryd.func23, Tryd.ntmps23
  go_wp2
  go_ret
  exact ⟨by simp [Nat.add_sub_cancel_left], hB⟩
end Go.Proofs.YteblbggmchcijaaDoor
end
