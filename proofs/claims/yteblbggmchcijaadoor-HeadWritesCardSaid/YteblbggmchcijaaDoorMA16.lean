/- Texts of this claim, one behind the other: BadP, HPrint. -/
import Derived.Test.YteblbggmchcijaaDoorMA14
import Derived.Test.YteblbggmchcijaaDoorMA1
section
/- head.Print: what is refused; the contract in the print's form. -/
namespace Go.Proofs.YteblbggmchcijaaDoor
open Go.RowKit Go.Lib Go.Proofs.YteblbggmchcijaaDoorW.PrintWords Go.Proofs.YteblbggmchcijaaDoorW.PrintLast Go.Proofs.YteblbggmchcijaaDoorW.PrintMore
attribute [local go_sem] Oper.semAt_some
set_option linter.unusedVariables false
set_option linter.unusedSimpArgs false

def hasZero (s : ByteArray) : Bool := decide (0 ≤ Lib.indexByte s.data.toList 0)
set_option maxHeartbeats 8000000 in
set_option maxRecDepth 100000 in
theorem print_bad (hn hlk : ByteArray) (mo si ki : Int) (p : Parted) (w : World) (hF : Fields w) (hp : parted hn = p) (hns : hn.size ≤ 140737488355328) (hls : hlk.size ≤ 140737488355328) (hpk : p.ok = true → hn.size ≤ 256)
    (hbad : p.ok = false ∨ 100 < hlk.size ∨ hasZero (hn ++ hlk) = true ∨ mo < 0 ∨ 4095 < mo ∨ si < 0 ∨ 262144 < si ∨ ki = 0) :
    Calls Tryd.prog 20 #[.agg #[.string hn, .string hlk, .int .i64 mo, .int .i64 si, .int .u8 ki]] w fun e w' => ∃ v, e = .returned (.tuple #[v, .int .i64 2]) ∧ Kd.R (Kd.int .u8) 5 w' w.heap.size (fun _ => True) v [] ∧ Below w.heap.size w w' := by
  have hP := parted_calls hn
  rw [hp] at hP
  have hC := fun W => Tryd.strings_Contains_one (hn ++ hlk) 0 W
  have HF := Aside0.mk hF
  have HP : Aside0 (∀ W, Fields W → Calls Tryd.prog 30 #[.string hn] W fun e w' => e = .returned (Parted.val p) ∧ Below W.heap.size W w') := Aside0.mk (fun W hW => hP W hW hns)
  have H8 : Aside0 (∀ W, Below w.heap.size w W → W.cell? ⟨0, 8 * 2 + 1, none⟩ = some (.int .i64 100)) := Aside0.mk (fun W hW => ((hF.below hW) 8 (by decide)).2)
  obtain ⟨cz, hcz⟩ : ∃ cz, hasZero (hn ++ hlk) = cz := ⟨_, rfl⟩
  rw [hcz] at hbad
  have HCo : Aside0 (∀ W, Calls Tryd.prog 31 #[.string (hn ++ hlk), .string ⟨#[0]⟩] W fun e w' => e = .returned (.bool cz) ∧ w' = W) := Aside0.mk (by unfold hasZero at hcz; rw [hcz] at hC; exact hC)
  clear hF hp hP hC hcz
  have hu25 := Tryd.underlying25
  have hB1 : Below w.heap.size w (w.alloc (.cells #[.string hn, .string hlk, .int .i64 mo, .int .i64 si, .int .u8 ki] 25)) := (Below.refl _ _).alloc (Nat.le_refl _) _
  obtain ⟨W1, hW1⟩ : ∃ W1, W1 = w.alloc (.cells #[.string hn, .string hlk, .int .i64 mo, .int .i64 si, .int .u8 ki] 25) := ⟨_, rfl⟩
  have HB1 : Aside0 (Below w.heap.size w W1) := Aside0.mk (by rw [hW1]; exact hB1)
  have hbk : W1.heap[w.heap.size]? = some (.cells #[.string hn, .string hlk, .int .i64 mo, .int .i64 si, .int .u8 ki] 25 (0, 0)) := by rw [hW1]; exact heap_alloc_new w _
  have HBK := Aside0.mk hbk
  clear hbk hB1
  have c0 : W1.cell? ⟨w.heap.size, 0, none⟩ = some (.string hn) := by rw [cell_row HBK.out]; rfl
  obtain ⟨ppre, pnam, pok⟩ := p
  simp only at hbad hpk
  cases pok with
  | false =>
    clear hbad hpk
    go_enter Tryd.func20, Tryd.ntmps20
    go_wp2_with fail
    rw [← hW1]
    clear hW1
    refine (HP.out W1 (HF.out.below HB1.out)).mono ?_
    rintro e W2 ⟨rfl, hb⟩
    have HB2 := Aside0.mk (HB1.out.trans (hb.mono HB1.out.size))
    have hbk2 := (hb.block w.heap.size (Array.getElem?_eq_some_iff.1 HBK.out).1).trans HBK.out
    have d0 : W2.cell? ⟨w.heap.size, 0, none⟩ = some (.string hn) := by rw [cell_row hbk2]; rfl
    have d1 : W2.cell? ⟨w.heap.size, 1, none⟩ = some (.string hlk) := by rw [cell_row hbk2]; rfl
    have d2 : W2.cell? ⟨w.heap.size, 2, none⟩ = some (.int .i64 mo) := by rw [cell_row hbk2]; rfl
    have d3 : W2.cell? ⟨w.heap.size, 3, none⟩ = some (.int .i64 si) := by rw [cell_row hbk2]; rfl
    have d4 : W2.cell? ⟨w.heap.size, 4, none⟩ = some (.int .u8 ki) := by rw [cell_row hbk2]; rfl
    have g8 := H8.out W2 HB2.out
    clear hb hbk2 c0
    unfold Parted.val
    go_wp2_with (go_at_call 31; refine (HCo.out _).mono ?_; rintro e w' ⟨rfl, hw'⟩; have hw'' := hw'.symm; subst hw'')
    go_ret2
    exact ⟨_, rfl, Kd.R_nil _ _ _ _ _, HB2.out⟩
  | true =>
    have hn256 := hpk rfl
    clear hpk
    by_cases h1 : 100 < hlk.size
    · have t1 : decide ((100 : Int) < (hlk.size : Int)) = true := decide_eq_true (by omega)
      clear hbad
      go_enter Tryd.func20, Tryd.ntmps20
      go_wp2_with fail
      rw [← hW1]
      clear hW1
      refine (HP.out W1 (HF.out.below HB1.out)).mono ?_
      rintro e W2 ⟨rfl, hb⟩
      have HB2 := Aside0.mk (HB1.out.trans (hb.mono HB1.out.size))
      have hbk2 := (hb.block w.heap.size (Array.getElem?_eq_some_iff.1 HBK.out).1).trans HBK.out
      have d0 : W2.cell? ⟨w.heap.size, 0, none⟩ = some (.string hn) := by rw [cell_row hbk2]; rfl
      have d1 : W2.cell? ⟨w.heap.size, 1, none⟩ = some (.string hlk) := by rw [cell_row hbk2]; rfl
      have d2 : W2.cell? ⟨w.heap.size, 2, none⟩ = some (.int .i64 mo) := by rw [cell_row hbk2]; rfl
      have d3 : W2.cell? ⟨w.heap.size, 3, none⟩ = some (.int .i64 si) := by rw [cell_row hbk2]; rfl
      have d4 : W2.cell? ⟨w.heap.size, 4, none⟩ = some (.int .u8 ki) := by rw [cell_row hbk2]; rfl
      have g8 := H8.out W2 HB2.out
      clear hb hbk2 c0
      unfold Parted.val
      go_wp2_with (go_at_call 31; refine (HCo.out _).mono ?_; rintro e w' ⟨rfl, hw'⟩; have hw'' := hw'.symm; subst hw'')
      go_ret2
      exact ⟨_, rfl, Kd.R_nil _ _ _ _ _, HB2.out⟩
    have t1 : decide ((100 : Int) < (hlk.size : Int)) = false := decide_eq_false (by omega)
    cases cz with
    | true =>
      clear hbad
      go_enter Tryd.func20, Tryd.ntmps20
      go_wp2_with fail
      rw [← hW1]
      clear hW1
      refine (HP.out W1 (HF.out.below HB1.out)).mono ?_
      rintro e W2 ⟨rfl, hb⟩
      have HB2 := Aside0.mk (HB1.out.trans (hb.mono HB1.out.size))
      have hbk2 := (hb.block w.heap.size (Array.getElem?_eq_some_iff.1 HBK.out).1).trans HBK.out
      have d0 : W2.cell? ⟨w.heap.size, 0, none⟩ = some (.string hn) := by rw [cell_row hbk2]; rfl
      have d1 : W2.cell? ⟨w.heap.size, 1, none⟩ = some (.string hlk) := by rw [cell_row hbk2]; rfl
      have d2 : W2.cell? ⟨w.heap.size, 2, none⟩ = some (.int .i64 mo) := by rw [cell_row hbk2]; rfl
      have d3 : W2.cell? ⟨w.heap.size, 3, none⟩ = some (.int .i64 si) := by rw [cell_row hbk2]; rfl
      have d4 : W2.cell? ⟨w.heap.size, 4, none⟩ = some (.int .u8 ki) := by rw [cell_row hbk2]; rfl
      have g8 := H8.out W2 HB2.out
      clear hb hbk2 c0
      unfold Parted.val
      go_wp2_with (go_at_call 31; refine (HCo.out _).mono ?_; rintro e w' ⟨rfl, hw'⟩; have hw'' := hw'.symm; subst hw'')
      go_ret2
      exact ⟨_, rfl, Kd.R_nil _ _ _ _ _, HB2.out⟩
    | false =>
      by_cases h3 : mo < 0
      · have t3 : decide (mo < 0) = true := decide_eq_true (by omega)
        clear hbad
        go_enter Tryd.func20, Tryd.ntmps20
        go_wp2_with fail
        rw [← hW1]
        clear hW1
        refine (HP.out W1 (HF.out.below HB1.out)).mono ?_
        rintro e W2 ⟨rfl, hb⟩
        have HB2 := Aside0.mk (HB1.out.trans (hb.mono HB1.out.size))
        have hbk2 := (hb.block w.heap.size (Array.getElem?_eq_some_iff.1 HBK.out).1).trans HBK.out
        have d0 : W2.cell? ⟨w.heap.size, 0, none⟩ = some (.string hn) := by rw [cell_row hbk2]; rfl
        have d1 : W2.cell? ⟨w.heap.size, 1, none⟩ = some (.string hlk) := by rw [cell_row hbk2]; rfl
        have d2 : W2.cell? ⟨w.heap.size, 2, none⟩ = some (.int .i64 mo) := by rw [cell_row hbk2]; rfl
        have d3 : W2.cell? ⟨w.heap.size, 3, none⟩ = some (.int .i64 si) := by rw [cell_row hbk2]; rfl
        have d4 : W2.cell? ⟨w.heap.size, 4, none⟩ = some (.int .u8 ki) := by rw [cell_row hbk2]; rfl
        have g8 := H8.out W2 HB2.out
        clear hb hbk2 c0
        unfold Parted.val
        go_wp2_with (go_at_call 31; refine (HCo.out _).mono ?_; rintro e w' ⟨rfl, hw'⟩; have hw'' := hw'.symm; subst hw'')
        go_ret2
        exact ⟨_, rfl, Kd.R_nil _ _ _ _ _, HB2.out⟩
      have t3 : decide (mo < 0) = false := decide_eq_false (by omega)
      by_cases h4 : 4095 < mo
      · have t4 : decide ((4095 : Int) < mo) = true := decide_eq_true (by omega)
        clear hbad
        go_enter Tryd.func20, Tryd.ntmps20
        go_wp2_with fail
        rw [← hW1]
        clear hW1
        refine (HP.out W1 (HF.out.below HB1.out)).mono ?_
        rintro e W2 ⟨rfl, hb⟩
        have HB2 := Aside0.mk (HB1.out.trans (hb.mono HB1.out.size))
        have hbk2 := (hb.block w.heap.size (Array.getElem?_eq_some_iff.1 HBK.out).1).trans HBK.out
        have d0 : W2.cell? ⟨w.heap.size, 0, none⟩ = some (.string hn) := by rw [cell_row hbk2]; rfl
        have d1 : W2.cell? ⟨w.heap.size, 1, none⟩ = some (.string hlk) := by rw [cell_row hbk2]; rfl
        have d2 : W2.cell? ⟨w.heap.size, 2, none⟩ = some (.int .i64 mo) := by rw [cell_row hbk2]; rfl
        have d3 : W2.cell? ⟨w.heap.size, 3, none⟩ = some (.int .i64 si) := by rw [cell_row hbk2]; rfl
        have d4 : W2.cell? ⟨w.heap.size, 4, none⟩ = some (.int .u8 ki) := by rw [cell_row hbk2]; rfl
        have g8 := H8.out W2 HB2.out
        clear hb hbk2 c0
        unfold Parted.val
        go_wp2_with (go_at_call 31; refine (HCo.out _).mono ?_; rintro e w' ⟨rfl, hw'⟩; have hw'' := hw'.symm; subst hw'')
        go_ret2
        exact ⟨_, rfl, Kd.R_nil _ _ _ _ _, HB2.out⟩
      have t4 : decide ((4095 : Int) < mo) = false := decide_eq_false (by omega)
      by_cases h5 : si < 0
      · have t5 : decide (si < 0) = true := decide_eq_true (by omega)
        clear hbad
        go_enter Tryd.func20, Tryd.ntmps20
        go_wp2_with fail
        rw [← hW1]
        clear hW1
        refine (HP.out W1 (HF.out.below HB1.out)).mono ?_
        rintro e W2 ⟨rfl, hb⟩
        have HB2 := Aside0.mk (HB1.out.trans (hb.mono HB1.out.size))
        have hbk2 := (hb.block w.heap.size (Array.getElem?_eq_some_iff.1 HBK.out).1).trans HBK.out
        have d0 : W2.cell? ⟨w.heap.size, 0, none⟩ = some (.string hn) := by rw [cell_row hbk2]; rfl
        have d1 : W2.cell? ⟨w.heap.size, 1, none⟩ = some (.string hlk) := by rw [cell_row hbk2]; rfl
        have d2 : W2.cell? ⟨w.heap.size, 2, none⟩ = some (.int .i64 mo) := by rw [cell_row hbk2]; rfl
        have d3 : W2.cell? ⟨w.heap.size, 3, none⟩ = some (.int .i64 si) := by rw [cell_row hbk2]; rfl
        have d4 : W2.cell? ⟨w.heap.size, 4, none⟩ = some (.int .u8 ki) := by rw [cell_row hbk2]; rfl
        have g8 := H8.out W2 HB2.out
        clear hb hbk2 c0
        unfold Parted.val
        go_wp2_with (go_at_call 31; refine (HCo.out _).mono ?_; rintro e w' ⟨rfl, hw'⟩; have hw'' := hw'.symm; subst hw'')
        go_ret2
        exact ⟨_, rfl, Kd.R_nil _ _ _ _ _, HB2.out⟩
      have t5 : decide (si < 0) = false := decide_eq_false (by omega)
      by_cases h6 : 262144 < si
      · have t6 : decide ((262144 : Int) < si) = true := decide_eq_true (by omega)
        clear hbad
        go_enter Tryd.func20, Tryd.ntmps20
        go_wp2_with fail
        rw [← hW1]
        clear hW1
        refine (HP.out W1 (HF.out.below HB1.out)).mono ?_
        rintro e W2 ⟨rfl, hb⟩
        have HB2 := Aside0.mk (HB1.out.trans (hb.mono HB1.out.size))
        have hbk2 := (hb.block w.heap.size (Array.getElem?_eq_some_iff.1 HBK.out).1).trans HBK.out
        have d0 : W2.cell? ⟨w.heap.size, 0, none⟩ = some (.string hn) := by rw [cell_row hbk2]; rfl
        have d1 : W2.cell? ⟨w.heap.size, 1, none⟩ = some (.string hlk) := by rw [cell_row hbk2]; rfl
        have d2 : W2.cell? ⟨w.heap.size, 2, none⟩ = some (.int .i64 mo) := by rw [cell_row hbk2]; rfl
        have d3 : W2.cell? ⟨w.heap.size, 3, none⟩ = some (.int .i64 si) := by rw [cell_row hbk2]; rfl
        have d4 : W2.cell? ⟨w.heap.size, 4, none⟩ = some (.int .u8 ki) := by rw [cell_row hbk2]; rfl
        have g8 := H8.out W2 HB2.out
        clear hb hbk2 c0
        unfold Parted.val
        go_wp2_with (go_at_call 31; refine (HCo.out _).mono ?_; rintro e w' ⟨rfl, hw'⟩; have hw'' := hw'.symm; subst hw'')
        go_ret2
        exact ⟨_, rfl, Kd.R_nil _ _ _ _ _, HB2.out⟩
      have t6 : decide ((262144 : Int) < si) = false := decide_eq_false (by omega)
      by_cases h7 : ki = 0
      · subst h7
        clear hbad
        go_enter Tryd.func20, Tryd.ntmps20
        go_wp2_with fail
        rw [← hW1]
        clear hW1
        refine (HP.out W1 (HF.out.below HB1.out)).mono ?_
        rintro e W2 ⟨rfl, hb⟩
        have HB2 := Aside0.mk (HB1.out.trans (hb.mono HB1.out.size))
        have hbk2 := (hb.block w.heap.size (Array.getElem?_eq_some_iff.1 HBK.out).1).trans HBK.out
        have d0 : W2.cell? ⟨w.heap.size, 0, none⟩ = some (.string hn) := by rw [cell_row hbk2]; rfl
        have d1 : W2.cell? ⟨w.heap.size, 1, none⟩ = some (.string hlk) := by rw [cell_row hbk2]; rfl
        have d2 : W2.cell? ⟨w.heap.size, 2, none⟩ = some (.int .i64 mo) := by rw [cell_row hbk2]; rfl
        have d3 : W2.cell? ⟨w.heap.size, 3, none⟩ = some (.int .i64 si) := by rw [cell_row hbk2]; rfl
        have d4 : W2.cell? ⟨w.heap.size, 4, none⟩ = some (.int .u8 0) := by rw [cell_row hbk2]; rfl
        have g8 := H8.out W2 HB2.out
        clear hb hbk2 c0
        unfold Parted.val
        go_wp2_with (go_at_call 31; refine (HCo.out _).mono ?_; rintro e w' ⟨rfl, hw'⟩; have hw'' := hw'.symm; subst hw'')
        go_ret2
        exact ⟨_, rfl, Kd.R_nil _ _ _ _ _, HB2.out⟩
      simp [h1, h3, h4, h5, h6, h7] at hbad
end Go.Proofs.YteblbggmchcijaaDoor
end
section
/- head.Print: the contract in the print's form. -/
namespace Go.Proofs.YteblbggmchcijaaDoor.PAll
open Go.RowKit Go.Lib Go.Proofs.YteblbggmchcijaaDoor Go.Proofs.YteblbggmchcijaaDoorW.PrintWords Go.Proofs.YteblbggmchcijaaDoorW.PrintLast Go.Proofs.YteblbggmchcijaaDoorW.PrintMore
set_option linter.unusedVariables false

theorem partIdx_some {s : ByteArray} : ∀ {j i : Nat}, j + 2 ≤ s.size → partIdx s j = some i → i ≤ 155 ∧ i + 1 ≤ s.size ∧ s.size - (i + 1) ≤ 100
  | 0, i, _, h => by simp [partIdx] at h
  | j + 1, i, hj, h => by
    simp only [partIdx] at h
    split at h
    · split at h
      · rename_i h1 h2
        have := Option.some.inj h
        subst this
        exact ⟨h2.2, by omega, by omega⟩
      · exact partIdx_some (by omega) h
    · cases h
theorem parted_sizes (s : ByteArray) (h : (parted s).ok = true) : (parted s).pre.size ≤ 155 ∧ (parted s).nam.size ≤ 100 ∧ s.size ≤ 256 := by
  unfold parted at h ⊢
  split
  · rename_i h1
    exact ⟨Nat.zero_le _, h1, by omega⟩
  · rename_i h1
    rw [if_neg h1] at h
    cases hp : partIdx s (s.size - 2) with
    | none => rw [hp] at h; cases h
    | some i =>
      obtain ⟨a, b, c⟩ := partIdx_some (by omega) hp
      refine ⟨?_, ?_, by omega⟩
      · show (s.extract 0 i).size ≤ 155
        rw [ByteArray.size_extract]; omega
      · show (s.extract (i + 1) s.size).size ≤ 100
        rw [ByteArray.size_extract]; omega
def badHead (n l : ByteArray) (mo si ki : Int) : Bool := !(parted n).ok || decide (100 < l.size) || hasZero (n ++ l) || decide (mo < 0) || decide (4095 < mo) || decide (si < 0) || decide (262144 < si) || decide (ki = 0)
def head_Print.f (a0 : ByteArray) (a1 : ByteArray) (a2 : Int) (a3 : Int) (a4 : Int) : Option (List Int × Int) :=
  if decide (a0.size ≤ 140737488355328) && decide (a1.size ≤ 140737488355328) && decide (0 ≤ a4) && decide (a4 ≤ 255) then
    if badHead a0 a1 a2 a3 a4 then some ([], 2) else some (headB (parted a0).pre (parted a0).nam a1 a2.toNat a3.toNat ⟨#[UInt8.ofNat a4.toNat]⟩, 0)
  else none
theorem mul_six : bits_Mul.f 1 6 = some (0, 6) := by decide +kernel
theorem mul_seven : bits_Mul.f 1 7 = some (0, 7) := by decide +kernel
theorem mul_eleven : bits_Mul.f 1 11 = some (0, 11) := by decide +kernel
theorem head_Print.calls (a0 : ByteArray) (a1 : ByteArray) (a2 : Int) (a3 : Int) (a4 : Int) (r1 : List Int) (r2 : Int) (w : World) (h : head_Print.f a0 a1 a2 a3 a4 = some (r1, r2)) (hLD : Fields w) :
    Calls Tryd.prog 20 #[.agg #[.string a0, .string a1, .int .i64 a2, .int .i64 a3, .int .u8 a4]] w fun e w' => ∃ v0_ : Value, e = .returned (.tuple #[v0_, .int .i64 r2]) ∧ Kd.R (Kd.int .u8) 5 w' w.heap.size (fun _ => True) v0_ r1 ∧ Below w.heap.size w w' := by
  unfold head_Print.f at h
  split at h
  case isFalse => cases h
  rename_i hc
  simp only [Bool.and_eq_true, decide_eq_true_eq] at hc
  obtain ⟨⟨⟨hc1, hc2⟩, hc3⟩, hc4⟩ := hc
  split at h
  · rename_i hb
    simp only [Option.some.injEq, Prod.mk.injEq] at h
    obtain ⟨rfl, rfl⟩ := h
    refine print_bad a0 a1 a2 a3 a4 (parted a0) w hLD rfl hc1 hc2 (fun h => (parted_sizes a0 h).2.2) ?_
    unfold badHead at hb
    simp only [Bool.or_eq_true, decide_eq_true_eq, Bool.not_eq_true'] at hb
    rcases hb with ((((((hb | hb) | hb) | hb) | hb) | hb) | hb) | hb
    · exact .inl hb
    · exact .inr (.inl hb)
    · exact .inr (.inr (.inl hb))
    · exact .inr (.inr (.inr (.inl hb)))
    · exact .inr (.inr (.inr (.inr (.inl hb))))
    · exact .inr (.inr (.inr (.inr (.inr (.inl hb)))))
    · exact .inr (.inr (.inr (.inr (.inr (.inr (.inl hb))))))
    · exact .inr (.inr (.inr (.inr (.inr (.inr (.inr hb))))))
  · rename_i hb
    simp only [Option.some.injEq, Prod.mk.injEq] at h
    obtain ⟨rfl, rfl⟩ := h
    unfold badHead at hb
    simp only [Bool.or_eq_true, decide_eq_true_eq, Bool.not_eq_true', not_or] at hb
    obtain ⟨⟨⟨⟨⟨⟨⟨g1, g2⟩, g3⟩, g4⟩, g5⟩, g6⟩, g7⟩, g8⟩ := hb
    have hok : (parted a0).ok = true := by simpa using g1
    obtain ⟨s1, s2, s3⟩ := parted_sizes a0 hok
    have hkd : (UInt8.ofNat a4.toNat).toNat = a4.toNat := by rw [UInt8.toNat_ofNat']; omega
    exact print_ok ⟨a0, a1, a2, a3, a4⟩ (parted a0).pre (parted a0).nam a2.toNat a3.toNat (UInt8.ofNat a4.toNat) w hLD (by rw [← hok]) hc1 (by show a1.size ≤ 100; omega) (by unfold hasZero at g3; simpa using g3) (by show a2 = _; omega) (by omega) (by show a3 = _; omega) (by omega) (by show a4 = _; rw [hkd]; omega)
      (by intro e; have := congrArg UInt8.toNat e; rw [hkd] at this; simp at this; omega) s1 s2
      (by
        intro d hd W
        rcases hd with rfl | rfl | rfl
        · exact bits_Mul.calls 1 6 0 6 W mul_six
        · exact bits_Mul.calls 1 7 0 7 W mul_seven
        · exact bits_Mul.calls 1 11 0 11 W mul_eleven)
end Go.Proofs.YteblbggmchcijaaDoor.PAll
end
