/- Texts of this claim, one behind the other: HText. -/
import Derived.Lib.IndexLaws
import Derived.Test.YteblbggmchcijaaDoorMA12
import Derived.Test.YteblbggmchcijaaDoorMA1
import Derived.Test.YteblbggmchcijaaDoorMA10
section
/- head.text. -/
namespace Go.Proofs.YteblbggmchcijaaDoor.PAll
open Go.RowKit Go.Lib Go.Proofs.YteblbggmchcijaaDoor Go.Proofs.YteblbggmchcijaaDoorW.PrintWords Go.Proofs.YteblbggmchcijaaDoorW.PrintLast Go.Proofs.YteblbggmchcijaaDoorW.PrintMore
attribute [local go_sem] Oper.semAt_some
set_option linter.unusedVariables false
set_option linter.unusedSimpArgs false

theorem text_idx : ∀ (l : List Int), AreBytes l → ∀ i, Lib.indexByte (Lib.bytesOf l) 0 = i → (if 0 ≤ i then l.takeWhile (· ≠ 0) = l.take i.toNat ∧ i.toNat < l.length else l.takeWhile (· ≠ 0) = l)
  | [], _, i, h => by
    simp [Lib.bytesOf, Lib.indexByte] at h
    subst h
    simp
  | b :: l, hb, i, h => by
    have hb0 := hb b (by simp)
    have ih := text_idx l (fun x hx => hb x (by simp [hx])) _ rfl
    have hge := Lib.indexByte_ge (Lib.bytesOf l) 0
    have hcons : Lib.bytesOf (b :: l) = UInt8.ofNat b.toNat :: Lib.bytesOf l := rfl
    rw [hcons, Lib.indexByte] at h
    have hz : (UInt8.ofNat b.toNat == 0) = decide (b = 0) := by
      have h1 : (UInt8.ofNat b.toNat = 0) ↔ b = 0 := by
        constructor
        · intro e
          have := congrArg UInt8.toNat e
          simp at this
          omega
        · intro e; subst e; rfl
      rw [Bool.eq_iff_iff]; simp [h1]
    rw [hz] at h
    by_cases h0 : b = 0
    · subst h0
      rw [if_pos (by simp)] at h
      subst h
      simp
    · rw [if_neg (by simp [h0])] at h
      have htw : (b :: l).takeWhile (fun x => decide (x ≠ 0)) = b :: l.takeWhile (fun x => decide (x ≠ 0)) := by rw [List.takeWhile_cons, if_pos (by simp [h0])]
      rw [htw]
      by_cases h1 : Lib.indexByte (Lib.bytesOf l) 0 = -1
      · rw [if_pos (by rw [h1]; rfl)] at h
        rw [if_neg (by omega)] at ih
        subst h
        rw [if_neg (by omega), ih]
      · have h2 : ¬ (Lib.indexByte (Lib.bytesOf l) 0 == -1) = true := by simpa using h1
        rw [if_neg h2] at h
        rw [if_pos (by omega)] at ih
        subst h
        rw [if_pos (by omega)]
        have ht : (Lib.indexByte (Lib.bytesOf l) 0 + 1).toNat = (Lib.indexByte (Lib.bytesOf l) 0).toNat + 1 := by omega
        rw [ht, List.take_succ_cons, ih.1]
        exact ⟨rfl, by rw [List.length_cons]; omega⟩

set_option maxHeartbeats 4000000 in
theorem text_calls (a : Addr) (c0 : Nat) (l : List Int) (w : World) (hr0 : Kd.C (Kd.int .u8) w (some a) l.length l) (hc0 : l.length ≤ c0) (hby : AreBytes l) (hlen : l.length ≤ 1000) :
    Calls Tryd.prog 24 #[.slice (some a) l.length c0] w fun e w' => e = .returned (.string (textL l)) ∧ Below w.heap.size w w' := by
  have hR := Kd.reads_of_C (enc := Value.int .u8) (d := (0 : Int)) (h1 := fun _ => rfl) hr0
  obtain ⟨i, hi⟩ : ∃ i, Lib.indexByte (Lib.bytesOf l) 0 = i := ⟨_, rfl⟩
  have hT := text_idx l hby i hi
  have hge : -1 ≤ i := by rw [← hi]; exact Lib.indexByte_ge _ _
  have hC : ∀ (W : World) (g : Nat), Below w.heap.size w W → W.cell? ⟨g, 0, none⟩ = some (.int .u8 0) → Calls Tryd.prog 38 #[.slice (some a) l.length c0, .slice (some ⟨g, 0, none⟩) 1 1] W fun e w' => e = .returned (Lib.cutV (some a) l.length c0 1 i) ∧ ∃ q, w' = W.drewN q := by
    intro W g hB hg
    have hr := Kd.reads_of_C (enc := Value.int .u8) (d := (0 : Int)) (h1 := fun _ => rfl) (Kd.C_below hr0 hB)
    refine Tryd.bytes_Cut_of (some a) (some ⟨g, 0, none⟩) l.length c0 1 1 i W hc0 hge ?_ (by omega) ?_
    · intro h0
      rw [if_pos h0] at hT
      have := hT.2
      omega
    · have := Tryd.bytes_Index_one_at a l.length c0 g 0 1 l 0 W rfl (fun j hj => ?_) hg
      · refine this.mono ?_
        rintro e w' ⟨rfl, rfl⟩
        exact ⟨by rw [← hi]; rfl, 0, rfl⟩
      · obtain ⟨ad, e, hc⟩ := hr.2.2 (by omega)
        cases e
        exact hc j hj
  have HR := Aside0.mk hr0
  have HT := Aside0.mk hT
  have HC := Aside0.mk hC
  clear hr0 hT hR hC hby
  go_enter Tryd.func24, Tryd.ntmps24
  go_wp2_with fail
  have hB := (Below.refl w.heap.size w).alloc (Nat.le_refl _) (.cells #[Value.int IntKind.u8 0] 5)
  refine (HC.out _ w.heap.size hB (by simp)).mono ?_
  rintro e w' ⟨rfl, q, rfl⟩
  clear HC
  have hCC := Kd.C_below HR.out (pw_below_drewN hB q)
  unfold Lib.cutV
  by_cases h0 : 0 ≤ i
  · rw [if_pos h0]
    have hT := HT.out
    rw [if_pos h0] at hT
    have hcv := Kd.C_string (P := Tryd.prog) (A := some a) (c := c0) Tryd.underlying22 Tryd.underlying5 Tryd.underlying9 (Kd.C_of_reads (h1 := fun _ => rfl) (ReadsInt.take_ (Kd.reads_of_C (enc := Value.int .u8) (d := (0 : Int)) (h1 := fun _ => rfl) hCC) i.toNat (by omega)))
    rw [← hT.1, show strOfNums (l.takeWhile fun x => decide (x ≠ 0)) = textL l from rfl] at hcv
    go_wp2_with fail
    go_ret
    exact ⟨rfl, pw_below_drewN hB q⟩
  · rw [if_neg h0]
    have hT := HT.out
    rw [if_neg h0] at hT
    have hcv := Kd.C_string (P := Tryd.prog) (A := some a) (c := c0) Tryd.underlying22 Tryd.underlying5 Tryd.underlying9 hCC
    go_wp2_with fail
    go_ret
    exact ⟨by unfold textL; rw [hT]; rfl, pw_below_drewN hB q⟩
end Go.Proofs.YteblbggmchcijaaDoor.PAll
end
