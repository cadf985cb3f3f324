/- Texts of this claim, one behind the other: L. -/
import Derived.Test.YteblbggmchcijaaDoorMA5
import Derived.Test.YteblbggmchcijaaDoorMA8
section
/- head.Octal in plain Lean; what the trims hand back. -/
namespace Go.Proofs.YteblbggmchcijaaDoor
open Go.RowKit Go.Lib Go.Proofs.YteblbggmchcijaaDoorW.PrintWords Go.Proofs.YteblbggmchcijaaDoorW.PrintLast Go.Proofs.YteblbggmchcijaaDoorW.PrintMore
attribute [local go_sem] Oper.semAt_some
set_option linter.unusedVariables false
set_option linter.unusedSimpArgs false

/-- The digits, from place i on, behind the number n. -/
def octGo : List Int → Nat → Int → Int × Int
  | [], _, _ => (0, 130)
  | c :: l, i, n => if 48 ≤ c ∧ c ≤ 55 ∧ i < 11 then octGo l (i + 1) (8 * n + (c - 48)) else if i = 0 ∨ ¬ (c :: l).all (fun b => b = 32 ∨ b = 0) = true then (0, 130) else (n, 0)
def octP (l : List Int) : Int × Int := octGo (l.dropWhile (fun b => b = 32)) 0 0

theorem byte_eq {b : Int} (hb : 0 ≤ b ∧ b ≤ 255) (c : Nat) (hc : c < 256) : (UInt8.ofNat b.toNat = UInt8.ofNat c) ↔ b = (c : Int) := by
  constructor
  · intro e
    have := congrArg UInt8.toNat e
    simp only [UInt8.toNat_ofNat'] at this
    omega
  · intro e; subst e; simp
theorem trimLeft_len : ∀ (l : List Int), AreBytes l → (Lib.trimLeftS (Lib.bytesOf l) [32]).length = (l.dropWhile (fun b => b = 32)).length
  | [], _ => rfl
  | b :: l, h => by
    have h0 := byte_eq (h b (by simp)) 32 (by decide)
    have ih := trimLeft_len l (fun x hx => h x (by simp [hx]))
    have hcons : Lib.bytesOf (b :: l) = UInt8.ofNat b.toNat :: Lib.bytesOf l := rfl
    unfold Lib.trimLeftS at ih ⊢
    rw [hcons, List.dropWhile_cons, List.dropWhile_cons]
    by_cases hb : b = 32
    · rw [if_pos (by rw [h0.2 hb]; rfl), if_pos (by simp [hb]), ih]
    · have : ¬ UInt8.ofNat b.toNat = (32 : UInt8) := fun e => hb (h0.1 e)
      rw [if_neg (by simpa using this), if_neg (by simp [hb])]
      simp [Lib.bytesOf]
theorem dropWhile_drop {α} (p : α → Bool) : ∀ l : List α, l.dropWhile p = l.drop (l.length - (l.dropWhile p).length)
  | [] => rfl
  | b :: l => by
    have hle : (l.dropWhile p).length ≤ l.length := (List.dropWhile_sublist p).length_le
    rw [List.dropWhile_cons]
    split
    · rw [List.length_cons, show l.length + 1 - (l.dropWhile p).length = (l.length - (l.dropWhile p).length) + 1 by omega, List.drop_succ_cons]
      exact dropWhile_drop p l
    · simp
theorem dropWhile_nil {α} (p : α → Bool) : ∀ l : List α, l.dropWhile p = [] ↔ ∀ x ∈ l, p x = true
  | [] => by simp
  | b :: l => by
    rw [List.dropWhile_cons]
    by_cases h : p b = true
    · rw [if_pos h, dropWhile_nil p l]; simp [h]
    · rw [if_neg h]; simp [h]
theorem trimS_nil (L cs : List UInt8) : (Lib.trimS L cs).length = 0 ↔ L.all (cs.contains ·) = true := by
  unfold Lib.trimS Lib.trimLeftS Lib.trimRightS
  rw [List.length_eq_zero_iff]
  constructor
  · intro h
    rw [dropWhile_nil] at h
    rw [List.all_eq_true]
    intro x hx
    by_cases hn : L.reverse.dropWhile (cs.contains ·) = []
    · rw [dropWhile_nil] at hn
      exact hn x (by simpa using hx)
    · have hh := List.head_dropWhile_not (cs.contains ·) hn
      have := h _ (by rw [List.mem_reverse]; exact List.head_mem hn)
      rw [hh] at this
      cases this
  · intro h
    rw [dropWhile_nil]
    intro x hx
    rw [List.mem_reverse] at hx
    have := (List.dropWhile_sublist (cs.contains ·)).subset hx
    rw [List.mem_reverse] at this
    exact List.all_eq_true.1 h x this
theorem trim_nil (l : List Int) (h : AreBytes l) : (Lib.trimS (Lib.bytesOf l) [32, 0]).length = 0 ↔ l.all (fun b => b = 32 ∨ b = 0) = true := by
  rw [trimS_nil]
  unfold Lib.bytesOf
  rw [List.all_map, List.all_eq_true, List.all_eq_true]
  refine forall_congr' fun b => forall_congr' fun hb => ?_
  have h1 := byte_eq (h b hb) 32 (by decide)
  have h2 := byte_eq (h b hb) 0 (by decide)
  simp only [Function.comp, List.contains_cons, List.contains_nil, Bool.or_false, Bool.or_eq_true, beq_iff_eq, decide_eq_true_eq]
  exact or_congr h1 h2
theorem trim_le (L cs : List UInt8) : (Lib.trimS L cs).length ≤ (Lib.trimRightS L cs).length := (List.dropWhile_sublist _).length_le

/-- What bytes.TrimLeft hands back. -/
theorem left_C {w : World} {A : Option Addr} {c : Nat} {l : List Int} (hC : Kd.C (Kd.int .u8) w A l.length l) (hc : l.length ≤ c) (j : Nat) (hj : j ≤ l.length) :
    ∃ A' c', Lib.leftV A l.length c j = .slice A' (l.drop j).length c' ∧ Kd.C (Kd.int .u8) w A' (l.drop j).length (l.drop j) ∧ (l.drop j).length ≤ c' ∧ c' ≤ c := by
  unfold Lib.leftV
  by_cases h : j = l.length
  · rw [if_pos h]
    subst h
    exact ⟨none, 0, by simp, by rw [List.drop_length]; exact ⟨rfl, by simp, fun h => absurd h (by simp)⟩, by simp, by omega⟩
  · rw [if_neg h]
    unfold Lib.fromV
    have hr := ReadsInt.drop_ (Kd.reads_of_C (enc := Value.int .u8) (d := (0 : Int)) (h1 := fun _ => rfl) hC) j hj hc
    rw [if_neg (by omega)] at hr ⊢
    refine ⟨_, c - j, by rw [List.length_drop], Kd.C_of_reads (h1 := fun _ => rfl) (by rw [List.length_drop]; exact hr), by rw [List.length_drop]; omega, by omega⟩
theorem left_len (p : Option Addr) {lr lt : Nat} (c : Nat) (h : lt ≤ lr) : ∃ A c', Lib.leftV p lr c (lr - lt) = .slice A lt c' := by
  unfold Lib.leftV Lib.fromV
  by_cases h0 : lr - lt = lr
  · rw [if_pos h0]
    by_cases h1 : lr = 0
    · obtain rfl : lt = 0 := by omega
      exact ⟨none, 0, rfl⟩
    · obtain rfl : lt = 0 := by omega
      exact ⟨none, 0, rfl⟩
  · rw [if_neg h0]
    exact ⟨_, _, by rw [show lr - (lr - lt) = lt by omega]⟩
theorem bytesIn_of_C {w : World} {A : Option Addr} {l : List Int} (hC : Kd.C (Kd.int .u8) w A l.length l) : Lib.BytesIn w A l.length l := fun h => by
  obtain ⟨ad, rfl, hc⟩ := (Kd.reads_of_C (enc := Value.int .u8) (d := (0 : Int)) (h1 := fun _ => rfl) hC).2.2 h
  exact (Lib.BytesIn.of_cells hc) h
end Go.Proofs.YteblbggmchcijaaDoor
end
