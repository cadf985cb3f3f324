/- Texts of this claim, one behind the other: HOctal, V1, V2. -/
import Derived.Test.YteblbggmchcijaaDoorMA9
import Derived.Test.YteblbggmchcijaaDoorMA10
import Derived.Test.YteblbggmchcijaaDoorMA1
section
/- head.Octal. -/
namespace Go.Proofs.YteblbggmchcijaaDoor.PAll
open Go.RowKit Go.Lib Go.Proofs.YteblbggmchcijaaDoor Go.Proofs.YteblbggmchcijaaDoorW.PrintWords Go.Proofs.YteblbggmchcijaaDoorW.PrintLast Go.Proofs.YteblbggmchcijaaDoorW.PrintMore
attribute [local go_sem] Oper.semAt_some
set_option linter.unusedVariables false
set_option linter.unusedSimpArgs false

theorem or8 (n y : Int) (h0 : 0 ≤ n) (h1 : n < 576460752303423488) (h2 : 0 ≤ y) (h3 : y < 8) : bits .or .i64 (8 * n) y = 8 * n + y :=
  bits_join .i64 62 (by decide) (fun n a b => by rw [IntKind.wrap_i64]; omega) 3 (8 * n) y (by omega) (by omega) (by omega) h2 (by omega) (by omega)

set_option maxHeartbeats 4000000 in
theorem octal_reads (A0 : Option Addr) (c0 : Nat) (l0 : List Int) (w : World) (hr0 : Kd.C (Kd.int .u8) w A0 l0.length l0) (hc0 : l0.length ≤ c0) (hcap : c0 ≤ 9223372036854775807) (hby : AreBytes l0) (hlen : l0.length ≤ 140737488355328) :
    Calls Tryd.prog 18 #[.slice A0 l0.length c0] w fun e w' => e = .returned (.tuple #[.int .i64 (octP l0).1, .int .i64 (octP l0).2]) ∧ Below w.heap.size w w' := by
  have hT := trimLeft_sp A0 l0.length c0 l0 w rfl hc0 hcap (bytesIn_of_C hr0) (fun x hx => by have := hby x hx; omega)
  rw [trimLeft_len l0 hby] at hT
  obtain ⟨l, hl⟩ : ∃ l, l0.dropWhile (fun b => b = 32) = l := ⟨_, rfl⟩
  have hd := dropWhile_drop (fun b : Int => decide (b = 32)) l0
  rw [hl] at hT hd
  obtain ⟨A, c, hv, hC, hlc, hcc⟩ := left_C hr0 hc0 (l0.length - l.length) (by omega)
  rw [← hd] at hv hC hlc
  rw [hv] at hT
  have hbl : AreBytes l := fun x hx => hby x (by rw [hd] at hx; exact List.mem_of_mem_drop hx)
  have hll : l.length ≤ 140737488355328 := by
    have := congrArg List.length hd
    rw [List.length_drop] at this
    omega
  have hR : octP l0 = octGo l 0 0 := by unfold octP; rw [hl]
  rw [hR]
  have HT := Aside0.mk hT
  have HC := Aside0.mk hC
  have HBy := Aside0.mk hbl
  obtain ⟨r, hr⟩ : ∃ r, octGo l 0 0 = r := ⟨_, rfl⟩
  rw [hr]
  have HRr := Aside0.mk hr
  clear hT hC hR hd hl hv hby hr0 hbl hr
  have hcap2 : c ≤ 9223372036854775807 := by omega
  clear hcc hcap hc0
  go_enter Tryd.func18, Tryd.ntmps18
  go_wp2_with (refine HT.out.mono ?_)
  rintro e w' ⟨rfl, hB⟩
  have HB0 := Aside0.mk hB
  clear HT hB
  go_wp2
  go_loopw [4, 11] (fun n i W => ∃ (k : Nat) (v : Int), i = .int .i64 (k : Int) ∧ k ≤ l.length ∧ n = .int .i64 v ∧ k ≤ 11 ∧ 0 ≤ v ∧ v < 8 ^ k ∧ Aside0 (octGo (l.drop k) k v = r) ∧ Aside0 (Below w.heap.size w W)) (fun _ i _ => l.length - (RowKit.intOf i).toNat)
  case atStart => exact ⟨0, 0, rfl, by omega, rfl, by omega, by omega, by decide, HRr, HB0⟩
  case round =>
    clear HRr HB0
    obtain ⟨k, v, rfl, hk, rfl, hk11, hv0, hv1, HG, HB⟩ := hrel
    have hv2 : v < 8589934592 := Int.lt_of_lt_of_le hv1 (by
      have : (8 : Int) ^ k ≤ 8 ^ 11 := by exact_mod_cast Nat.pow_le_pow_right (by decide : 0 < 8) hk11
      simpa using this)
    by_cases hlt : k < l.length
    · have t1 : decide ((k : Int) < (l.length : Int)) = true := decide_eq_true (by omega)
      have p0 : (0 : Int) ≤ (k : Int) := by omega
      have q0 : (k : Int) < (l.length : Int) := by omega
      obtain ⟨ad, rfl, hx⟩ := Kd.at_int HC.out (k : Int) p0 q0
      have gx := (HB.out.cell (World.block_lt_of_cell? w _ hx)).trans hx
      clear hx
      simp only [Int.toNat_natCast] at gx
      have hdrop : l.drop k = rd l (k : Int) :: l.drop (k + 1) := by
        rw [List.drop_eq_getElem_cons hlt]; congr 1; simp [rd, List.getD_eq_getElem?_getD, List.getElem?_eq_getElem hlt]
      have hbb := rd_byte HBy.out (k : Int)
      obtain ⟨y, hy⟩ : ∃ y, rd l (k : Int) = y := ⟨_, rfl⟩
      rw [hy] at gx hdrop hbb
      clear hy
      have hg := HG.out
      rw [hdrop, octGo] at hg
      clear HG
      have HD := Aside0.mk hdrop
      clear hdrop
      by_cases d : 48 ≤ y ∧ y ≤ 55 ∧ k < 11
      · rw [if_pos d] at hg
        obtain ⟨d1, d2, d3⟩ := d
        have e1 : decide ((48 : Int) ≤ y) = true := decide_eq_true d1
        have e2 : decide (y ≤ (55 : Int)) = true := decide_eq_true d2
        have e3 : decide ((k : Int) < (11 : Int)) = true := decide_eq_true (by omega)
        have HG := Aside0.mk hg
        clear hg
        go_wp2
        rw [Int.mul_comm v 8, or8 v (y - 48) hv0 (by omega) (by omega) (by omega)]
        exact ⟨⟨k + 1, _, rfl, by omega, rfl, by omega, by omega, by rw [Int.pow_succ]; omega, HG, HB⟩, by simp [RowKit.intOf]; omega⟩
      · rw [if_neg d] at hg
        have hcase : (decide ((48 : Int) ≤ y) = false) ∨ (decide ((48 : Int) ≤ y) = true ∧ decide (y ≤ (55 : Int)) = false) ∨ (decide ((48 : Int) ≤ y) = true ∧ decide (y ≤ (55 : Int)) = true ∧ decide ((k : Int) < (11 : Int)) = false) := by
          simp only [decide_eq_false_iff_not, decide_eq_true_eq]; omega
        clear d
        have HG := Aside0.mk hg
        clear hg hbb
        rcases hcase with e1 | ⟨e1, e2⟩ | ⟨e1, e2, e3⟩
        all_goals
          by_cases k0 : k = 0
          · have z1 : ((k : Int) == (0 : Int)) = true := by simp [k0]
            have hg := HG.out
            rw [if_pos (Or.inl k0)] at hg
            subst hg
            clear k0 HG
            go_wp2
            go_ret2
            exact ⟨rfl, HB.out⟩
          · have z1 : ((k : Int) == (0 : Int)) = false := by simp [k0]
            have z2 : (k : Int) ≤ (l.length : Int) := by omega
            have z3 : (l.length : Int) ≤ (c : Int) := by omega
            have hdl : (l.drop k).length = l.length - k := List.length_drop
            have hCk : Kd.C (Kd.int .u8) wr (some (ad.add k)) (l.drop k).length (l.drop k) := by
              have hr := ReadsInt.drop_ (Kd.reads_of_C (enc := Value.int .u8) (d := (0 : Int)) (h1 := fun _ => rfl) (Kd.C_below HC.out HB.out)) k hk hlc
              rw [if_neg (by omega)] at hr
              rw [hdl]
              exact Kd.C_of_reads (h1 := fun _ => rfl) hr
            have hbk : AreBytes (l.drop k) := fun x hx => HBy.out x (List.mem_of_mem_drop hx)
            have hT := trim_sp0 (some (ad.add k)) (l.drop k).length (c - k) (l.drop k) wr rfl (by omega) (by omega) (bytesIn_of_C hCk) (fun x hx => by have := hbk x hx; omega)
            obtain ⟨A2, c2, hv⟩ := left_len (some (ad.add k)) (c - k) (trim_le (Lib.bytesOf (l.drop k)) [32, 0])
            rw [hv, hdl] at hT
            have htn := trim_nil (l.drop k) hbk
            obtain ⟨q, hq⟩ : ∃ q, (Lib.trimS (Lib.bytesOf (l.drop k)) [32, 0]).length = q := ⟨_, rfl⟩
            rw [hq] at hT htn
            have hg := HG.out
            have HT := Aside0.mk hT
            have HK0 := Aside0.mk k0
            rw [HD.out] at htn
            clear hT hv hq hCk hbk k0 HG
            by_cases q0 : q = 0
            · rw [if_neg (by intro h; rcases h with h | h; exact HK0.out h; exact h (htn.1 q0))] at hg
              subst hg
              subst q0
              clear htn
              go_wp2_with (refine HT.out.mono ?_)
              rintro e w2 ⟨rfl, hB⟩
              go_wp2
              go_ret2
              exact ⟨rfl, HB.out.trans (hB.mono HB.out.size)⟩
            · rw [if_pos (Or.inr (fun h => q0 (htn.2 h)))] at hg
              subst hg
              have q1 : decide ((0 : Int) < (q : Int)) = true := decide_eq_true (by omega)
              clear htn
              go_wp2_with (refine HT.out.mono ?_)
              rintro e w2 ⟨rfl, hB⟩
              go_wp2
              go_ret2
              exact ⟨rfl, HB.out.trans (hB.mono HB.out.size)⟩
    · have hkl : k = l.length := by omega
      subst hkl
      have hg := HG.out
      rw [List.drop_length, octGo] at hg
      subst hg
      go_wp2
      go_ret2
      exact ⟨rfl, HB.out⟩
end Go.Proofs.YteblbggmchcijaaDoor.PAll
namespace Go.Proofs.YteblbggmchcijaaDoor.PAll
open Go.RowKit Go.Lib Go.Proofs.YteblbggmchcijaaDoor Go.Proofs.YteblbggmchcijaaDoorW.PrintWords Go.Proofs.YteblbggmchcijaaDoorW.PrintLast Go.Proofs.YteblbggmchcijaaDoorW.PrintMore
def head_Octal.f (l0 : List Int) : Option (Int × Int) := if decide (l0.length ≤ 140737488355328) && byteB l0 then some (octP l0) else none
theorem head_Octal.calls (A0 : Option Addr) (c0 : Nat) (l0 : List Int) (r1 r2 : Int) (w : World) (hr0 : Kd.C (Kd.int .u8) w A0 l0.length l0) (hc0 : l0.length ≤ c0) (h : head_Octal.f l0 = some (r1, r2)) (hcap : c0 ≤ 9223372036854775807) :
    Calls Tryd.prog 18 #[.slice A0 l0.length c0] w fun e w' => e = .returned (.tuple #[.int .i64 r1, .int .i64 r2]) ∧ Below w.heap.size w w' := by
  unfold head_Octal.f at h
  split at h
  · rename_i hc
    simp only [Bool.and_eq_true, decide_eq_true_eq] at hc
    have h := Option.some.inj h
    have := octal_reads A0 c0 l0 w hr0 hc0 hcap (byteB_iff.1 hc.2) hc.1
    rwa [h] at this
  · cases h
/-- An own row's capacity. -/
theorem R_cap {w : World} {base n c : Nat} {P : Nat → Prop} {A : Option Addr} {xs : List Int} (h : Kd.R (Kd.int .u8) 5 w base P (.slice A n c) xs) : c ≤ 9223372036854775807 := by
  rcases (Kd.own_of_R h).2 with ⟨h, _⟩ | ⟨g, cap, cur, h, _, _, _, hm, _⟩
  · injection h with _ _ h3; omega
  · injection h with _ _ h3; unfold maxLen at hm; omega
end Go.Proofs.YteblbggmchcijaaDoor.PAll
end
section
/- The reference's Octal is head.Octal. -/
namespace Go.Proofs.YteblbggmchcijaaDoor.PAll
open Go.RowKit Go.Lib Go.Proofs.YteblbggmchcijaaDoor Go.Proofs.YteblbggmchcijaaDoorW.PrintWords Go.Proofs.YteblbggmchcijaaDoorW.PrintLast Go.Proofs.YteblbggmchcijaaDoorW.PrintMore
set_option linter.unusedVariables false
set_option linter.unusedSimpArgs false

theorem Ev.round {α : Type} {g : Nat → Option α} {r : α} (f : Nat → Option α) (h : ∀ k, g (k + 1) = f k) (k : Ev f r) : Ev g r := Ev.step h k
theorem Ev.some {α : Type} {g : Nat → Option α} {r : α} (h : ∀ k, g (k + 1) = Option.some r) : Ev g r := Ev.step (f := fun _ => Option.some r) h ⟨0, fun _ _ => rfl⟩
theorem rd_lt {l : List Int} {i : Nat} (h : i < l.length) : rd l (i : Int) = l[i] := by simp [rd, List.getD_eq_getElem?_getD, List.getElem?_eq_getElem h]
theorem drop_rd {l : List Int} {i : Nat} (h : i < l.length) : l.drop i = rd l (i : Int) :: l.drop (i + 1) := by rw [rd_lt h]; exact List.drop_eq_getElem_cons h
theorem wrap_succ {i n : Nat} (hn : n ≤ 140737488355328) (h : i < n) : wrap64 ((i : Int) + 1) = ((i + 1 : Nat) : Int) := by unfold wrap64; omega

theorem oct_tail (l : List Int) (hl : l.length ≤ 140737488355328) (n : Int) : ∀ (m i : Nat), l.length - i = m → i ≤ l.length → Ev (fun k => sutlerref13_Octal.l2 k l (i : Int) n) (if (l.drop i).all (fun b => b = 32 ∨ b = 0) = true then (n, 0) else (0, 130))
  | 0, i, hm, hi => by
    have : i = l.length := by omega
    subst this
    refine Ev.some fun k => ?_
    unfold sutlerref13_Octal.l2
    rw [if_neg (by omega)]
    simp
  | m + 1, i, hm, hi => by
    have hlt : i < l.length := by omega
    rw [drop_rd hlt]
    by_cases h32 : rd l (i : Int) = 32
    · refine Ev.round (fun k => sutlerref13_Octal.l2 k l ((i + 1 : Nat) : Int) n) (fun k => ?_) ?_
      · conv => lhs; unfold sutlerref13_Octal.l2
        rw [if_pos (by omega), if_pos (by omega), if_pos h32, wrap_succ hl hlt]
      · have := oct_tail l hl n m (i + 1) (by omega) (by omega)
        simpa [h32] using this
    · by_cases h0 : rd l (i : Int) = 0
      · refine Ev.round (fun k => sutlerref13_Octal.l2 k l ((i + 1 : Nat) : Int) n) (fun k => ?_) ?_
        · conv => lhs; unfold sutlerref13_Octal.l2
          rw [if_pos (by omega), if_pos (by omega), if_neg h32, if_pos h0, wrap_succ hl hlt]
        · have := oct_tail l hl n m (i + 1) (by omega) (by omega)
          simpa [h0] using this
      · refine Ev.some fun k => ?_
        unfold sutlerref13_Octal.l2
        rw [if_pos (by omega), if_pos (by omega), if_neg h32, if_neg h0]
        simp [h32, h0]
end Go.Proofs.YteblbggmchcijaaDoor.PAll
end
section
/- The reference's Octal is head.Octal; its Sum, its Empty; SameBytes of equal bytes. -/
namespace Go.Proofs.YteblbggmchcijaaDoor.PAll
open Go.RowKit Go.Lib Go.Proofs.YteblbggmchcijaaDoor Go.Proofs.YteblbggmchcijaaDoorW.PrintWords Go.Proofs.YteblbggmchcijaaDoorW.PrintLast Go.Proofs.YteblbggmchcijaaDoorW.PrintMore
set_option linter.unusedVariables false
set_option linter.unusedSimpArgs false

theorem oct_end (l : List Int) (hl : l.length ≤ 140737488355328) (n : Int) (p d : Nat) (hp : p ≤ l.length) (hd : d ≤ 11) (hc : p < l.length → ¬ (48 ≤ rd l (p : Int) ∧ rd l (p : Int) ≤ 55 ∧ d < 11)) (hc2 : d = 11 → p < l.length → ¬ (48 ≤ rd l (p : Int) ∧ rd l (p : Int) ≤ 55)) :
    Ev (fun k => sutlerref13_Octal.j3 k l (p : Int) n (d : Int)) (octGo (l.drop p) d n) := by
  by_cases h0 : d < 1
  · refine Ev.round (fun k => sutlerref13_Octal.j4 k l (p : Int) n true) (fun k => ?_) (Ev.some fun k => ?_)
    · conv => lhs; simp only [sutlerref13_Octal.j3]
      rw [if_pos (by omega)]
    · simp only [sutlerref13_Octal.j4]
      rw [if_pos trivial]
      by_cases hlt : p < l.length
      · rw [drop_rd hlt]
        unfold octGo
        rw [if_neg (hc hlt), if_pos (Or.inl (by omega))]
      · rw [List.drop_of_length_le (by omega)]; rfl
  · refine Ev.round (fun k => sutlerref13_Octal.j4 k l (p : Int) n ((p : Int) == (l.length : Int))) (fun k => ?_) ?_
    · conv => lhs; simp only [sutlerref13_Octal.j3]
      rw [if_neg (by omega), if_neg (by omega)]
    · by_cases hlt : p < l.length
      · have e : ((p : Int) == (l.length : Int)) = false := by simp; omega
        rw [e]
        refine Ev.round (fun k => sutlerref13_Octal.l2 k l (p : Int) n) (fun k => ?_) ?_
        · conv => lhs; simp only [sutlerref13_Octal.j4]
          rw [if_neg (by simp)]
        · have := oct_tail l hl n _ p rfl hp
          rw [drop_rd hlt] at this ⊢
          unfold octGo
          rw [if_neg (hc hlt)]
          by_cases ha : (rd l (p : Int) :: l.drop (p + 1)).all (fun b => b = 32 ∨ b = 0) = true
          · rw [if_pos ha] at this
            rw [if_neg (by rintro (h | h); · omega
                           · exact h ha)]
            exact this
          · rw [if_neg ha] at this
            rw [if_pos (Or.inr ha)]
            exact this
      · have e : ((p : Int) == (l.length : Int)) = true := by simp; omega
        rw [e]
        refine Ev.some fun k => ?_
        simp only [sutlerref13_Octal.j4]
        rw [if_pos trivial, List.drop_of_length_le (by omega)]; rfl
theorem oct_digits (l : List Int) (hl : l.length ≤ 140737488355328) : ∀ (m p d : Nat) (n : Int), l.length - p = m → p ≤ l.length → d ≤ 11 → 0 ≤ n → n < 8 ^ d → Ev (fun k => sutlerref13_Octal.l1 k l (p : Int) n (d : Int)) (octGo (l.drop p) d n)
  | 0, p, d, n, hm, hp, hd, hn0, hn => by
    refine Ev.round (fun k => sutlerref13_Octal.j3 k l (p : Int) n (d : Int)) (fun k => ?_) (oct_end l hl n p d hp hd (fun h => by omega) (fun _ h => by omega))
    conv => lhs; simp only [sutlerref13_Octal.l1]
    rw [if_neg (by omega)]
  | m + 1, p, d, n, hm, hp, hd, hn0, hn => by
    have hlt : p < l.length := by omega
    have h8 : (8 : Int) ^ d ≤ 8589934592 := by
      have : (8 : Int) ^ d ≤ 8 ^ 11 := by exact_mod_cast Nat.pow_le_pow_right (by decide) hd
      simpa using this
    by_cases hdig : 48 ≤ rd l (p : Int) ∧ rd l (p : Int) ≤ 55
    · have hnx : wrap64 ((wrap64 (8 * n)) + (((rd l (p : Int)) - 48) % 256)) = 8 * n + (rd l (p : Int) - 48) := by
        unfold wrap64; omega
      have hd1 : wrap64 ((d : Int) + 1) = ((d + 1 : Nat) : Int) := by unfold wrap64; omega
      refine Ev.round (fun k => sutlerref13_Octal.l1 k l ((p + 1 : Nat) : Int) (8 * n + (rd l (p : Int) - 48)) ((d + 1 : Nat) : Int)) (fun k => ?_) ?_
      · conv => lhs; simp only [sutlerref13_Octal.l1]
        rw [if_pos (by omega), if_pos (by omega), if_pos (by omega), if_pos hdig.2, if_pos (by omega), wrap_succ hl hlt, hnx, hd1]
      · by_cases h11 : d < 11
        · have hx : 8 * n + (rd l (p : Int) - 48) < 8 ^ (d + 1) := by rw [Int.pow_succ]; omega
          have := oct_digits l hl m (p + 1) (d + 1) (8 * n + (rd l (p : Int) - 48)) (by omega) (by omega) (by omega) (by omega) hx
          rw [drop_rd hlt]
          unfold octGo
          rw [if_pos ⟨hdig.1, hdig.2, h11⟩]
          exact this
        · obtain rfl : d = 11 := by omega
          have er : octGo (l.drop p) 11 n = (0, 130) := by
            rw [drop_rd hlt]
            unfold octGo
            rw [if_neg (by omega), if_pos]
            right
            rw [List.all_cons]
            have : ¬ (rd l (p : Int) = 32 ∨ rd l (p : Int) = 0) := by omega
            simp [this]
          rw [er]
          have stop : ∀ x : Nat, x ≤ l.length → Ev (fun k => sutlerref13_Octal.j3 k l (x : Int) (8 * n + (rd l (p : Int) - 48)) ((11 + 1 : Nat) : Int)) (0, 130) := fun x hx => by
            refine Ev.round (fun k => sutlerref13_Octal.j4 k l (x : Int) (8 * n + (rd l (p : Int) - 48)) true) (fun k => ?_) (Ev.some fun k => ?_)
            · conv => lhs; simp only [sutlerref13_Octal.j3]
              rw [if_neg (by omega), if_pos (by omega)]
            · simp only [sutlerref13_Octal.j4]
              rw [if_pos trivial]
          refine Ev.round (fun k => sutlerref13_Octal.j3 k l ((p + 1 : Nat) : Int) (8 * n + (rd l (p : Int) - 48)) ((11 + 1 : Nat) : Int)) (fun k => ?_) (stop (p + 1) (by omega))
          conv => lhs; simp only [sutlerref13_Octal.l1]
          by_cases h2 : ((p + 1 : Nat) : Int) < (l.length : Int)
          · rw [if_pos h2, if_pos (by omega)]
            split
            · split
              · rw [if_neg (by omega)]
              · rfl
            · rfl
          · rw [if_neg h2]
    · refine Ev.round (fun k => sutlerref13_Octal.j3 k l (p : Int) n (d : Int)) (fun k => ?_) (oct_end l hl n p d hp hd (fun _ h => hdig ⟨h.1, h.2.1⟩) (fun _ _ h => hdig h))
      conv => lhs; simp only [sutlerref13_Octal.l1]
      rw [if_pos (by omega), if_pos (by omega)]
      by_cases h1 : rd l (p : Int) ≥ 48
      · rw [if_pos h1, if_neg (by omega)]
      · rw [if_neg h1]
theorem oct_spaces (l : List Int) (hl : l.length ≤ 140737488355328) : ∀ (m p : Nat), l.length - p = m → p ≤ l.length → Ev (fun k => sutlerref13_Octal.l0 k l (p : Int)) (octGo ((l.drop p).dropWhile (fun b => b = 32)) 0 0)
  | 0, p, hm, hp => by
    have := oct_digits l hl _ p 0 0 rfl hp (by omega) (by omega) (by simp)
    have e : (l.drop p).dropWhile (fun b => b = 32) = l.drop p := by rw [List.drop_of_length_le (by omega)]; rfl
    rw [e]
    refine Ev.round (fun k => sutlerref13_Octal.j1 k l (p : Int)) (fun k => ?_) (Ev.round _ (fun k => ?_) this)
    · conv => lhs; simp only [sutlerref13_Octal.l0]
      rw [if_neg (by omega)]
    · conv => lhs; simp only [sutlerref13_Octal.j1]
      rfl
  | m + 1, p, hm, hp => by
    have hlt : p < l.length := by omega
    by_cases h32 : rd l (p : Int) = 32
    · refine Ev.round (fun k => sutlerref13_Octal.l0 k l ((p + 1 : Nat) : Int)) (fun k => ?_) ?_
      · conv => lhs; simp only [sutlerref13_Octal.l0]
        rw [if_pos (by omega), if_pos (by omega), if_pos h32, wrap_succ hl hlt]
      · have := oct_spaces l hl m (p + 1) (by omega) (by omega)
        rw [drop_rd hlt, List.dropWhile_cons, if_pos (by simp [h32])]
        exact this
    · have := oct_digits l hl _ p 0 0 rfl hp (by omega) (by omega) (by simp)
      have e : (l.drop p).dropWhile (fun b => b = 32) = l.drop p := by rw [drop_rd hlt, List.dropWhile_cons, if_neg (by simp [h32])]
      rw [e]
      refine Ev.round (fun k => sutlerref13_Octal.j1 k l (p : Int)) (fun k => ?_) (Ev.round _ (fun k => ?_) this)
      · conv => lhs; simp only [sutlerref13_Octal.l0]
        rw [if_pos (by omega), if_pos (by omega), if_neg h32]
      · conv => lhs; simp only [sutlerref13_Octal.j1]
        rfl
theorem octal_ref (l : List Int) (hl : l.length ≤ 140737488355328) : Ev (fun k => sutlerref13_Octal.f k l) (octP l) := by
  have := oct_spaces l hl _ 0 rfl (by omega)
  simpa [sutlerref13_Octal.f, octP] using this

theorem sum_ref_at (l : List Int) (hl : l.length ≤ 140737488355328) (hb : AreBytes l) : ∀ (m p : Nat), l.length - p = m → p ≤ l.length → Ev (fun k => sutlerref13_Sum.l0 k l (sumTo l p) (p : Int)) (sumTo l l.length)
  | 0, p, hm, hp => by
    obtain rfl : p = l.length := by omega
    refine Ev.some fun k => ?_
    unfold sutlerref13_Sum.l0
    rw [if_neg (by omega)]
  | m + 1, p, hm, hp => by
    have hlt : p < l.length := by omega
    have hr := sumTo_range hb p
    have hx := rd_byte hb (p : Int)
    have e : sumTo l (p + 1) = sumTo l p + (if 148 ≤ p ∧ p < 156 then 32 else rd l (p : Int)) := rfl
    refine Ev.round (fun k => sutlerref13_Sum.l0 k l (sumTo l (p + 1)) ((p + 1 : Nat) : Int)) (fun k => ?_) (sum_ref_at l hl hb m (p + 1) (by omega) (by omega))
    conv => lhs; unfold sutlerref13_Sum.l0
    rw [if_pos (by omega), wrap_succ hl hlt, e]
    have ew : wrap64 (rd l (p : Int)) = rd l (p : Int) := by unfold wrap64; omega
    have ew2 : wrap64 (sumTo l p + rd l (p : Int)) = sumTo l p + rd l (p : Int) := by unfold wrap64; omega
    have ew3 : wrap64 (sumTo l p + 32) = sumTo l p + 32 := by unfold wrap64; omega
    rw [ew, ew2, ew3]
    by_cases h1 : (p : Int) ≥ 148
    · rw [if_pos h1]
      by_cases h2 : (p : Int) < 156
      · rw [if_pos h2, if_pos (by omega)]
      · rw [if_neg h2, if_pos (by omega), if_neg (by omega)]
    · rw [if_neg h1, if_pos (by omega), if_neg (by omega)]
theorem sum_ref (l : List Int) (hl : l.length ≤ 140737488355328) (hb : AreBytes l) : Ev (fun k => sutlerref13_Sum.f k l) (sumTo l l.length) := sum_ref_at l hl hb _ 0 rfl (by omega)

theorem empty_ref_at (l : List Int) (hl : l.length ≤ 140737488355328) : ∀ (m p : Nat), l.length - p = m → p ≤ l.length → (∀ j : Nat, j < p → rd l (j : Int) = 0) → Ev (fun k => sutlerref13_Empty.l0 k l (p : Int)) (emptyL l)
  | 0, p, hm, hp, hz => by
    obtain rfl : p = l.length := by omega
    refine Ev.some fun k => ?_
    unfold sutlerref13_Empty.l0
    rw [if_neg (by omega)]
    have : idxNZ l = -1 := idxNZ_none fun j hj => by simp [hz j hj]
    unfold emptyL
    rw [this]
    simp
    rw [Bool.eq_iff_iff]; simp; omega
  | m + 1, p, hm, hp, hz => by
    have hlt : p < l.length := by omega
    by_cases h0 : rd l (p : Int) = 0
    · refine Ev.round (fun k => sutlerref13_Empty.l0 k l ((p + 1 : Nat) : Int)) (fun k => ?_) (empty_ref_at l hl m (p + 1) (by omega) (by omega) (fun j hj => by
        by_cases e : j = p
        · rw [e]; exact h0
        · exact hz j (by omega)))
      conv => lhs; unfold sutlerref13_Empty.l0
      rw [if_pos (by omega), if_pos (by omega), if_pos h0, wrap_succ hl hlt]
    · refine Ev.some fun k => ?_
      unfold sutlerref13_Empty.l0
      rw [if_pos (by omega), if_pos (by omega), if_neg h0]
      have : idxNZ l = (p : Int) := idxNZ_some hlt (by simp [h0]) fun j hj => by simp [hz j hj]
      unfold emptyL
      rw [this]
      have : decide ((p : Int) < 0) = false := decide_eq_false (by omega)
      rw [this, Bool.and_false]
theorem empty_ref (l : List Int) (hl : l.length ≤ 140737488355328) : Ev (fun k => sutlerref13_Empty.f k l) (emptyL l) := empty_ref_at l hl _ 0 rfl (by omega) (fun j hj => by omega)

theorem same_at (l : List Int) (hl : l.length ≤ 140737488355328) : ∀ (m p : Nat), l.length - p = m → p ≤ l.length → Ev (fun k => sutlerbase_SameBytes.l0 k l l (p : Int)) true
  | 0, p, hm, hp => by
    refine Ev.some fun k => ?_
    unfold sutlerbase_SameBytes.l0
    rw [if_neg (by omega)]
  | m + 1, p, hm, hp => by
    have hlt : p < l.length := by omega
    refine Ev.round (fun k => sutlerbase_SameBytes.l0 k l l ((p + 1 : Nat) : Int)) (fun k => ?_) (same_at l hl m (p + 1) (by omega) (by omega))
    conv => lhs; unfold sutlerbase_SameBytes.l0
    rw [if_pos (by omega), if_pos (by omega), if_pos (by omega), if_pos rfl, wrap_succ hl hlt]
theorem same_ref (l : List Int) (hl : l.length ≤ 140737488355328) : Ev (fun k => sutlerbase_SameBytes.f k l l) true := by
  refine Ev.congr (fun k => ?_) (same_at l hl _ 0 rfl (by omega))
  unfold sutlerbase_SameBytes.f
  rw [if_pos rfl]; rfl
end Go.Proofs.YteblbggmchcijaaDoor.PAll
end
