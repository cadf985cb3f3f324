/- The reference's side of the law VersionReads, and the law, in plain Lean. -/
import Derived.Test.YtbikimkmkchkhaaGreatDoorMAUA
import Derived.Test.YtbikimkmkchkhaaGreatDoorMAPAllx94
import Derived.Test.YtbikimkmkchkhaaGreatDoorMAVBounds
namespace Go.Proofs.YtbikimkmkchkhaaGreatDoor.PAll
open Go.RowKit Go.Lib Go.Proofs.YtbikimkmkchkhaaGreatDoor Go.Proofs.YtbikimkmkchkhaaGreatDoor.Ver Go.Proofs.YtbikimkmkchkhaaGreatDoorW.PrintWords Go.Proofs.YtbikimkmkchkhaaGreatDoorW.PrintLast Go.Proofs.YtbikimkmkchkhaaGreatDoorW.PrintMore
set_option linter.unusedVariables false
set_option linter.unusedSimpArgs false

theorem len_sz (t : ByteArray) : t.data.toList.length = t.size := Array.length_toList
theorem bt_nat {t : ByteArray} {i : Nat} (h : i < t.data.toList.length) : bt t (i : Int) = ((t.data.toList[i]).toNat : Int) := by
  have h' : (i : Int).toNat < t.size := by rw [Int.toNat_natCast, ← len_sz]; exact h
  unfold bt
  rw [dif_pos h']
  rfl
/-! ### the tail -/
def isLet (c : UInt8) : Bool := (decide (97 ≤ c.toNat) && decide (c.toNat ≤ 122)) || (decide (48 ≤ c.toNat) && decide (c.toNat ≤ 57))
theorem let_iff (c : UInt8) : c ∈ letters.data.toList ↔ isLet c = true := by
  have h : ∀ n : Fin 256, UInt8.ofNat n.val ∈ letters.data.toList ↔ isLet (UInt8.ofNat n.val) = true := by decide +kernel
  have := h ⟨c.toNat, UInt8.toNat_lt c⟩
  simpa using this
theorem tailB_eq (t : ByteArray) : tailB t = (decide (t.size ≤ 8) && t.data.toList.all isLet) := by
  rw [Bool.eq_iff_iff, tailB_iff, Bool.and_eq_true, decide_eq_true_eq, List.all_eq_true]
  simp only [let_iff]
theorem ref_tail_at (t : ByteArray) (ht : t.size ≤ 140737488355328) : ∀ (m i : Nat), t.size - i = m → i ≤ t.size → Ev (fun k => sutlerref17_tail.l0 k t (i : Int)) ((t.data.toList.drop i).all isLet && decide (t.size ≤ 8))
  | 0, i, hm, hi => by
    have : t.data.toList.drop i = [] := List.drop_eq_nil_iff.2 (by rw [len_sz]; omega)
    rw [this]
    refine Ev.succ ?_
    simp only [sutlerref17_tail.l0]
    refine Ev.neg (by omega) ?_
    have e : (List.all ([] : List UInt8) isLet && decide (t.size ≤ 8)) = decide ((t.size : Int) ≤ 8) := by
      simp only [List.all_nil, Bool.true_and]
      by_cases h : t.size ≤ 8
      · rw [decide_eq_true h, decide_eq_true (by omega)]
      · rw [decide_eq_false h, decide_eq_false (by omega)]
    rw [e]; exact Ev.val _
  | m + 1, i, hm, hi => by
    have hlt : i < t.data.toList.length := by rw [len_sz]; omega
    have ih := ref_tail_at t ht m (i + 1) (by omega) (by omega)
    have hb := bt_nat hlt
    rw [List.drop_eq_getElem_cons hlt, List.all_cons]
    generalize t.data.toList[i] = c at hb
    refine Ev.succ ?_
    simp only [sutlerref17_tail.l0, hb, wrap_succ (n := t.size) ht (by omega : i < t.size)]
    refine Ev.pos (by omega) (Ev.pos (by omega) ?_)
    by_cases h1 : (c.toNat : Int) < 97
    · refine Ev.pos h1 ?_
      by_cases h2 : (c.toNat : Int) < 48
      · refine Ev.pos h2 ?_
        have : isLet c = false := by simp [isLet]; omega
        rw [this]; exact Ev.val _
      · refine Ev.neg h2 ?_
        by_cases h3 : (c.toNat : Int) > 57
        · refine Ev.pos h3 ?_
          have : isLet c = false := by simp [isLet]; omega
          rw [this]; exact Ev.val _
        · refine Ev.neg h3 ?_
          have : isLet c = true := by simp [isLet]; omega
          rw [this, Bool.true_and]; exact ih
    · refine Ev.neg h1 ?_
      by_cases h2 : (c.toNat : Int) > 122
      · refine Ev.pos h2 (Ev.neg (by omega) (Ev.pos (by omega) ?_))
        have : isLet c = false := by simp [isLet]; omega
        rw [this]; exact Ev.val _
      · refine Ev.neg h2 ?_
        have : isLet c = true := by simp [isLet]; omega
        rw [this, Bool.true_and]; exact ih
theorem ref_tail (t : ByteArray) (ht : t.size ≤ 140737488355328) : Ev (fun k => sutlerref17_tail.f k t) (tailB t) := by
  have := ref_tail_at t ht _ 0 rfl (by omega)
  rw [List.drop_zero, Bool.and_comm, ← tailB_eq] at this
  exact this
/-! ### the check -/
def okL (l : List Int) : Int := if ∀ n ∈ l, 0 ≤ n ∧ n ≤ 999999 then 0 else 170
theorem ref_check_at (l : List Int) (t : ByteArray) (hl : l.length ≤ 140737488355328) : ∀ (m i : Nat), l.length - i = m → i ≤ l.length → Ev (fun k => sutlerref17_Check.l0 k (i : Int) l t) (okL (l.drop i))
  | 0, i, hm, hi => by
    have : l.drop i = [] := List.drop_eq_nil_iff.2 (by omega)
    rw [this]
    refine Ev.succ ?_
    simp only [sutlerref17_Check.l0]
    exact Ev.neg (by omega) (Ev.val _)
  | m + 1, i, hm, hi => by
    have hlt : i < l.length := by omega
    have ih := ref_check_at l t hl m (i + 1) (by omega) (by omega)
    have hr := rd_nat l i hlt
    rw [List.drop_eq_getElem_cons hlt]
    generalize l[i] = c at hr
    refine Ev.succ ?_
    simp only [sutlerref17_Check.l0, hr, wrap_succ hl hlt]
    refine Ev.pos (by omega) (Ev.pos (by omega) ?_)
    have bad : ¬ (0 ≤ c ∧ c ≤ 999999) → okL (c :: l.drop (i + 1)) = 170 := fun h => by
      unfold okL; rw [if_neg]; intro hh; exact h (hh c (by simp))
    by_cases h1 : c < 0
    · refine Ev.pos h1 ?_
      rw [bad (by omega)]; exact Ev.val _
    · refine Ev.neg h1 ?_
      by_cases h2 : c > 999999
      · refine Ev.pos h2 ?_
        rw [bad (by omega)]; exact Ev.val _
      · refine Ev.neg h2 ?_
        have : okL (c :: l.drop (i + 1)) = okL (l.drop (i + 1)) := by
          unfold okL
          have : (∀ n ∈ c :: l.drop (i + 1), 0 ≤ n ∧ n ≤ 999999) ↔ ∀ n ∈ l.drop (i + 1), 0 ≤ n ∧ n ≤ 999999 := by
            rw [List.forall_mem_cons]
            exact ⟨fun h => h.2, fun h => ⟨⟨by omega, by omega⟩, h⟩⟩
          simp only [this]
        rw [this]; exact ih
theorem chk_bad {l : List Int} {t : ByteArray} (h : ¬ GoodV l t) : chkV l t = 170 := by
  unfold chkV
  cases hb : badV l t
  · exact absurd ((goodV_iff l t).1 hb) h
  · rfl
theorem chk_good {l : List Int} {t : ByteArray} (h : GoodV l t) : chkV l t = 0 := by
  unfold chkV; rw [(goodV_iff l t).2 h]; rfl
theorem ref_check_j (l : List Int) (t : ByteArray) (b : Bool) (hl : l.length ≤ 140737488355328) : Ev (fun k => sutlerref17_Check.j0 k b l t) (if b = true then 170 else okL l) := by
  refine Ev.succ ?_
  simp only [sutlerref17_Check.j0]
  by_cases h : b = true
  · refine Ev.pos h ?_
    rw [if_pos h]; exact Ev.val _
  · refine Ev.neg h ?_
    rw [if_neg h]
    exact ref_check_at l t hl _ 0 rfl (by omega)
theorem ref_check {l : List Int} {t : ByteArray} (hl : l.length ≤ 140737488355328) (ht : t.size ≤ 140737488355328) : Ev (fun k => sutlerref17_Check.f k l t) (chkV l t) := by
  unfold sutlerref17_Check.f
  by_cases h1 : (l.length : Int) < 1
  · refine Ev.pos h1 ?_
    rw [chk_bad (fun g => by have := g.l1; omega)]
    exact ref_check_j l t true hl
  refine Ev.neg h1 ?_
  by_cases h2 : (l.length : Int) > 4
  · refine Ev.pos h2 ?_
    rw [chk_bad (fun g => by have := g.l4; omega)]
    exact ref_check_j l t true hl
  refine Ev.neg h2 ?_
  refine Ev.bind (ref_tail t ht) ?_
  have hj := ref_check_j l t (!tailB t) hl
  cases htb : tailB t
  · rw [htb] at hj
    rw [chk_bad (fun g => by rw [(tailB_iff t).2 ⟨g.t8, g.tl⟩] at htb; cases htb)]
    exact hj
  · rw [htb] at hj
    have ht' := (tailB_iff t).1 htb
    have : chkV l t = okL l := by
      unfold okL
      by_cases h : ∀ n ∈ l, 0 ≤ n ∧ n ≤ 999999
      · rw [if_pos h]; exact chk_good ⟨by omega, by omega, h, ht'.1, ht'.2⟩
      · rw [if_neg h]; exact chk_bad (fun g => h g.rng)
    rw [this]
    exact hj
/-! ### whole numbers -/
structure WholeL (l : List UInt8) : Prop where
  ne : l ≠ []
  l6 : l.length ≤ 6
  dig : ∀ c ∈ l, isDig c
  hd : 1 < l.length → ∀ c r, l = c :: r → c.toNat ≠ 48
open Classical in
noncomputable def wholeV (l : List UInt8) : Option Nat := if WholeL l then some (valF 0 l) else none
def digB (c : UInt8) : Bool := decide (48 ≤ c.toNat) && decide (c.toNat ≤ 57)
theorem digB_iff (c : UInt8) : digB c = true ↔ isDig c := by simp [digB, isDig]
theorem val_small {l : List UInt8} (hd : ∀ c ∈ l, isDig c) (h6 : l.length ≤ 6) : valF 0 l ≤ 999999 := by
  have h := (valF_lt l 0 hd).1
  have : 10 ^ l.length ≤ 10 ^ 6 := Nat.pow_le_pow_right (by decide) h6
  omega
theorem wrap_dig (v c : Nat) (hv : v ≤ 999999) (h1 : 48 ≤ c) (h2 : c ≤ 57) : wrap64 ((wrap64 ((v : Int) * 10)) + (((c : Int) - 48) % 256)) = ((v * 10 + (c - 48) : Nat) : Int) := by
  unfold wrap64; omega
theorem whole_at (x : ByteArray) (h6 : x.size ≤ 6) : ∀ (m i : Nat), x.size - i = m → i ≤ x.size → (∀ c ∈ x.data.toList.take i, isDig c) →
    Ev (fun k => sutlerbase_Whole.l0 k x ((valF 0 (x.data.toList.take i) : Nat) : Int) (i : Int)) (if (x.data.toList.drop i).all digB = true then (((valF 0 x.data.toList : Nat) : Int), true) else (0, false))
  | 0, i, hm, hi, _ => by
    have e1 : x.data.toList.drop i = [] := List.drop_eq_nil_iff.2 (by rw [len_sz]; omega)
    have e2 : x.data.toList.take i = x.data.toList := List.take_of_length_le (by rw [len_sz]; omega)
    rw [e1, e2]
    refine Ev.succ ?_
    simp only [sutlerbase_Whole.l0]
    exact Ev.neg (by omega) (Ev.val _)
  | m + 1, i, hm, hi, hd => by
    have hlt : i < x.data.toList.length := by rw [len_sz]; omega
    have hb := bt_nat hlt
    have hv := val_small hd (by rw [List.length_take]; omega)
    have ht : x.data.toList.take (i + 1) = x.data.toList.take i ++ [x.data.toList[i]] := List.take_succ_eq_append_getElem hlt
    have ih := whole_at x h6 m (i + 1) (by omega) (by omega)
    rw [ht, valF_app] at ih
    rw [List.drop_eq_getElem_cons hlt, List.all_cons]
    generalize x.data.toList[i] = c at hb ih ht
    refine Ev.succ ?_
    simp only [sutlerbase_Whole.l0, hb, wrap_succ (n := x.size) (by omega) (by omega : i < x.size)]
    refine Ev.pos (by omega) (Ev.pos (by omega) ?_)
    by_cases h1 : (c.toNat : Int) < 48
    · refine Ev.pos h1 ?_
      have : digB c = false := by simp [digB]; omega
      rw [this]; exact Ev.val _
    refine Ev.neg h1 ?_
    by_cases h2 : (c.toNat : Int) > 57
    · refine Ev.pos h2 ?_
      have : digB c = false := by simp [digB]; omega
      rw [this]; exact Ev.val _
    refine Ev.neg h2 ?_
    have hc : isDig c := ⟨by omega, by omega⟩
    have : digB c = true := (digB_iff c).2 hc
    rw [this, Bool.true_and]
    rw [wrap_dig _ c.toNat hv hc.1 hc.2]
    exact ih (fun d hdm => by
      rcases List.mem_append.1 hdm with h | h
      · exact hd d h
      · rw [List.mem_singleton] at h; rw [h]; exact hc)
theorem whole_j (x : ByteArray) (b : Bool) (h6 : b = false → x.size ≤ 6) : Ev (fun k => sutlerbase_Whole.j0 k x b) (if b = true then (0, false) else if x.data.toList.all digB = true then (((valF 0 x.data.toList : Nat) : Int), true) else (0, false)) := by
  refine Ev.succ ?_
  simp only [sutlerbase_Whole.j0]
  by_cases h : b = true
  · refine Ev.pos h ?_
    rw [if_pos h]; exact Ev.val _
  · refine Ev.neg h ?_
    rw [if_neg h]
    exact whole_at x (h6 (by simpa using h)) _ 0 rfl (by omega) (by simp)
def wholeR : Option Nat → Int × Bool
  | some n => ((n : Int), true)
  | none => (0, false)
theorem wholeV_no {l : List UInt8} (h : ¬ WholeL l) : wholeV l = none := by unfold wholeV; rw [if_neg h]
theorem whole_ev (x : ByteArray) : Ev (fun k => sutlerbase_Whole.f k x 6) (wholeR (wholeV x.data.toList)) := by
  unfold sutlerbase_Whole.f
  have nj := whole_j x true (by simp)
  rw [if_pos rfl] at nj
  by_cases h1 : x.toList = ([] : List UInt8)
  · refine Ev.pos h1 ?_
    rw [wholeV_no (fun g => g.ne (by rw [← ByteArray.toList_eq]; exact h1))]
    exact nj
  refine Ev.neg h1 ?_
  by_cases h2 : (x.size : Int) > 6
  · refine Ev.pos h2 ?_
    rw [wholeV_no (fun g => by have := g.l6; rw [len_sz] at this; omega)]
    exact nj
  refine Ev.neg h2 (Ev.neg (by decide) ?_)
  have hne : x.data.toList ≠ [] := by rw [← ByteArray.toList_eq]; exact h1
  have fin (hh : 1 < x.data.toList.length → ∀ c r, x.data.toList = c :: r → c.toNat ≠ 48) : Ev (fun k => sutlerbase_Whole.j0 k x false) (wholeR (wholeV x.data.toList)) := by
    have yj := whole_j x false (fun _ => by omega)
    rw [if_neg (by decide)] at yj
    have : wholeR (wholeV x.data.toList) = if x.data.toList.all digB = true then (((valF 0 x.data.toList : Nat) : Int), true) else (0, false) := by
      by_cases h : x.data.toList.all digB = true
      · rw [if_pos h]
        have g : WholeL x.data.toList := ⟨hne, by rw [len_sz]; omega, fun c hc => (digB_iff c).1 (List.all_eq_true.1 h c hc), hh⟩
        unfold wholeV; rw [if_pos g]; rfl
      · rw [if_neg h, wholeV_no (fun g => h (List.all_eq_true.2 fun c hc => (digB_iff c).2 (g.dig c hc)))]; rfl
    rw [this]; exact yj
  by_cases h3 : (x.size : Int) > 1
  · refine Ev.pos h3 (Ev.pos (by omega) ?_)
    have hlt : 0 < x.data.toList.length := by rw [len_sz]; omega
    have hb := bt_nat hlt
    rw [show ((0 : Nat) : Int) = 0 from rfl] at hb
    rw [hb]
    by_cases h4 : (x.data.toList[0]).toNat = 48
    · rw [h4]
      rw [wholeV_no (fun g => by
        refine g.hd (by rw [len_sz]; omega) (x.data.toList[0]) (x.data.toList.drop 1) ?_ h4
        have := List.drop_eq_getElem_cons hlt
        rwa [List.drop_zero] at this)]
      exact nj
    · have : (((x.data.toList[0]).toNat : Int) == 48) = false := beq_eq_false_iff_ne.2 (by omega)
      rw [this]
      exact fin (fun _ c r e => by simp only [e, List.getElem_cons_zero] at h4; exact h4)
  · refine Ev.neg h3 ?_
    exact fin (fun h => by rw [len_sz] at h; omega)
theorem whole_some {x : ByteArray} {n : Nat} (h : wholeV x.data.toList = some n) : x.data.toList = Lib.itoa (n : Int) ∧ n ≤ 999999 := by
  unfold wholeV at h
  split at h
  · rename_i g
    have := Option.some.inj h
    subst this
    refine ⟨?_, val_small g.dig g.l6⟩
    rw [itoa_nonneg]
    refine (dd_of _ g.ne g.dig ?_).symm
    cases hx : x.data.toList with
    | nil => exact absurd hx g.ne
    | cons c r =>
      by_cases hr : r = []
      · subst hr
        by_cases h48 : c.toNat = 48
        · left
          have : c = UInt8.ofNat 48 := by apply UInt8.toNat_inj.1; rw [h48]; rfl
          rw [this]
        · exact Or.inr ⟨c, [], rfl, h48⟩
      · refine Or.inr ⟨c, r, rfl, g.hd ?_ c r hx⟩
        rw [hx, List.length_cons]
        have := List.length_pos_iff.2 hr
        omega
  · cases h
theorem dd_len (u : Nat) (h : u ≤ 999999) : (decDigits u).length ≤ 6 := by
  by_cases h7 : 7 ≤ (decDigits u).length
  · exfalso
    rcases dd_head u with h0 | ⟨c, l, h0, h1⟩
    · rw [h0] at h7; simp at h7
    · have hd := dd_digs u
      have hv := dd_val u
      rw [h0] at hd hv h7
      have hc := hd c (by simp)
      have := (valF_lt l (0 * 10 + (c.toNat - 48)) (fun d hd' => hd d (List.mem_cons_of_mem _ hd'))).2
      have hv' : valF (0 * 10 + (c.toNat - 48)) l = u := hv
      rw [hv'] at this
      rw [List.length_cons] at h7
      have hp : 10 ^ 6 ≤ 10 ^ l.length := Nat.pow_le_pow_right (by decide) (by omega)
      have h1' : 1 ≤ 0 * 10 + (c.toNat - 48) := by have := hc.1; omega
      have := Nat.mul_le_mul h1' hp
      omega
  · omega
theorem whole_none {x : ByteArray} (h : wholeV x.data.toList = none) {n : Int} (hp : pieceV x = some n) : ¬ (0 ≤ n ∧ n ≤ 999999) := by
  rintro ⟨h0, h1⟩
  have hx := piece_is hp
  obtain ⟨u, rfl⟩ := Int.eq_ofNat_of_zero_le h0
  rw [itoa_nonneg] at hx
  unfold wholeV at h
  split at h
  · cases h
  · rename_i g
    refine g ⟨by rw [hx]; exact dd_ne u, by rw [hx]; exact dd_len u (by omega), by rw [hx]; exact dd_digs u, fun hl c r e => ?_⟩
    rw [hx] at e hl
    rcases dd_head u with h2 | ⟨d, l, h2, h3⟩
    · rw [h2] at hl; simp at hl
    · rw [h2, List.cons.injEq] at e
      rw [← e.1]; exact h3
end Go.Proofs.YtbikimkmkchkhaaGreatDoor.PAll
/- The law VersionReads in plain Lean. -/
namespace Go.Proofs.YtbikimkmkchkhaaGreatDoor.PAll
open Go.RowKit Go.Lib Go.Proofs.YtbikimkmkchkhaaGreatDoor Go.Proofs.YtbikimkmkchkhaaGreatDoor.Ver Go.Proofs.YtbikimkmkchkhaaGreatDoorW.PrintWords Go.Proofs.YtbikimkmkchkhaaGreatDoorW.PrintLast Go.Proofs.YtbikimkmkchkhaaGreatDoorW.PrintMore
set_option linter.unusedVariables false
set_option linter.unusedSimpArgs false

/-! ### parting -/
theorem ext_list (x : ByteArray) (a b : Nat) (hb : b ≤ x.size) : (x.extract a b).data.toList = (x.data.toList.take b).drop a := by
  rw [ByteArray.data_extract, Array.toList_extract]
  simp [List.extract, List.take_drop]
  by_cases h : a ≤ b
  · rw [show a + (b - a) = b by omega]
  · rw [List.drop_eq_nil_iff.2 (by rw [List.length_take]; omega), List.drop_eq_nil_iff.2 (by rw [List.length_take]; omega)]
theorem splitC_tail (c : UInt8) (l : List UInt8) (i : Nat) (hi : i < l.length) (h : l[i] = c) (f : Nat) (hf : f ≤ i) (hn : c ∉ (l.take i).drop f) : splitC c (l.drop f) = (l.take i).drop f :: splitC c (l.drop (i + 1)) := by
  have : l.drop f = (l.take i).drop f ++ c :: l.drop (i + 1) := by
    conv => lhs; rw [← List.take_append_drop i l]
    rw [List.drop_append_of_le_length (by rw [List.length_take]; omega), List.drop_eq_getElem_cons hi, h]
  rw [this, splitC_app c _ _ hn]
theorem ref_split_at (x : ByteArray) (hx : x.size ≤ 8796093022000) : ∀ (m i f : Nat) (out : List ByteArray), x.size - i = m → i ≤ x.size → f ≤ i → out.length ≤ i → (46 : UInt8) ∉ (x.data.toList.take i).drop f →
    ∃ R, Ev (fun k => sutlerbase_Split.l0 k x 46 out (f : Int) (i : Int)) R ∧ lists R = lists out ++ splitC 46 (x.data.toList.drop f)
  | 0, i, f, out, hm, hi, hf, ho, hn => by
    obtain rfl : i = x.size := by omega
    refine ⟨out ++ [x.extract f x.size], ?_, ?_⟩
    · refine Ev.succ ?_
      simp only [sutlerbase_Split.l0, Int.toNat_natCast, wrap_succ (n := x.size + 1) (by omega) (Nat.lt_succ_self _)]
      refine Ev.pos (by omega) (Ev.pos trivial (Ev.pos (by omega) (Ev.pos (by omega) (Ev.pos (by omega) ?_))))
      refine Ev.succ ?_
      simp only [sutlerbase_Split.l0]
      exact Ev.neg (by omega) (Ev.val _)
    · have e : x.data.toList.take x.size = x.data.toList := List.take_of_length_le (by rw [len_sz]; omega)
      rw [e] at hn
      rw [splitC_self 46 _ hn]
      simp only [lists, List.map_append, List.map_cons, List.map_nil, ext_list x f x.size (Nat.le_refl _), e]
  | m + 1, i, f, out, hm, hi, hf, ho, hn => by
    have hlt : i < x.data.toList.length := by rw [len_sz]; omega
    have hb := bt_nat hlt
    have w1 := wrap_succ (n := x.size) (by omega) (by omega : i < x.size)
    by_cases hc : x.data.toList[i] = 46
    · obtain ⟨R, hR, hl⟩ := ref_split_at x hx m (i + 1) (i + 1) (out ++ [x.extract f i]) (by omega) (by omega) (Nat.le_refl _) (by rw [List.length_append, List.length_singleton]; omega) (by
        rw [List.drop_eq_nil_iff.2 (by rw [List.length_take]; omega)]; simp)
      refine ⟨R, ?_, ?_⟩
      · refine Ev.succ ?_
        simp only [sutlerbase_Split.l0, hb, hc, w1, Int.toNat_natCast]
        exact Ev.pos (by omega) (Ev.neg (by omega) (Ev.pos (by omega) (Ev.pos (by omega) (Ev.pos rfl (Ev.pos (by omega) (Ev.pos (by omega) (Ev.pos (by omega) hR)))))))
      · rw [hl, splitC_tail 46 _ i hlt hc f hf hn]
        simp only [lists, List.map_append, List.map_cons, List.map_nil, ext_list x f i (by omega), List.append_assoc, List.singleton_append]
    · have ht : x.data.toList.take (i + 1) = x.data.toList.take i ++ [x.data.toList[i]] := List.take_succ_eq_append_getElem hlt
      obtain ⟨R, hR, hl⟩ := ref_split_at x hx m (i + 1) f out (by omega) (by omega) (by omega) (by omega) (by
        rw [ht, List.drop_append_of_le_length (by rw [List.length_take]; omega)]
        intro h
        rcases List.mem_append.1 h with h | h
        · exact hn h
        · rw [List.mem_singleton] at h; exact hc h.symm)
      refine ⟨R, ?_, hl⟩
      have hc' : ¬ ((x.data.toList[i]).toNat : Int) = 46 := fun h => hc (by apply UInt8.toNat_inj.1; show _ = 46; omega)
      refine Ev.succ ?_
      simp only [sutlerbase_Split.l0, hb, w1]
      exact Ev.pos (by omega) (Ev.neg (by omega) (Ev.pos (by omega) (Ev.pos (by omega) (Ev.neg hc' hR))))
theorem lists_inj {a b : List ByteArray} (h : lists a = lists b) : a = b := by
  induction a generalizing b with
  | nil => cases b with
    | nil => rfl
    | cons y b => simp [lists] at h
  | cons x a ih => cases b with
    | nil => simp [lists] at h
    | cons y b =>
      simp only [lists, List.map_cons, List.cons.injEq] at h
      rw [data_eq h.1, ih h.2]
theorem ref_split (x : ByteArray) (hx : x.size ≤ 8796093022000) : Ev (fun k => sutlerbase_Split.f k x 46) (partsOf x) := by
  obtain ⟨R, hR, hl⟩ := ref_split_at x hx _ 0 0 [] rfl (by omega) (by omega) (by simp) (by simp)
  have : R = partsOf x := lists_inj (by rw [hl, parts_split, List.drop_zero]; rfl)
  rw [← this]; exact hR
theorem splitC_len (c : UInt8) : ∀ l : List UInt8, (splitC c l).length ≤ l.length + 1
  | [] => by simp [splitC]
  | a :: l => by
    have ih := splitC_len c l
    unfold splitC
    split
    · simp only [List.length_cons]; omega
    · split
      · simp
      · rename_i h t e
        rw [e] at ih
        simp only [List.length_cons] at ih ⊢; omega
theorem parts_len (x : ByteArray) : (partsOf x).length ≤ x.size + 1 := by
  have h := splitC_len 46 x.data.toList
  rw [← parts_split, len_sz] at h
  simpa [lists] using h
/-! ### reading -/
theorem bad_range {l : List Int} {t : ByteArray} {n : Int} (hm : n ∈ l) (h : ¬ (0 ≤ n ∧ n ≤ 999999)) : badV l t = true := by
  cases hb : badV l t
  · exact absurd (((goodV_iff l t).1 hb).rng n hm) h
  · rfl
def putV (acc : List Int) (t : ByteArray) : Option (List Int) → List Int × ByteArray × Int
  | none => badP
  | some vs => if badV (acc ++ vs) t = true then badP else (acc ++ vs, t, 0)
theorem ref_l1 (ps : List ByteArray) (t : ByteArray) (hp : ps.length ≤ 17592186044416) (ht : t.size ≤ 140737488355328) : ∀ (m i : Nat) (acc : List Int), ps.length - i = m → i ≤ ps.length → acc.length = i →
    Ev (fun k => sutlerref17_Parse.l1 k ps (i : Int) acc t) (putV acc t (piecesV (ps.drop i)))
  | 0, i, acc, hm, hi, ha => by
    have : ps.drop i = [] := List.drop_eq_nil_iff.2 (by omega)
    rw [this]
    refine Ev.succ ?_
    simp only [sutlerref17_Parse.l1]
    refine Ev.neg (by omega) (Ev.bind (ref_check (by omega) ht) ?_)
    simp only [piecesV, putV, List.append_nil]
    unfold chkV
    cases hb : badV acc t
    · exact Ev.pos (by simp) (Ev.val _)
    · exact Ev.neg (by simp) (Ev.val _)
  | m + 1, i, acc, hm, hi, ha => by
    have hlt : i < ps.length := by omega
    have hr : rdOf ByteArray.empty ps (i : Int) = ps[i] := by simp [rdOf, List.getD_eq_getElem?_getD, List.getElem?_eq_getElem hlt]
    rw [List.drop_eq_getElem_cons hlt]
    generalize ps[i] = x at hr
    refine Ev.succ ?_
    simp only [sutlerref17_Parse.l1, hr, wrap_succ (n := ps.length) (by omega) hlt]
    refine Ev.pos (by omega) (Ev.pos (by omega) (Ev.bind (whole_ev x) ?_))
    cases hw : wholeV x.data.toList with
    | none =>
      refine Ev.neg (by simp [wholeR]) ?_
      have : putV acc t (piecesV (x :: ps.drop (i + 1))) = badP := by
        rw [piecesV]
        cases hv : pieceV x with
        | none => rfl
        | some n =>
          cases hvs : piecesV (ps.drop (i + 1)) with
          | none => rfl
          | some vs =>
            show (if badV (acc ++ (n :: vs)) t = true then badP else _) = badP
            rw [if_pos (bad_range (n := n) (by simp) (whole_none hw hv))]
      rw [this]; exact Ev.val _
    | some n =>
      obtain ⟨h1, h2⟩ := whole_some hw
      have hpv := piece_num h1 (by omega) (by omega)
      refine Ev.pos rfl (Ev.pos (by omega) ?_)
      have ih := ref_l1 ps t hp ht m (i + 1) (acc ++ [(n : Int)]) (by omega) (by omega) (by rw [List.length_append, List.length_singleton]; omega)
      have : putV acc t (piecesV (x :: ps.drop (i + 1))) = putV (acc ++ [(n : Int)]) t (piecesV (ps.drop (i + 1))) := by
        rw [piecesV, hpv]
        cases piecesV (ps.drop (i + 1)) with
        | none => rfl
        | some vs => simp [putV]
      rw [this]; exact ih
theorem ref_j2 (s : ByteArray) (i : Nat) (t : ByteArray) (hs : s.size ≤ 4294967280) (hi : i ≤ s.size) (ht : t.size ≤ 140737488355328) :
    Ev (fun k => sutlerref17_Parse.j2 k s (i : Int) t) (putV [] t (piecesV (partsOf (s.extract 0 i)))) := by
  have hz : (s.extract 0 i).size ≤ s.size := by rw [ByteArray.size_extract]; omega
  refine Ev.succ ?_
  simp only [sutlerref17_Parse.j2, Int.toNat_natCast]
  refine Ev.pos (by omega) (Ev.pos (by omega) (Ev.bind (ref_split _ (by omega)) ?_))
  have hl := parts_len (s.extract 0 i)
  have := ref_l1 (partsOf (s.extract 0 i)) t (by omega) ht _ 0 [] rfl (by omega) rfl
  rw [List.drop_zero] at this
  exact this
theorem ref_parse_at (s : ByteArray) (hs : s.size ≤ 4294967280) : ∀ (m i : Nat), s.size - i = m → i ≤ s.size → (45 : UInt8) ∉ s.data.toList.take i → Ev (fun k => sutlerref17_Parse.l0 k s (i : Int) ⟨#[]⟩) (parseV s)
  | 0, i, hm, hi, hn => by
    obtain rfl : i = s.size := by omega
    have e : s.data.toList.take s.size = s.data.toList := List.take_of_length_le (by rw [len_sz]; omega)
    rw [e] at hn
    have hc := cut_no hn
    have hF : frontOf s = s.extract 0 s.size := by
      apply data_eq
      rw [ext_list s 0 s.size (Nat.le_refl _), e]
      show (Lib.cut s.data.toList [45]).1 = _
      rw [hc, List.drop_zero]
    have hT : tailOf s = ⟨#[]⟩ := by unfold tailOf; rw [hc]
    have hI : isCut s = false := by unfold isCut; rw [hc]
    have hj := ref_j2 s s.size ⟨#[]⟩ hs (Nat.le_refl _) (by decide)
    have : parseV s = putV [] ⟨#[]⟩ (piecesV (partsOf (s.extract 0 s.size))) := by
      unfold parseV
      rw [hF, hT, hI]
      cases piecesV (partsOf (s.extract 0 s.size)) with
      | none => rfl
      | some vs => simp [putV]
    rw [this]
    refine Ev.succ ?_
    simp only [sutlerref17_Parse.l0]
    refine Ev.neg (by omega) (Ev.succ ?_)
    simp only [sutlerref17_Parse.j1]
    exact Ev.neg (by omega) hj
  | m + 1, i, hm, hi, hn => by
    have hlt : i < s.data.toList.length := by rw [len_sz]; omega
    have hb := bt_nat hlt
    have w1 := wrap_succ (n := s.size) (by omega) (by omega : i < s.size)
    refine Ev.succ ?_
    simp only [sutlerref17_Parse.l0, hb, w1]
    refine Ev.pos (by omega) (Ev.pos (by omega) ?_)
    by_cases hc : s.data.toList[i] = 45
    · refine Ev.pos (by rw [hc]; rfl) ?_
      have he : s.data.toList = s.data.toList.take i ++ 45 :: s.data.toList.drop (i + 1) := by
        conv => lhs; rw [← List.take_append_drop i s.data.toList, List.drop_eq_getElem_cons hlt, hc]
      have hcut : Lib.cut s.data.toList [45] = (s.data.toList.take i, s.data.toList.drop (i + 1), true) := by
        conv => lhs; rw [he]
        exact cut_yes hn
      have hF : frontOf s = s.extract 0 i := by
        apply data_eq
        rw [ext_list s 0 i (by omega)]
        show (Lib.cut s.data.toList [45]).1 = _
        rw [hcut, List.drop_zero]
      have hT : tailOf s = s.extract (i + 1) s.size := by
        apply data_eq
        rw [ext_list s (i + 1) s.size (Nat.le_refl _), List.take_of_length_le (by rw [len_sz]; omega)]
        show (Lib.cut s.data.toList [45]).2.1 = _
        rw [hcut]
      have hI : isCut s = true := by unfold isCut; rw [hcut]
      have hz : (s.extract (i + 1) s.size).size ≤ s.size := by rw [ByteArray.size_extract]; omega
      refine Ev.succ ?_
      simp only [sutlerref17_Parse.j1, w1, Int.toNat_natCast]
      refine Ev.pos (by omega) (Ev.pos (by omega) (Ev.pos (by omega) ?_))
      by_cases h0 : (s.extract (i + 1) s.size).toList = ([] : List UInt8)
      · refine Ev.pos h0 ?_
        have : parseV s = badP := by
          unfold parseV
          rw [hF, hT, hI, h0]
          cases piecesV (partsOf (s.extract 0 i)) <;> simp
        rw [this]; exact Ev.val _
      · refine Ev.neg h0 ?_
        have hj := ref_j2 s i (s.extract (i + 1) s.size) hs (by omega) (by omega)
        have : parseV s = putV [] (s.extract (i + 1) s.size) (piecesV (partsOf (s.extract 0 i))) := by
          unfold parseV
          rw [hF, hT, hI]
          cases piecesV (partsOf (s.extract 0 i)) with
          | none => rfl
          | some vs =>
            have : (s.extract (i + 1) s.size).toList.isEmpty = false := by
              cases h : (s.extract (i + 1) s.size).toList with
              | nil => exact absurd h h0
              | cons a l => rfl
            simp [putV, this]
        rw [this]; exact hj
    · have hc' : ¬ ((s.data.toList[i]).toNat : Int) = 45 := fun h => hc (by apply UInt8.toNat_inj.1; show _ = 45; omega)
      refine Ev.neg hc' ?_
      refine ref_parse_at s hs m (i + 1) (by omega) (by omega) ?_
      rw [List.take_succ_eq_append_getElem hlt]
      intro h
      rcases List.mem_append.1 h with h | h
      · exact hn h
      · rw [List.mem_singleton] at h; exact hc h.symm
theorem ref_parse (s : ByteArray) (hs : s.size ≤ 4294967280) : Ev (fun k => sutlerref17_Parse.f k s) (parseV s) := ref_parse_at s hs _ 0 rfl (by omega) (by simp)
/-! ### printing -/
theorem ref_itoa_at : ∀ (u : Nat) (acc : ByteArray), u ≤ 999999 → acc.size + u ≤ 2000000 → Ev (fun k => sutlerbase_Itoa.l0 k (u : Int) acc false) (if u = 0 then acc else ⟨(decDigits u).toArray⟩ ++ acc) := by
  intro u
  induction u using Nat.strongRecOn with
  | ind u ih =>
    intro acc hu ha
    refine Ev.succ ?_
    simp only [sutlerbase_Itoa.l0]
    by_cases h0 : u = 0
    · refine Ev.pos (by omega) (Ev.neg (by decide) ?_)
      rw [if_pos h0]; exact Ev.val _
    · refine Ev.neg (by omega) ?_
      rw [if_neg h0]
      have e1 : Int.tmod (u : Int) 10 = ((u % 10 : Nat) : Int) := rfl
      have e2 : wrap64 (Int.tdiv (u : Int) 10) = ((u / 10 : Nat) : Int) := by
        have : Int.tdiv (u : Int) 10 = ((u / 10 : Nat) : Int) := rfl
        rw [this]; unfold wrap64; omega
      have e3 : wrap64 (48 + ((u % 10 : Nat) : Int)) % 256 = ((48 + u % 10 : Nat) : Int) := by unfold wrap64; omega
      rw [e1, e2, e3]
      refine Ev.neg (by omega) ?_
      refine Ev.bind (Ev.val [((48 + u % 10 : Nat) : Int)]) ?_
      have hsz : (strOfNums [((48 + u % 10 : Nat) : Int)]).size = 1 := rfl
      refine Ev.pos (by rw [hsz]; omega) ?_
      have ih' := ih (u / 10) (by omega) (strOfNums [((48 + u % 10 : Nat) : Int)] ++ acc) (by omega) (by rw [ByteArray.size_append, hsz]; omega)
      have : (if u / 10 = 0 then (strOfNums [((48 + u % 10 : Nat) : Int)] ++ acc) else ⟨(decDigits (u / 10)).toArray⟩ ++ (strOfNums [((48 + u % 10 : Nat) : Int)] ++ acc)) = (⟨(decDigits u).toArray⟩ : ByteArray) ++ acc := by
        apply data_eq
        by_cases hlt : u < 10
        · rw [if_pos (by omega), ByteArray.data_append, ByteArray.data_append, Array.toList_append, Array.toList_append]
          show [UInt8.ofNat (((48 + u % 10 : Nat) : Int)).toNat] ++ acc.data.toList = decDigits u ++ acc.data.toList
          rw [decDigits, dif_pos hlt, Int.toNat_natCast, Nat.mod_eq_of_lt hlt]
        · rw [if_neg (by omega), ByteArray.data_append, ByteArray.data_append, ByteArray.data_append, Array.toList_append, Array.toList_append, Array.toList_append]
          show decDigits (u / 10) ++ ([UInt8.ofNat (((48 + u % 10 : Nat) : Int)).toNat] ++ acc.data.toList) = decDigits u ++ acc.data.toList
          conv => rhs; rw [decDigits, dif_neg hlt]
          rw [Int.toNat_natCast, List.append_assoc]
      rw [this] at ih'
      exact ih'
theorem ref_itoa {n : Int} (h0 : 0 ≤ n) (h1 : n ≤ 999999) : Ev (fun k => sutlerbase_Itoa.f k n) (itoaS n) := by
  obtain ⟨u, rfl⟩ := Int.eq_ofNat_of_zero_le h0
  unfold sutlerbase_Itoa.f
  by_cases hu : u = 0
  · subst hu
    refine Ev.pos rfl ?_
    have : itoaS ((0 : Nat) : Int) = ⟨#[48]⟩ := by
      unfold itoaS
      rw [itoa_nonneg, decDigits, dif_pos (by decide)]
      rfl
    rw [this]; exact Ev.val _
  · refine Ev.neg (by omega) ?_
    have h := ref_itoa_at u ⟨#[]⟩ (by omega) (by have : (⟨#[]⟩ : ByteArray).size = 0 := rfl; omega)
    rw [if_neg hu] at h
    have e : decide ((u : Int) < 0) = false := decide_eq_false (by omega)
    rw [e]
    have : itoaS (u : Int) = (⟨(decDigits u).toArray⟩ : ByteArray) ++ ⟨#[]⟩ := by
      apply data_eq
      unfold itoaS
      rw [itoa_nonneg, ByteArray.data_append, Array.toList_append]
      simp
    rw [this]; exact h
theorem join_snoc (c : UInt8) : ∀ (xs : List (List UInt8)) (y : List UInt8), xs ≠ [] → Lib.join (xs ++ [y]) [c] = Lib.join xs [c] ++ c :: y
  | [], y, h => absurd rfl h
  | [x], y, _ => by rw [List.singleton_append, join_cons2, join_one, join_one]
  | x :: z :: r, y, _ => by
    rw [List.cons_append, List.cons_append, join_cons2, ← List.cons_append, join_snoc c (z :: r) y (by simp), join_cons2, List.append_assoc]
    rfl
theorem ref_print_at {l : List Int} {t : ByteArray} (g : GoodV l t) : ∀ (m i : Nat) (s : ByteArray), l.length - i = m → 1 ≤ i → i ≤ l.length → s.data.toList = Lib.join ((l.take i).map Lib.itoa) [46] → Ev (fun k => sutlerref17_Print.l0 k s (i : Int) l t) (printV l t, 0)
  | 0, i, s, hm, h1, hi, hs => by
    obtain rfl : i = l.length := by omega
    rw [List.take_length] at hs
    have h8 := g.t8
    have h4 := g.l4
    have hjl : s.size ≤ 22 * 4 := by
      have := join_len 46 (l.map Lib.itoa) (fun x hx => by
        obtain ⟨n, hn, rfl⟩ := List.mem_map.1 hx
        exact itoa_len (g.rng n hn).1 (g.rng n hn).2)
      rw [List.length_map, ← hs, len_sz] at this
      omega
    refine Ev.succ ?_
    simp only [sutlerref17_Print.l0]
    refine Ev.neg (by omega) ?_
    by_cases h : t.toList = ([] : List UInt8)
    · refine Ev.pos h ?_
      have : s = printV l t := by
        apply data_eq
        show _ = printL l t
        unfold printL
        rw [if_pos (by rw [← ByteArray.toList_eq]; exact h), List.append_nil, hs]
      rw [this]; exact Ev.val _
    · refine Ev.neg h (Ev.pos (by omega) (Ev.pos ?_ ?_))
      · rw [ByteArray.size_append]; have : (⟨#[45]⟩ : ByteArray).size = 1 := rfl; omega
      · have : s ++ ((⟨#[45]⟩ : ByteArray) ++ t) = printV l t := by
          apply data_eq
          rw [ByteArray.data_append, ByteArray.data_append, Array.toList_append, Array.toList_append, hs]
          show _ ++ ([45] ++ t.data.toList) = printL l t
          unfold printL
          rw [if_neg (by rw [← ByteArray.toList_eq]; exact h)]
          rfl
        rw [this]; exact Ev.val _
  | m + 1, i, s, hm, h1, hi, hs => by
    have hlt : i < l.length := by omega
    have h4 := g.l4
    have hr := g.rng _ (List.getElem_mem hlt)
    have hrd := rd_nat l i hlt
    have hjl : s.size ≤ 22 * 4 := by
      have := join_len 46 ((l.take i).map Lib.itoa) (fun x hx => by
        obtain ⟨n, hn, rfl⟩ := List.mem_map.1 hx
        have hn' := List.mem_of_mem_take hn
        exact itoa_len (g.rng n hn').1 (g.rng n hn').2)
      rw [List.length_map, ← hs, len_sz, List.length_take] at this
      omega
    have hil : (itoaS l[i]).size ≤ 21 := by
      show (Lib.itoa l[i]).toArray.size ≤ 21
      rw [List.size_toArray]
      exact itoa_len hr.1 hr.2
    refine Ev.succ ?_
    simp only [sutlerref17_Print.l0, hrd, wrap_succ (n := l.length) (by omega) hlt]
    refine Ev.pos (by omega) (Ev.pos (by omega) (Ev.bind (ref_itoa hr.1 hr.2) (Ev.pos (by omega) (Ev.pos ?_ ?_))))
    · rw [ByteArray.size_append]; have : (⟨#[46]⟩ : ByteArray).size = 1 := rfl; omega
    · refine ref_print_at g m (i + 1) _ (by omega) (by omega) (by omega) ?_
      rw [List.take_succ_eq_append_getElem hlt, List.map_append, List.map_singleton, join_snoc _ _ _ (by
        intro h
        have := congrArg List.length h
        rw [List.length_map, List.length_take] at this
        simp only [List.length_nil] at this
        omega), ByteArray.data_append, ByteArray.data_append, Array.toList_append, Array.toList_append, hs]
      rfl
def printR (l : List Int) (t : ByteArray) : ByteArray × Int := if badV l t = true then (⟨#[]⟩, 170) else (printV l t, 0)
theorem ref_print {l : List Int} {t : ByteArray} (hl : l.length ≤ 140737488355328) (ht : t.size ≤ 140737488355328) : Ev (fun k => sutlerref17_Print.f k l t) (printR l t) := by
  unfold sutlerref17_Print.f
  refine Ev.bind (ref_check hl ht) ?_
  unfold printR chkV
  cases hb : badV l t
  · have g := (goodV_iff l t).1 hb
    have h1 := g.l1
    have hr := g.rng _ (List.getElem_mem (show 0 < l.length by omega))
    have hrd : rd l 0 = l[0]'(by omega) := rd_nat l 0 (by omega)
    rw [hrd]
    refine Ev.pos (by simp) (Ev.pos (by omega) (Ev.bind (ref_itoa hr.1 hr.2) ?_))
    rw [if_neg (by simp)]
    refine ref_print_at g _ 1 _ rfl (by omega) h1 ?_
    cases l with
    | nil => simp at h1
    | cons a l => simp [itoaS, join_one]
  · refine Ev.neg (by simp) ?_
    rw [if_pos rfl]; exact Ev.val _
theorem own_print {l : List Int} {t : ByteArray} (hl : l.length ≤ 140737488355328) (ht : t.size ≤ 140737488355328) : Ev (fun k => version_Print.f k l t) (printR l t) := by
  unfold printR
  cases hb : badV l t
  · rw [if_neg (by simp)]; exact print_ok ((goodV_iff l t).1 hb)
  · rw [if_pos rfl]; exact print_bad hl (by omega) hb
theorem version_f {p : List Int} {t : ByteArray} (hp : p.length ≤ 17592186043904) : sutlerbase_Version.f p t = some (p, t) := by
  unfold sutlerbase_Version.f sutlerbase_Ints.f
  simp only [Option.bind_some, List.length_nil, Nat.zero_add, List.nil_append]
  rw [if_pos (by omega)]
  rfl
theorem pieces_len : ∀ {ps : List ByteArray} {l : List Int}, piecesV ps = some l → l.length = ps.length := fun {ps l} h => by
  have := congrArg List.length (pieces_is h)
  simpa [lists] using this.symm
theorem parse_len (s : ByteArray) (hs : s.size ≤ 4294967280) : (parseV s).1.length ≤ 140737488355328 := by
  rcases parseV_err s with h | h
  · have := print_parse (s := s) (l := (parseV s).1) (u := (parseV s).2.1) (by rw [← h])
    have := this.1.l4
    omega
  · rw [h]; simp [badP]
theorem reads_pure (s : ByteArray) (l : List Int) (t : ByteArray) (hs : s.size ≤ 1048576) (hl : l.length ≤ 17592186043904) (ht : t.size ≤ 140737488351232) : ∃ k, sutlerlaw17_VersionReads.f k s l t = some true := by
  refine Ev.rounds (g := fun k => sutlerlaw17_VersionReads.f k s l t) ?_
  have hl' : l.length ≤ 140737488355328 := by omega
  have ht' : t.size ≤ 140737488355328 := by omega
  simp only [sutlerlaw17_VersionReads.f, parse_at (s := s) (by omega), version_f hl, Option.bind_some]
  refine Ev.bind (ref_parse s (by omega)) ?_
  refine Ev.bind (own_print hl' ht') ?_
  refine Ev.bind (ref_print hl' ht') ?_
  refine Ev.bind (same_version _ _ (parse_len s (by omega))) ?_
  refine Ev.pos rfl (Ev.pos rfl (Ev.pos rfl (Ev.pos rfl ?_)))
  rw [check_at hl' (by omega)]
  simp only [Option.bind_some]
  refine Ev.bind (ref_check hl' ht') (Ev.pos rfl ?_)
  rw [works_true]
  exact Ev.val _
theorem reads_call (s : ByteArray) (A1 : Option Addr) (c1 : Nat) (y : List Int × ByteArray) (w : World)
    (hs : s.size ≤ 1048576) (h1 : Kd.C (Kd.int .i64) w A1 y.1.length y.1) (l1 : y.1.length ≤ c1) (g1 : VG y) (hT : Tabs w) :
    Calls Tryz.prog 3 #[.string s, .agg #[.slice A1 y.1.length c1, .string y.2]] w fun e w' => e = .returned (.bool true) ∧ Below w.heap.size w w' := by
  have b1 := vg_bounds g1
  obtain ⟨k, hk⟩ := reads_pure s y.1 y.2 hs b1.1 b1.2
  exact sutlerlaw17_VersionReads.calls k s A1 c1 y.1 y.2 true w h1 l1 hk rfl hT
end Go.Proofs.YtbikimkmkchkhaaGreatDoor.PAll
