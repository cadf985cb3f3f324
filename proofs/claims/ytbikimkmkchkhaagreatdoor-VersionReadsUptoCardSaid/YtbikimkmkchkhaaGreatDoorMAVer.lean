/- Texts parted at dots and joined; numerals: plain Lean. -/
import Derived.Lib.SplitLaws
import Derived.Lib.AtoiAllCases
import Derived.Lib.ItoaLen
import Derived.Lib.Join
import Derived.Lib.IndexLaws
namespace Go.Proofs.YtbikimkmkchkhaaGreatDoor.Ver
open Go.Lib
set_option linter.unusedVariables false

/-- Parted at each byte c. -/
def splitC (c : UInt8) : List UInt8 → List (List UInt8)
  | [] => [[]]
  | a :: l => if a = c then [] :: splitC c l else match splitC c l with
    | [] => [[a]]
    | h :: t => (a :: h) :: t
theorem splitC_ne (c : UInt8) : ∀ l, splitC c l ≠ []
  | [] => by simp [splitC]
  | a :: l => by
    unfold splitC
    split
    · simp
    · split <;> simp
theorem splitC_self (c : UInt8) : ∀ l : List UInt8, c ∉ l → splitC c l = [l]
  | [], _ => rfl
  | a :: l, h => by
    have h1 : ¬ a = c := fun e => h (by simp [e])
    have h2 : c ∉ l := fun e => h (List.mem_cons_of_mem _ e)
    unfold splitC
    rw [if_neg h1, splitC_self c l h2]
theorem splitC_app (c : UInt8) : ∀ (x l : List UInt8), c ∉ x → splitC c (x ++ c :: l) = x :: splitC c l
  | [], l, _ => by
    show splitC c (c :: l) = _
    rw [splitC, if_pos rfl]
  | a :: x, l, h => by
    have h1 : ¬ a = c := fun e => h (by simp [e])
    have h2 : c ∉ x := fun e => h (List.mem_cons_of_mem _ e)
    show splitC c (a :: (x ++ c :: l)) = _
    rw [splitC, if_neg h1, splitC_app c x l h2]
theorem join_cons2 (x y : List UInt8) (r : List (List UInt8)) (c : UInt8) : join (x :: y :: r) [c] = x ++ c :: join (y :: r) [c] := by
  unfold join
  simp [List.intercalate, List.intersperse]
theorem split_join (c : UInt8) : ∀ xs : List (List UInt8), xs ≠ [] → (∀ x ∈ xs, c ∉ x) → splitC c (join xs [c]) = xs
  | [], h, _ => absurd rfl h
  | [x], _, h => by rw [join_one]; exact splitC_self c x (h x (by simp))
  | x :: y :: r, _, h => by
    rw [join_cons2, splitC_app c x _ (h x (by simp)), split_join c (y :: r) (by simp) (fun z hz => h z (List.mem_cons_of_mem _ hz))]
def dotB : ByteArray := ⟨#[46]⟩
def lists (ps : List ByteArray) : List (List UInt8) := ps.map (·.data.toList)
theorem dot_no {s : ByteArray} (h : indexB s dotB = -1) : (46 : UInt8) ∉ s.data.toList := by
  intro hm
  have h' : index s.data.toList [46] = -1 := h
  rw [index_one] at h'
  obtain ⟨k, hk, hx⟩ := List.getElem_of_mem hm
  exact indexByte_none h' k (by rw [List.getElem?_eq_getElem hk, hx])
theorem dot_at {s : ByteArray} {i : Nat} (h : indexB s dotB = i) : i < s.data.toList.length ∧ s.data.toList = s.data.toList.take i ++ 46 :: s.data.toList.drop (i + 1) ∧ (46 : UInt8) ∉ s.data.toList.take i := by
  have h' : index s.data.toList [46] = i := h
  rw [index_one] at h'
  obtain ⟨h1, h2⟩ := indexByte_some h'
  have hlt : i < s.data.toList.length := (List.getElem?_eq_some_iff.1 h1).1
  have e : s.data.toList[i] = 46 := by rw [List.getElem?_eq_getElem hlt] at h1; exact Option.some.inj h1
  refine ⟨hlt, ?_, ?_⟩
  · conv => lhs; rw [← List.take_append_drop i s.data.toList, List.drop_eq_getElem_cons hlt, e]
  · intro hm
    obtain ⟨k, hk, hx⟩ := List.getElem_of_mem hm
    rw [List.length_take] at hk
    rw [List.getElem_take] at hx
    exact h2 k (by omega) (by rw [List.getElem?_eq_getElem (by omega), hx])
theorem split_eq : ∀ (k : Nat) (s : ByteArray), countB s dotB = k → lists (splitB dotB 0 k s) = splitC 46 s.data.toList
  | 0, s, hk => by
    rcases indexB_cases s dotB with hix | ⟨i, hix, _⟩
    · rw [splitC_self 46 _ (dot_no hix)]; rfl
    · have := countB_hit s dotB i (by decide) hix; omega
  | k + 1, s, hk => by
    rcases indexB_cases s dotB with hix | ⟨i, hix, _⟩
    · rw [countB_miss s dotB hix] at hk; omega
    · obtain ⟨hlt, he, hn⟩ := dot_at hix
      have hc := countB_hit s dotB i (by decide) hix
      have ih := split_eq k (s.extract (i + dotB.size) s.size) (by omega)
      rw [splitB_hit dotB 0 k s i hix]
      show (s.extract 0 (i + 0)).data.toList :: lists (splitB dotB 0 k (s.extract (i + dotB.size) s.size)) = _
      have e1 : (s.extract 0 (i + 0)).data.toList = s.data.toList.take i := by
        rw [ByteArray.data_extract, Array.toList_extract]; simp [List.extract]
      have e2 : (s.extract (i + dotB.size) s.size).data.toList = s.data.toList.drop (i + 1) := by
        rw [ByteArray.data_extract, Array.toList_extract]
        have : dotB.size = 1 := rfl
        simp only [List.extract, this]
        exact List.take_of_length_le (by rw [List.length_drop]; exact Nat.le_of_eq rfl)
      rw [ih, e1, e2]
      conv => rhs; rw [he]
      rw [splitC_app 46 _ _ hn]
theorem join_split (c : UInt8) : ∀ l : List UInt8, join (splitC c l) [c] = l
  | [] => by rw [splitC, join_one]
  | a :: l => by
    have ih := join_split c l
    unfold splitC
    split
    · rename_i h
      subst h
      cases hs : splitC a l with
      | nil => exact absurd hs (splitC_ne a l)
      | cons y r => rw [join_cons2, ← hs, ih]; rfl
    · cases hs : splitC c l with
      | nil => exact absurd hs (splitC_ne c l)
      | cons y r =>
        rw [hs] at ih
        cases r with
        | nil => rw [join_one] at ih ⊢; rw [ih]
        | cons z r => rw [join_cons2] at ih ⊢; rw [← ih]; rfl

/-! ### numerals -/
def isDig (c : UInt8) : Prop := 48 ≤ c.toNat ∧ c.toNat ≤ 57
theorem dig_of (d : Nat) (h : d < 10) : isDig (UInt8.ofNat (48 + d)) ∧ (UInt8.ofNat (48 + d)).toNat = 48 + d := by
  have e : (UInt8.ofNat (48 + d)).toNat = 48 + d := by rw [UInt8.toNat_ofNat']; omega
  exact ⟨⟨by omega, by omega⟩, e⟩
theorem dd_digs (u : Nat) : ∀ c ∈ decDigits u, isDig c := by
  induction u using Nat.strongRecOn with
  | ind u ih =>
    intro c hc
    rw [decDigits] at hc
    split at hc
    · rename_i h
      rw [List.mem_singleton] at hc
      rw [hc]; exact (dig_of u h).1
    · rename_i h
      rcases List.mem_append.1 hc with hc | hc
      · exact ih (u / 10) (by omega) c hc
      · rw [List.mem_singleton] at hc
        rw [hc]; exact (dig_of (u % 10) (by omega)).1
/-- The number that digits tell, behind acc. -/
def valF (acc : Nat) : List UInt8 → Nat
  | [] => acc
  | c :: l => valF (acc * 10 + (c.toNat - 48)) l
theorem valF_app (a : List UInt8) (c : UInt8) : ∀ acc, valF acc (a ++ [c]) = valF acc a * 10 + (c.toNat - 48) := by
  induction a with
  | nil => intro acc; rfl
  | cons b a ih => intro acc; exact ih _
theorem dd_val (u : Nat) : valF 0 (decDigits u) = u := by
  induction u using Nat.strongRecOn with
  | ind u ih =>
    rw [decDigits]
    split
    · rename_i h
      show 0 * 10 + ((UInt8.ofNat (48 + u)).toNat - 48) = u
      rw [(dig_of u h).2]; omega
    · rename_i h
      rw [valF_app, ih (u / 10) (by omega), (dig_of (u % 10) (by omega)).2]
      omega
theorem dd_ne (u : Nat) : decDigits u ≠ [] := by
  rw [decDigits]
  split <;> simp
theorem dd_head (u : Nat) : decDigits u = [UInt8.ofNat 48] ∨ ∃ c l, decDigits u = c :: l ∧ c.toNat ≠ 48 := by
  induction u using Nat.strongRecOn with
  | ind u ih =>
    by_cases h : u < 10
    · rw [decDigits, dif_pos h]
      by_cases h0 : u = 0
      · subst h0; exact Or.inl rfl
      · exact Or.inr ⟨_, _, rfl, by rw [(dig_of u h).2]; omega⟩
    · right
      rw [decDigits, dif_neg h]
      rcases ih (u / 10) (by omega) with h1 | ⟨c, l, h1, h2⟩
      · exfalso
        have := dd_val (u / 10)
        rw [h1] at this
        have e : valF 0 [UInt8.ofNat 48] = 0 := by decide
        omega
      · rw [h1]; exact ⟨c, l ++ _, rfl, h2⟩
theorem valF_step (v p acc d : Nat) (hd : d ≤ 9) (a : v < (acc * 10 + d + 1) * p) (b : (acc * 10 + d) * p ≤ v) : v < (acc + 1) * (p * 10) ∧ acc * (p * 10) ≤ v := by
  have e1 : (acc + 1) * (p * 10) = ((acc + 1) * 10) * p := by rw [Nat.mul_comm p 10, Nat.mul_assoc]
  have e2 : acc * (p * 10) = (acc * 10) * p := by rw [Nat.mul_comm p 10, Nat.mul_assoc]
  rw [e1, e2]
  exact ⟨Nat.lt_of_lt_of_le a (Nat.mul_le_mul_right p (by omega)), Nat.le_trans (Nat.mul_le_mul_right p (by omega)) b⟩
theorem valF_lt (l : List UInt8) : ∀ (acc : Nat), (∀ c ∈ l, isDig c) → valF acc l < (acc + 1) * 10 ^ l.length ∧ acc * 10 ^ l.length ≤ valF acc l := by
  induction l with
  | nil => intro acc _; rw [List.length_nil, Nat.pow_zero, Nat.mul_one, Nat.mul_one]; exact ⟨Nat.lt_succ_self _, Nat.le_refl _⟩
  | cons c l ih =>
    intro acc h
    obtain ⟨h1, h2⟩ := h c (by simp)
    have h9 : c.toNat - 48 ≤ 9 := by omega
    obtain ⟨a, b⟩ := ih (acc * 10 + (c.toNat - 48)) (fun d hd => h d (List.mem_cons_of_mem _ hd))
    rw [List.length_cons, Nat.pow_succ]
    exact valF_step _ _ acc (c.toNat - 48) h9 a b
/-- Digits of which the first is no nought (but for 0 itself) are the numeral of their number. -/
theorem dd_of (l : List UInt8) (hl : l ≠ []) (hd : ∀ c ∈ l, isDig c) (h0 : l = [UInt8.ofNat 48] ∨ ∃ c r, l = c :: r ∧ c.toNat ≠ 48) : decDigits (valF 0 l) = l := by
  induction hn : l.length generalizing l with
  | zero => exact absurd (List.length_eq_zero_iff.1 hn) hl
  | succ n ih =>
    obtain ⟨a, c, rfl⟩ : ∃ a c, l = a ++ [c] := ⟨l.dropLast, l.getLast hl, (List.dropLast_concat_getLast hl).symm⟩
    have hc := hd c (by simp)
    have hcv : c = UInt8.ofNat (48 + (c.toNat - 48)) := by
      apply UInt8.toNat_inj.1
      rw [UInt8.toNat_ofNat']; have := hc.1; have := hc.2; omega
    by_cases ha : a = []
    · subst ha
      have hlt : c.toNat - 48 < 10 := by have := hc.2; omega
      have : valF 0 ([] ++ [c]) = c.toNat - 48 := by
        show 0 * 10 + (c.toNat - 48) = _
        omega
      rw [this, decDigits, dif_pos hlt, ← hcv]; rfl
    · have hh : a = [UInt8.ofNat 48] ∨ ∃ d r, a = d :: r ∧ d.toNat ≠ 48 := by
        right
        rcases h0 with h0 | ⟨d, r, h0, h1⟩
        · cases a with
          | nil => exact absurd rfl ha
          | cons x y => simp at h0
        · cases a with
          | nil => exact absurd rfl ha
          | cons x y =>
            rw [List.cons_append, List.cons.injEq] at h0
            exact ⟨x, y, rfl, by rw [h0.1]; exact h1⟩
      have ihv := ih a ha (fun d hd' => hd d (by simp [hd'])) hh (by simpa using hn)
      rw [valF_app]
      have hpos : 1 ≤ valF 0 a := by
        cases a with
        | nil => exact absurd rfl ha
        | cons x y =>
          rcases hh with hh | ⟨d, r, hh, h1⟩
          · exfalso
            rcases h0 with h0 | ⟨d, r, h0, h1⟩
            · rw [hh] at h0; simp at h0
            · rw [hh] at h0
              rw [List.cons_append, List.cons.injEq] at h0
              rw [← h0.1] at h1; exact h1 (by decide)
          · rw [List.cons.injEq] at hh
            have hx := hd x (by simp)
            have := (valF_lt y (0 * 10 + (x.toNat - 48)) (fun d hd' => hd d (by simp [hd']))).2
            have hp : 0 < 10 ^ y.length := Nat.pow_pos (by decide)
            have hx1 : 1 ≤ x.toNat - 48 := by have := hx.1; have e := hh.1; rw [← e] at h1; omega
            show 1 ≤ valF (0 * 10 + (x.toNat - 48)) y
            refine Nat.le_trans ?_ this
            rw [Nat.zero_mul, Nat.zero_add]
            exact Nat.mul_le_mul hx1 hp
      have hlt : c.toNat - 48 < 10 := by have := hc.2; omega
      rw [decDigits, dif_neg (by omega), show (valF 0 a * 10 + (c.toNat - 48)) / 10 = valF 0 a by omega, show (valF 0 a * 10 + (c.toNat - 48)) % 10 = c.toNat - 48 by omega, ihv, ← hcv]
theorem parse_digs : ∀ (l : List UInt8) (acc : Nat), (∀ c ∈ l, isDig c) → valF acc l < 1844674407370955162 → parseUint10 acc l = .ok (valF acc l)
  | [], acc, _, _ => rfl
  | c :: l, acc, h, hv => by
    obtain ⟨h1, h2⟩ := h c (by simp)
    have hl := (valF_lt l (acc * 10 + (c.toNat - 48)) (fun d hd => h d (List.mem_cons_of_mem _ hd))).2
    have hp : 0 < 10 ^ l.length := Nat.pow_pos (by decide)
    have hle : acc * 10 + (c.toNat - 48) ≤ valF acc (c :: l) := Nat.le_trans (Nat.le_mul_of_pos_right _ hp) hl
    unfold parseUint10
    rw [if_pos ⟨h1, h2⟩, if_neg (by omega), if_neg (by omega)]
    exact parse_digs l _ (fun d hd => h d (List.mem_cons_of_mem _ hd)) hv
theorem atoi_dd (u : Nat) (hu : u < 1844674407370955162) : atoiAll (decDigits u) = .ok (u : Int) := by
  have hp := parse_digs (decDigits u) 0 (dd_digs u) (by rw [dd_val]; exact hu)
  rw [dd_val] at hp
  cases hl : decDigits u with
  | nil => exact absurd hl (dd_ne u)
  | cons c r =>
    have hc := dd_digs u c (by rw [hl]; simp)
    obtain ⟨h1, h2⟩ := hc
    rw [hl] at hp
    rw [atoiAll_plain c r (by omega) (by omega)]
    unfold parseMag
    rw [if_neg (by simp), hp]
    simp only [signless]
    rw [if_neg (by omega)]
end Go.Proofs.YtbikimkmkchkhaaGreatDoor.Ver
