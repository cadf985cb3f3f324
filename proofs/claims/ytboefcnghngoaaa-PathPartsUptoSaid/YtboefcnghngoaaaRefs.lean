/- What the document's answer (the reference) computes: a name, the parts, a clean path: the same plain functions. -/
import Derived.Test.YtboefcnghngoaaaPlain
import Derived.Test.YtboefcnghngoaaaPAllx2
import Derived.Lib.IndexBytes
namespace Go.Proofs.Ytboefcnghngoaaa
open Go.RowKit Go.Lib Sp Go.Proofs.YtboefcnghngoaaaW.PrintWords Go.Proofs.YtboefcnghngoaaaW.PrintLast Go.Proofs.YtboefcnghngoaaaW.PrintMore PAll

theorem Ev.round {α : Type} {g : Nat → Option α} {r : α} (f : Nat → Option α) (h : ∀ k, g (k + 1) = f k) (k : Ev f r) : Ev g r := Ev.step h k
theorem Ev.some {α : Type} {g : Nat → Option α} {r : α} (h : ∀ k, g k = Option.some r) : Ev g r := ⟨0, fun k _ => h k⟩
theorem Ev.eq {α : Type} {g : Nat → Option α} {r r' : α} (h : Ev g r) (e : r = r') : Ev g r' := e ▸ h

theorem wrap_up {i n : Nat} (h : i < n) (hn : n ≤ 4611686018427387903) : wrap64 ((i : Int) + 1) = ((i + 1 : Nat) : Int) := by unfold wrap64; omega

theorem bt_nat (s : ByteArray) (i : Nat) (h : i < s.size) : bt s (i : Int) = ((s[i]'h).toNat : Int) := by
  rw [← bt_at s i (by simpa using h)]; rfl

/-- ref.Name. -/
theorem name_l0 (s : ByteArray) (hs : s.size ≤ 4611686018427387903) : ∀ (d k i : Nat), s.size - i = d → i ≤ s.size → d < k →
    sutlerref14_Name.l0 k s (i : Int) = some (!(s.data.toList.drop i).any oddB && (!s.data.toList.isEmpty && decide (s.data.toList.length ≤ 32) && !(s.data.toList == [46]) && !(s.data.toList == [46, 46]))) := by
  intro d
  induction d with
  | zero =>
    intro k i hd hi hk
    obtain ⟨k, rfl⟩ : ∃ m, k = m + 1 := ⟨k - 1, by omega⟩
    simp only [sutlerref14_Name.l0]
    rw [if_neg (by omega), toList_data, List.drop_of_length_le (by rw [← Lib.size_eq]; omega)]
    have hl := Lib.size_eq s
    by_cases h1 : s.data.toList = []
    · simp [h1]
    · rw [if_neg h1]
      by_cases h2 : s.size ≤ 32
      · rw [if_pos (by omega)]
        by_cases h3 : s.data.toList = [46]
        · simp [h3]
        · rw [if_neg h3]
          have e1 : s.data.toList.isEmpty = false := by cases h : s.data.toList with | nil => exact absurd h h1 | cons => rfl
          have e2 : decide (s.data.toList.length ≤ 32) = true := decide_eq_true (by omega)
          have e3 : (s.data.toList == [46]) = false := by simpa using h3
          rw [e1, e2, e3]
          simp [bne]
      · rw [if_neg (by omega)]
        have e2 : decide (s.data.toList.length ≤ 32) = false := decide_eq_false (by omega)
        rw [e2]; simp
  | succ d ih =>
    intro k i hd hi hk
    obtain ⟨k, rfl⟩ : ∃ m, k = m + 1 := ⟨k - 1, by omega⟩
    have hlt : i < s.size := by omega
    simp only [sutlerref14_Name.l0]
    rw [if_pos (by omega), if_pos (by omega), bt_nat s i hlt, drop_any s i hlt, wrap_up hlt hs]
    by_cases c1 : ((s[i]'hlt).toNat : Int) < 33
    · rw [if_pos c1]
      have : oddB (s[i]'hlt) = true := by simp [oddB, odd]; omega
      rw [this]; simp
    · rw [if_neg c1]
      by_cases c2 : ((s[i]'hlt).toNat : Int) > 126
      · rw [if_pos c2]
        have : oddB (s[i]'hlt) = true := by simp [oddB, odd]; omega
        rw [this]; simp
      · rw [if_neg c2]
        by_cases c3 : ((s[i]'hlt).toNat : Int) = 47
        · rw [if_pos c3]
          have : oddB (s[i]'hlt) = true := by simp [oddB, odd]; omega
          rw [this]; simp
        · rw [if_neg c3, ih k (i + 1) (by omega) (by omega) (by omega)]
          have : oddB (s[i]'hlt) = false := by simp only [oddB, odd, Bool.or_eq_false_iff, decide_eq_false_iff_not]; omega
          rw [this, Bool.false_or]

theorem name_f (s : ByteArray) (hs : s.size ≤ 4611686018427387903) : Ev (fun k => sutlerref14_Name.f k s) (isName s.data.toList) := by
  refine ⟨s.size + 1, fun k hk => ?_⟩
  show sutlerref14_Name.l0 k s ((0 : Nat) : Int) = _
  rw [name_l0 s hs s.size k 0 (by omega) (by omega) (by omega)]
  unfold isName
  rw [List.drop_zero]
  congr 1
  cases s.data.toList.any oddB <;> simp

/-! The parts, told without their places. -/
theorem parts_snd : ∀ (l : List UInt8) (o o' : Nat), (parts o l).map (·.2) = (parts o' l).map (·.2)
  | [], o, o' => rfl
  | c :: r, o, o' => by
    have ih := parts_snd r (o + 1) (o' + 1)
    unfold parts
    by_cases hc : c = 47
    · rw [if_pos hc, if_pos hc]; simp [ih]
    · rw [if_neg hc, if_neg hc]
      match h1 : parts (o + 1) r, h2 : parts (o' + 1) r with
      | [], _ => exact absurd h1 (parts_ne _ _)
      | _, [] => exact absurd h2 (parts_ne _ _)
      | (a, g) :: t, (a', g') :: t' =>
        rw [h1, h2] at ih
        simp only [List.map_cons, List.cons.injEq] at ih ⊢
        simp [ih.1, ih.2]
theorem texts_none (l : List UInt8) (h : ∀ j, j < l.length → l[j]? ≠ some 47) : texts l = [l] := by
  have : indexByte l 47 = -1 := by
    induction l with
    | nil => rfl
    | cons c r ih =>
      have hc : (c == 47) = false := by
        have := h 0 (by simp)
        simpa using this
      have hr := ih (fun j hj => by have := h (j + 1) (by simpa using hj); simpa using this)
      simp [indexByte, hc, hr]
  rw [texts, parts_none l 0 this]; rfl
theorem texts_some (l : List UInt8) (n : Nat) (h : ∀ j, j < n → l[j]? ≠ some 47) (hn : l[n]? = some 47) : texts l = l.take n :: texts (l.drop (n + 1)) := by
  have : indexByte l 47 = (n : Int) := by
    induction n generalizing l with
    | zero =>
      cases l with
      | nil => simp at hn
      | cons c r => simp at hn; subst hn; simp [indexByte]
    | succ n ih =>
      cases l with
      | nil => simp at hn
      | cons c r =>
        have hc : (c == 47) = false := by
          have := h 0 (by omega)
          simpa using this
        have hr := ih r (fun j hj => by have := h (j + 1) (by omega); simpa using this) (by simpa using hn)
        simp only [indexByte, hc, hr]
        rw [if_neg (by simp), if_neg (by simp)]
        omega
  obtain ⟨_, h2⟩ := parts_some l 0 n this
  rw [texts, h2, List.map_cons]
  congr 1
  exact parts_snd _ _ _

/-- base.Split at a slash. -/
theorem split_l0 (s : ByteArray) (hs : s.size < 8796093022000) : ∀ (d k o i : Nat) (acc : List ByteArray), s.size - i = d → o ≤ i → i ≤ s.size → acc.length ≤ i → d + 1 < k →
    (∀ j, o ≤ j → j < i → s.data.toList[j]? ≠ some 47) →
    ∃ R, sutlerbase_Split.l0 k s 47 acc (o : Int) (i : Int) = some R ∧ R.map (·.data.toList) = acc.map (·.data.toList) ++ texts (s.data.toList.drop o) := by
  have hsz := Lib.size_eq s
  intro d
  induction d with
  | zero =>
    intro k o i acc hd ho hi ha hk hno
    obtain ⟨k, rfl⟩ : ∃ m, k = m + 1 := ⟨k - 1, by omega⟩
    obtain rfl : i = s.size := by omega
    simp only [sutlerbase_Split.l0]
    rw [if_pos (by omega), if_pos trivial, if_pos (by omega), if_pos (by omega), if_pos (by omega)]
    obtain ⟨k, rfl⟩ : ∃ m, k = m + 1 := ⟨k - 1, by omega⟩
    simp only [sutlerbase_Split.l0]
    have hw : wrap64 ((s.size : Int) + 1) = (s.size : Int) + 1 := by unfold wrap64; omega
    rw [hw, if_neg (by omega)]
    refine ⟨_, rfl, ?_⟩
    rw [List.map_append, texts_none]
    · simp only [List.map_cons, List.map_nil, Int.toNat_natCast]
      rw [extract_data, List.take_of_length_le (by simp)]
    · intro j hj
      rw [List.getElem?_drop]
      rw [List.length_drop] at hj
      exact hno (o + j) (by omega) (by omega)
  | succ d ih =>
    intro k o i acc hd ho hi ha hk hno
    obtain ⟨k, rfl⟩ : ∃ m, k = m + 1 := ⟨k - 1, by omega⟩
    have hlt : i < s.size := by omega
    have hg : s.data.toList[i]? = some (s[i]'hlt) := data_getElem? s i hlt
    simp only [sutlerbase_Split.l0]
    rw [if_pos (by omega), if_neg (by omega), if_pos (by omega), if_pos (by omega), bt_nat s i hlt, wrap_up hlt (by omega)]
    by_cases c : ((s[i]'hlt).toNat : Int) = 47
    · rw [if_pos c, if_pos (by omega), if_pos (by omega), if_pos (by omega)]
      have h47 : s[i]'hlt = 47 := UInt8.toNat_inj.1 (by show _ = 47; omega)
      obtain ⟨R, h1, h2⟩ := ih k (i + 1) (i + 1) (acc ++ [s.extract o i]) (by omega) (by omega) (by omega) (by simp; omega) (by omega) (by intro j h1 h2; omega)
      refine ⟨R, by simpa using h1, ?_⟩
      rw [h2, texts_some (s.data.toList.drop o) (i - o)]
      · simp only [List.map_append, List.map_cons, List.map_nil, List.append_assoc, List.cons_append, List.nil_append]
        rw [extract_data, List.drop_drop]
        congr 4
        omega
      · intro j hj
        rw [List.getElem?_drop]
        exact hno (o + j) (by omega) (by omega)
      · rw [List.getElem?_drop, show o + (i - o) = i by omega, hg, h47]
    · rw [if_neg c]
      refine ih k o (i + 1) acc (by omega) (by omega) (by omega) (by omega) (by omega) ?_
      intro j h1 h2
      by_cases e : j = i
      · subst e
        rw [hg]
        intro h
        have : s[j]'hlt = 47 := Option.some.inj h
        rw [this] at c
        exact c rfl
      · exact hno j h1 (by omega)

theorem split_f (s : ByteArray) (hs : s.size < 8796093022000) : ∃ R, Ev (fun k => sutlerbase_Split.f k s 47) R ∧ R.map (·.data.toList) = texts s.data.toList := by
  obtain ⟨R, h1, h2⟩ := split_l0 s hs s.size (s.size + 2) 0 0 [] (by omega) (by omega) (by omega) (by simp) (by omega) (by intro j h1 h2; omega)
  refine ⟨R, Ev.of (sutlerbase_Split.mono s 47) (k := s.size + 2) h1, by simpa using h2⟩

theorem le_sum_mem {x : Nat} : ∀ {l : List Nat}, x ∈ l → x ≤ l.sum
  | a :: l, h => by
    rw [List.sum_cons]
    rcases List.mem_cons.1 h with rfl | h
    · omega
    · have := le_sum_mem h; omega

theorem texts_size {s : ByteArray} {R : List ByteArray} (h : R.map (·.data.toList) = texts s.data.toList) : ∀ x ∈ R, x.size ≤ s.size := by
  intro x hx
  have h1 := wt_texts s.data.toList
  rw [← h] at h1
  have h2 : x.data.toList.length + 1 ≤ wt (R.map (·.data.toList)) := by
    unfold wt
    have : x.data.toList.length + 1 ∈ ((R.map (·.data.toList)).map fun x => x.length + 1) := by
      rw [List.map_map]; exact List.mem_map.2 ⟨x, hx, rfl⟩
    exact le_sum_mem this
  rw [Lib.size_eq, Lib.size_eq s]; omega

/-- ref.Check's loop. -/
theorem check_l0 (R : List ByteArray) (hR : ∀ x ∈ R, x.size ≤ 4611686018427387903) (hl : R.length ≤ 4611686018427387903) : ∀ (d i : Nat), R.length - i = d → i ≤ R.length →
    Ev (fun k => sutlerref14_Check.l0 k R (i : Int)) (if ((R.drop i).map (·.data.toList)).all isName then 0 else 140) := by
  intro d
  induction d with
  | zero =>
    intro i hd hi
    refine Ev.round (fun _ => some 0) (fun k => ?_) (Ev.eq (Ev.now 0) ?_)
    · simp only [sutlerref14_Check.l0]; rw [if_neg (by omega)]
    · rw [List.drop_of_length_le (by omega)]; rfl
  | succ d ih =>
    intro i hd hi
    have hlt : i < R.length := by omega
    have hrd : rdOf ByteArray.empty R (i : Int) = R[i] := by simp [rdOf, List.getD_eq_getElem?_getD, hlt]
    refine Ev.round (fun k => (sutlerref14_Name.f k R[i]).bind fun t => if t = true then sutlerref14_Check.l0 k R ((i + 1 : Nat) : Int) else some 140) (fun k => ?_) ?_
    · simp only [sutlerref14_Check.l0]
      rw [if_pos (by omega), if_pos (by omega), hrd, wrap_up hlt hl]
    · refine Ev.bind (name_f R[i] (hR _ (List.getElem_mem hlt))) ?_
      rw [List.drop_eq_getElem_cons hlt, List.map_cons, List.all_cons]
      cases h : isName R[i].data.toList with
      | true => simpa using ih (i + 1) (by omega) (by omega)
      | false => simpa using Ev.now (140 : Int)

theorem check_f (s : ByteArray) : Ev (fun k => sutlerref14_Check.f k s) (if isPath s.data.toList then 0 else 140) := by
  have hsz := Lib.size_eq s
  unfold sutlerref14_Check.f isPath
  by_cases h1 : s.size ≤ 200
  · by_cases h2 : s.data.toList = []
    · refine Ev.eq (Ev.congr (f := fun _ => some 0) (fun k => ?_) (Ev.now 0)) (by simp [h2])
      rw [if_neg (by omega), if_pos (by rw [toList_data]; exact h2)]
    · obtain ⟨R, h3, h4⟩ := split_f s (by omega)
      refine Ev.congr (f := fun k => (sutlerbase_Split.f k s 47).bind fun t => sutlerref14_Check.l0 k t 0) (fun k => ?_) ?_
      · rw [if_neg (by omega), if_neg (by rw [toList_data]; exact h2)]
      · refine Ev.bind h3 ?_
        have hlen : R.length ≤ 201 := by
          have h5 := length_wt (texts s.data.toList)
          rw [wt_texts, ← h4, List.length_map] at h5; omega
        have := check_l0 R (fun x hx => by have := texts_size h4 x hx; omega) (by omega) R.length 0 (by omega) (by omega)
        rw [List.drop_zero, h4] at this
        have e1 : decide (s.data.toList.length ≤ 200) = true := decide_eq_true (by omega)
        have e2 : s.data.toList.isEmpty = false := by cases h : s.data.toList with | nil => exact absurd h h2 | cons => rfl
        rw [e1, e2]
        simpa using this
  · have e1 : decide (s.data.toList.length ≤ 200) = false := decide_eq_false (by omega)
    refine Ev.eq (Ev.congr (f := fun _ => some 140) (fun k => ?_) (Ev.now 140)) (by rw [e1]; rfl)
    rw [if_pos (by omega)]

/-- base.Begins, base.Ends. -/
theorem begins_f (s p : ByteArray) : sutlerbase_Begins.f s p = some (hasPrefix s.data.toList p.data.toList) := by
  have h1 := Lib.size_eq s
  have h2 := Lib.size_eq p
  unfold sutlerbase_Begins.f hasPrefix
  by_cases h : p.size ≤ s.size
  · rw [if_pos (by omega), if_pos (by omega), if_pos (by omega), toList_data, toList_data, extract_data]
    simp only [Int.toNat_natCast, List.drop_zero, Nat.sub_zero]
    congr 1
    rw [Bool.eq_iff_iff, List.isPrefixOf_iff_prefix, beq_iff_eq, h2, eq_comm, ← List.prefix_iff_eq_take]
  · rw [if_neg (by omega)]
    congr 1
    symm
    rw [Bool.eq_false_iff]
    intro hp
    have := (List.isPrefixOf_iff_prefix.1 hp).length_le
    omega
theorem ends_f (s p : ByteArray) (hs : s.size ≤ 4611686018427387903) : sutlerbase_Ends.f s p = some (hasSuffix s.data.toList p.data.toList) := by
  have h1 := Lib.size_eq s
  have h2 := Lib.size_eq p
  unfold sutlerbase_Ends.f hasSuffix
  by_cases h : p.size ≤ s.size
  · have hw : wrap64 ((s.size : Int) - (p.size : Int)) = ((s.size - p.size : Nat) : Int) := by unfold wrap64; omega
    rw [if_pos (by omega), hw, if_pos (by omega), if_pos (by omega), toList_data, toList_data, Int.toNat_natCast, extract_to_end]
    congr 1
    rw [Bool.eq_iff_iff, List.isSuffixOf_iff_suffix, beq_iff_eq, h1, h2, eq_comm, ← List.suffix_iff_eq_drop]
  · rw [if_neg (by omega)]
    congr 1
    symm
    rw [Bool.eq_false_iff]
    intro hp
    have := (List.isSuffixOf_iff_suffix.1 hp).length_le
    omega

theorem of_list (s : ByteArray) : (⟨s.data.toList.toArray⟩ : ByteArray) = s := rfl
theorem eq_of_list {s : ByteArray} {l : List UInt8} (h : s.data.toList = l) : s = ⟨l.toArray⟩ := by rw [← h]

/-- ref.Clean. -/
theorem clean_f (s : ByteArray) (hs : s.size ≤ 4611686018427387903) : Ev (fun k => sutlerref14_Clean.f k s) (⟨(cleanL s.data.toList).1.toArray⟩, (cleanL s.data.toList).2) := by
  have hsz := Lib.size_eq s
  unfold sutlerref14_Clean.f cleanL
  rw [toList_data]
  by_cases h1 : s.data.toList = [46]
  · rw [if_pos (.inl h1)]
    refine Ev.congr (f := fun k => sutlerref14_Clean.j0 k s true) (fun k => by rw [if_pos h1]) ?_
    exact Ev.round (fun _ => some (⟨#[]⟩, 0)) (fun k => by simp [sutlerref14_Clean.j0]) (Ev.now _)
  by_cases h2 : s.data.toList = [46, 47]
  · rw [if_pos (.inr h2)]
    refine Ev.congr (f := fun k => sutlerref14_Clean.j0 k s true) (fun k => by rw [if_neg h1, h2]; rfl) ?_
    exact Ev.round (fun _ => some (⟨#[]⟩, 0)) (fun k => by simp [sutlerref14_Clean.j0]) (Ev.now _)
  rw [if_neg (by simp [h1, h2])]
  have h3 : (s.data.toList == [46, 47]) = false := by simpa using h2
  have key : ∀ t : ByteArray, t.size ≤ s.size → t.data.toList = trimPrefix s.data.toList [46, 47] → Ev (fun k => sutlerref14_Clean.j1 k t)
      ((⟨(if cut2 s.data.toList = [] ∨ isPath (cut2 s.data.toList) = false then ([], (140 : Int)) else (cut2 s.data.toList, 0)).1.toArray⟩ : ByteArray), (if cut2 s.data.toList = [] ∨ isPath (cut2 s.data.toList) = false then ([], (140 : Int)) else (cut2 s.data.toList, 0)).2) := by
    intro t htl ht
    have tsz := Lib.size_eq t
    have fin : ∀ u : ByteArray, u.data.toList = cut2 s.data.toList → Ev (fun k => if u.toList = [] then some ((⟨#[]⟩ : ByteArray), (140 : Int)) else (sutlerref14_Check.f k u).bind fun c => if c = 0 then some (u, 0) else some (⟨#[]⟩, 140))
        ((⟨(if cut2 s.data.toList = [] ∨ isPath (cut2 s.data.toList) = false then ([], (140 : Int)) else (cut2 s.data.toList, 0)).1.toArray⟩ : ByteArray), (if cut2 s.data.toList = [] ∨ isPath (cut2 s.data.toList) = false then ([], (140 : Int)) else (cut2 s.data.toList, 0)).2) := by
      intro u hu
      rw [← hu]
      by_cases e1 : u.data.toList = []
      · rw [if_pos (.inl e1)]
        refine Ev.congr (f := fun _ => some (⟨#[]⟩, 140)) (fun k => ?_) (Ev.now _)
        rw [if_pos (by rw [toList_data]; exact e1)]
      · refine Ev.congr (f := fun k => (sutlerref14_Check.f k u).bind fun c => if c = 0 then some (u, 0) else some (⟨#[]⟩, 140)) (fun k => by rw [if_neg (by rw [toList_data]; exact e1)]) ?_
        refine Ev.bind (check_f u) ?_
        cases e2 : isPath u.data.toList with
        | true =>
          have hX : (if u.data.toList = [] ∨ true = false then ([], (140 : Int)) else (u.data.toList, 0)) = (u.data.toList, 0) := if_neg (by simp [e1])
          rw [hX]
          exact Ev.some fun k => by simp
        | false =>
          have hX : (if u.data.toList = [] ∨ false = false then ([], (140 : Int)) else (u.data.toList, 0)) = ([], 140) := if_pos (.inr rfl)
          rw [hX]
          exact Ev.some fun k => by simp
    refine Ev.round (fun k => (sutlerbase_Ends.f t ⟨#[47]⟩).bind fun c => if c = true then (if 0 ≤ wrap64 ((t.size : Int) - 1) then (if wrap64 ((t.size : Int) - 1) ≤ (t.size : Int) then (if (t.extract 0 (wrap64 ((t.size : Int) - 1)).toNat).toList = [] then some (⟨#[]⟩, 140) else (sutlerref14_Check.f k (t.extract 0 (wrap64 ((t.size : Int) - 1)).toNat)).bind fun c => if c = 0 then some (t.extract 0 (wrap64 ((t.size : Int) - 1)).toNat, 0) else some (⟨#[]⟩, 140)) else none) else none) else (if t.toList = [] then some (⟨#[]⟩, 140) else (sutlerref14_Check.f k t).bind fun c => if c = 0 then some (t, 0) else some (⟨#[]⟩, 140))) (fun k => by simp only [sutlerref14_Clean.j1]) ?_
    rw [ends_f t _ (by omega)]
    simp only [Option.bind_some]
    cases hE : hasSuffix t.data.toList (⟨#[47]⟩ : ByteArray).data.toList with
    | true =>
      have hE' : hasSuffix (trimPrefix s.data.toList [46, 47]) [47] = true := by rw [← ht]; exact hE
      have hn : 0 < t.size := by
        rw [tsz]
        obtain ⟨r, hr⟩ := List.isSuffixOf_iff_suffix.1 hE
        rw [← hr]; simp
      have hw : wrap64 ((t.size : Int) - 1) = ((t.size - 1 : Nat) : Int) := by unfold wrap64; omega
      refine Ev.congr (f := fun k => if (t.extract 0 (t.size - 1)).toList = [] then some ((⟨#[]⟩ : ByteArray), (140 : Int)) else (sutlerref14_Check.f k (t.extract 0 (t.size - 1))).bind fun c => if c = 0 then some (t.extract 0 (t.size - 1), 0) else some (⟨#[]⟩, 140)) (fun k => ?_) (fin _ ?_)
      · rw [if_pos rfl, hw, if_pos (by omega), if_pos (by omega), Int.toNat_natCast]
      · rw [extract_data, List.drop_zero, ht]
        unfold cut2 trimSuffix
        rw [hE', if_pos rfl, ← ht, tsz]; rfl
    | false =>
      have hE' : hasSuffix (trimPrefix s.data.toList [46, 47]) [47] = false := by rw [← ht]; exact hE
      refine Ev.congr (f := fun k => if t.toList = [] then some ((⟨#[]⟩ : ByteArray), (140 : Int)) else (sutlerref14_Check.f k t).bind fun c => if c = 0 then some (t, 0) else some (⟨#[]⟩, 140)) (fun k => ?_) (fin _ ?_)
      · rw [if_neg (by simp)]
      · unfold cut2 trimSuffix
        rw [hE', ht]; simp
  refine Ev.congr (f := fun k => sutlerref14_Clean.j0 k s false) (fun k => by rw [if_neg h1, h3]) ?_
  refine Ev.round (fun k => (sutlerbase_Begins.f s ⟨#[46, 47]⟩).bind fun c => if c = true then (if 2 ≤ (s.size : Int) then sutlerref14_Clean.j1 k (s.extract 2 s.size) else none) else sutlerref14_Clean.j1 k s) (fun k => by simp [sutlerref14_Clean.j0]) ?_
  rw [begins_f]
  simp only [Option.bind_some]
  cases hB : hasPrefix s.data.toList (⟨#[46, 47]⟩ : ByteArray).data.toList with
  | true =>
    have hB' : hasPrefix s.data.toList [46, 47] = true := hB
    have h2s : 2 ≤ s.size := by
      rw [hsz]
      have := (List.isPrefixOf_iff_prefix.1 hB).length_le
      simpa using this
    refine Ev.congr (f := fun k => sutlerref14_Clean.j1 k (s.extract 2 s.size)) (fun k => by rw [if_pos rfl, if_pos (by omega)]) (key _ ?_ ?_)
    · rw [Lib.size_eq, extract_to_end, List.length_drop]; omega
    · rw [extract_to_end]; unfold trimPrefix; rw [hB']; rfl
  | false =>
    have hB' : hasPrefix s.data.toList [46, 47] = false := hB
    refine Ev.congr (f := fun k => sutlerref14_Clean.j1 k s) (fun k => by rw [if_neg (by simp)]) (key _ (Nat.le_refl _) ?_)
    unfold trimPrefix; rw [hB']; simp

end Go.Proofs.Ytboefcnghngoaaa
