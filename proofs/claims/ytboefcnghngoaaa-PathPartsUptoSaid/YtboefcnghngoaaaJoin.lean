/- Paths as their parts joined: the last slash, the parent, the base, the parents of a path. -/
import Derived.Test.YtboefcnghngoaaaRefs
import Derived.Test.YtboefcnghngoaaaH
namespace Go.Proofs.Ytboefcnghngoaaa
open Go.RowKit Go.Lib Sp Go.Proofs.YtboefcnghngoaaaW.PrintWords Go.Proofs.YtboefcnghngoaaaW.PrintLast Go.Proofs.YtboefcnghngoaaaW.PrintMore PAll

abbrev jn (ts : List (List UInt8)) : List UInt8 := join ts [47]

theorem texts_ne (l : List UInt8) : texts l ≠ [] := by unfold texts; simp [parts_ne]
theorem texts_slash (r : List UInt8) : texts (47 :: r) = [] :: texts r := by
  have := texts_some (47 :: r) 0 (by intro j h; omega) rfl
  simpa using this
theorem texts_cons (c : UInt8) (r : List UInt8) (hc : c ≠ 47) : ∃ h t, texts r = h :: t ∧ texts (c :: r) = (c :: h) :: t := by
  unfold texts
  match hp : parts 1 r with
  | [] => exact absurd hp (parts_ne _ _)
  | (a, g) :: t =>
    refine ⟨g, t.map (·.2), ?_, ?_⟩
    · rw [parts_snd r 0 1, hp]; rfl
    · conv => lhs; unfold parts
      rw [if_neg hc, hp]; rfl

theorem jn_one (x : List UInt8) : jn [x] = x := join_one x _
theorem jn_cons (x : List UInt8) (ts : List (List UInt8)) (h : ts ≠ []) : jn (x :: ts) = x ++ 47 :: jn ts := by
  cases ts with
  | nil => exact absurd rfl h
  | cons y r => simp [jn, join_cons, joinTail]
theorem jn_snoc (ts : List (List UInt8)) (x : List UInt8) (h : ts ≠ []) : jn (ts ++ [x]) = jn ts ++ 47 :: x := by
  induction ts with
  | nil => exact absurd rfl h
  | cons y r ih =>
    by_cases hr : r = []
    · subst hr; rw [List.cons_append, List.nil_append, jn_cons y [x] (by simp), jn_one, jn_one]
    · rw [List.cons_append, jn_cons y _ (by simp), jn_cons y r hr, ih hr]; simp

/-- A text is its parts joined; no part holds a slash. -/
theorem jn_texts : ∀ l : List UInt8, jn (texts l) = l
  | [] => rfl
  | c :: r => by
    have ih := jn_texts r
    by_cases hc : c = 47
    · subst hc; rw [texts_slash, jn_cons _ _ (texts_ne r), ih]; rfl
    · obtain ⟨h, t, h1, h2⟩ := texts_cons c r hc
      rw [h1] at ih
      rw [h2]
      by_cases ht : t = []
      · subst ht; rw [jn_one] at ih ⊢; rw [ih]
      · rw [jn_cons _ _ ht] at ih ⊢; rw [← ih]; rfl
theorem no_slash : ∀ (l : List UInt8), ∀ x ∈ texts l, (47 : UInt8) ∉ x
  | [], x, hx => by simp [texts, parts] at hx; subst hx; simp
  | c :: r, x, hx => by
    have ih := no_slash r
    by_cases hc : c = 47
    · subst hc; rw [texts_slash] at hx
      rcases List.mem_cons.1 hx with rfl | hx
      · simp
      · exact ih x hx
    · obtain ⟨h, t, h1, h2⟩ := texts_cons c r hc
      rw [h2] at hx
      rcases List.mem_cons.1 hx with rfl | hx
      · have := ih h (by rw [h1]; simp)
        simp [this, Ne.symm hc]
      · exact ih x (by rw [h1]; exact List.mem_cons_of_mem _ hx)
theorem no_get {x : List UInt8} (h : (47 : UInt8) ∉ x) (j : Nat) : x[j]? ≠ some 47 := fun e => h (List.mem_of_getElem? e)
theorem texts_jn : ∀ (ts : List (List UInt8)), ts ≠ [] → (∀ x ∈ ts, (47 : UInt8) ∉ x) → texts (jn ts) = ts
  | [], h, _ => absurd rfl h
  | x :: r, _, hx => by
    by_cases hr : r = []
    · subst hr; rw [jn_one]; exact texts_none x (fun j _ => no_get (hx x (by simp)) j)
    · rw [jn_cons _ _ hr, texts_some (x ++ 47 :: jn r) x.length]
      · have e : (x ++ 47 :: jn r).drop (x.length + 1) = jn r := by rw [← List.drop_drop, List.drop_left]; rfl
        rw [List.take_left, e, texts_jn r hr (fun y hy => hx y (List.mem_cons_of_mem _ hy))]
      · intro j hj
        rw [List.getElem?_append_left hj]
        exact no_get (hx x (by simp)) j
      · rw [List.getElem?_append_right (Nat.le_refl _)]; simp

/-- The place of the last slash. -/
def lastUpto (l : List UInt8) : Nat → Int
  | 0 => -1
  | n + 1 => if l[n]? = some 47 then (n : Int) else lastUpto l n
def lastS (l : List UInt8) : Int := lastUpto l l.length
theorem lastUpto_range (l : List UInt8) : ∀ n, -1 ≤ lastUpto l n ∧ lastUpto l n < n
  | 0 => by simp [lastUpto]
  | n + 1 => by
    have := lastUpto_range l n
    unfold lastUpto
    split <;> omega
theorem lastUpto_none (l : List UInt8) (h : (47 : UInt8) ∉ l) : ∀ n, lastUpto l n = -1
  | 0 => rfl
  | n + 1 => by
    unfold lastUpto
    rw [if_neg (no_get h n)]; exact lastUpto_none l h n
theorem lastS_none {l : List UInt8} (h : (47 : UInt8) ∉ l) : lastS l = -1 := lastUpto_none l h _
theorem lastS_mid (a x : List UInt8) (h : (47 : UInt8) ∉ x) : lastS (a ++ 47 :: x) = a.length := by
  have key : ∀ n, n ≤ x.length → lastUpto (a ++ 47 :: x) (a.length + 1 + n) = a.length := by
    intro n
    induction n with
    | zero =>
      intro _
      show lastUpto (a ++ 47 :: x) (a.length + 1) = _
      unfold lastUpto
      rw [if_pos]
      rw [List.getElem?_append_right (Nat.le_refl _)]; simp
    | succ n ih =>
      intro hn
      show lastUpto (a ++ 47 :: x) (a.length + 1 + n + 1) = _
      unfold lastUpto
      rw [if_neg, ih (by omega)]
      rw [List.getElem?_append_right (by omega), show a.length + 1 + n - a.length = n + 1 by omega]
      exact no_get h n
  have := key x.length (Nat.le_refl _)
  unfold lastS
  rw [show (a ++ 47 :: x).length = a.length + 1 + x.length by simp; omega]
  exact this

def parentL (l : List UInt8) : List UInt8 := l.take (max 0 (lastS l)).toNat
def baseL (l : List UInt8) : List UInt8 := l.drop (lastS l + 1).toNat
def joinL (a b : List UInt8) : List UInt8 := if a = [] then b else if b = [] then a else a ++ 47 :: b

theorem parent_none {x : List UInt8} (h : (47 : UInt8) ∉ x) : parentL x = [] := by unfold parentL; rw [lastS_none h]; rfl
theorem base_none {x : List UInt8} (h : (47 : UInt8) ∉ x) : baseL x = x := by unfold baseL; rw [lastS_none h]; rfl
theorem parent_mid (a x : List UInt8) (h : (47 : UInt8) ∉ x) : parentL (a ++ 47 :: x) = a := by
  unfold parentL; rw [lastS_mid a x h]
  rw [show (max 0 ((a.length : Nat) : Int)).toNat = a.length by omega, List.take_left]
theorem base_mid (a x : List UInt8) (h : (47 : UInt8) ∉ x) : baseL (a ++ 47 :: x) = x := by
  unfold baseL; rw [lastS_mid a x h]
  rw [show ((a.length : Nat) + 1 : Int).toNat = a.length + 1 by omega, ← List.drop_drop, List.drop_left]; rfl
/-- The parent of parts joined: one part less. -/
theorem parent_jn (ts : List (List UInt8)) (h : ∀ x ∈ ts, (47 : UInt8) ∉ x) : parentL (jn ts) = jn ts.dropLast := by
  by_cases h0 : ts = []
  · subst h0; rfl
  · have e := List.dropLast_concat_getLast h0
    have hl : (47 : UInt8) ∉ ts.getLast h0 := h _ (List.getLast_mem h0)
    by_cases h1 : ts.dropLast = []
    · rw [h1] at e ⊢
      rw [← e, List.nil_append, jn_one]
      rw [parent_none hl]; rfl
    · conv => lhs; rw [← e, jn_snoc _ _ h1]
      exact parent_mid _ _ hl
theorem join_jn (ts : List (List UInt8)) (x : List UInt8) (hts : ∀ y ∈ ts, y ≠ []) (hx : x ≠ []) : joinL (jn ts) x = jn (ts ++ [x]) := by
  unfold joinL
  by_cases h0 : ts = []
  · subst h0; rw [if_pos (show jn [] = [] from rfl), List.nil_append, jn_one]
  · rw [if_neg, if_neg hx, jn_snoc _ _ h0]
    intro h
    cases ts with
    | nil => exact h0 rfl
    | cons y r =>
      have hy := hts y (by simp)
      by_cases hr : r = []
      · subst hr; rw [jn_one] at h; exact hy h
      · rw [jn_cons _ _ hr] at h; simp at h

/-- What begins a list. -/
def pres : List (List UInt8) → List (List (List UInt8))
  | [] => []
  | x :: r => [x] :: (pres r).map (x :: ·)
theorem pres_length : ∀ ts, (pres ts).length = ts.length
  | [] => rfl
  | x :: r => by simp [pres, pres_length r]
theorem pres_get : ∀ (ts : List (List UInt8)) (i : Nat), i < ts.length → (pres ts)[i]? = some (ts.take (i + 1))
  | [], i, h => by simp at h
  | x :: r, 0, h => by simp [pres]
  | x :: r, i + 1, h => by simp [pres, pres_get r i (by simpa using h)]

theorem ups_spans (L : List UInt8) : ∀ (n : Nat) (l : List UInt8) (o : Nat), l.length = n → L.drop o = l → o ≤ L.length →
    (spans o l).map (fun x => L.take x.2) = (pres (texts l)).map (fun ts => L.take o ++ jn ts) := by
  intro n
  induction n using Nat.strongRecOn with
  | ind n ih =>
    intro l o hn hd ho
    rcases Int.lt_or_le (indexByte l 47) 0 with hi | hi
    · have hi1 : indexByte l 47 = -1 := by have := indexByte_ge l 47; omega
      have ht : texts l = [l] := by unfold texts; rw [parts_none l 0 hi1]; rfl
      rw [spans_none l o hi1, ht]
      simp only [pres, List.map_cons, List.map_nil, jn_one]
      congr 1
      rw [← hd, List.take_add, List.take_of_length_le (l := L.drop o) (by simp)]
    · obtain ⟨m, hm⟩ := Int.eq_ofNat_of_zero_le hi
      obtain ⟨hlt, hsp⟩ := spans_some l o m hm
      have ht : texts l = l.take m :: texts (l.drop (m + 1)) := by
        unfold texts
        rw [(parts_some l 0 m hm).2, List.map_cons, parts_snd (l.drop (m + 1)) _ 0]
      have hol : o + l.length = L.length := by rw [← hd, List.length_drop]; omega
      have h1 := ih (l.drop (m + 1)).length (by rw [List.length_drop]; omega) (l.drop (m + 1)) (o + m + 1) rfl (by rw [← hd, List.drop_drop]; congr 1) (by omega)
      rw [hsp, ht, List.map_cons, h1]
      simp only [pres, List.map_cons, List.map_map, jn_one]
      have e1 : L.take (o + m) = L.take o ++ l.take m := by rw [← hd, List.take_add]
      have h47 : l[m]? = some 47 := by
        have := parts_some l 0 m hm
        have hg : jn (texts l) = l := jn_texts l
        rw [ht, jn_cons _ _ (texts_ne _)] at hg
        conv => lhs; rw [← hg]
        rw [List.getElem?_append_right (by rw [List.length_take]; omega), show m - (l.take m).length = 0 by rw [List.length_take]; omega]
        rfl
      have e2 : L.take (o + m + 1) = L.take o ++ l.take m ++ [47] := by
        rw [show o + m + 1 = o + (m + 1) by omega, List.take_add, hd, List.take_add_one, h47]
        simp
      rw [e1]
      congr 1
      refine List.map_congr_left fun ts hts => ?_
      have hne : ts ≠ [] := by
        have : ∀ (us : List (List UInt8)), ∀ t ∈ pres us, t ≠ [] := by
          intro us
          induction us with
          | nil => intro t h; simp [pres] at h
          | cons y r _ =>
            intro t h
            simp only [pres, List.mem_cons, List.mem_map] at h
            rcases h with rfl | ⟨z, _, rfl⟩ <;> simp
        exact this _ ts hts
      simp only [Function.comp]
      rw [jn_cons _ _ hne, e2]
      simp

theorem ups_texts (s : ByteArray) (ys : List (Span s)) (h : ys.map (·.1) = spans 0 s.data.toList) : (ups s ys).map (·.data.toList) = (pres (texts s.data.toList)).map jn := by
  have := ups_spans s.data.toList s.data.toList.length s.data.toList 0 rfl rfl (by omega)
  rw [← h] at this
  simp only [List.map_map, List.take_zero, List.nil_append] at this ⊢
  rw [← this]
  unfold ups
  rw [List.map_map]
  refine List.map_congr_left fun x _ => ?_
  simp
end Go.Proofs.Ytboefcnghngoaaa
