/- What a name, a clean path and its parts are, in plain Lean; and that asking all runes whether one is odd is asking all bytes. -/
import Derived.Shelf.GgClosure.StringsIndexFunc
import Derived.Laws.RangeString
import Derived.Laws.RangeAny
import Derived.Lib.Bytealg
import Derived.Lib.Strings
import Derived.Lib.Join
namespace Go.Proofs.Ytcklpecjcebekaa.Sp
open Go Go.Lib

def odd (r : Nat) : Bool := decide (r < 33) || decide (126 < r) || decide (r = 47)
def oddB (c : UInt8) : Bool := odd c.toNat
def isName (l : List UInt8) : Bool := !l.isEmpty && decide (l.length ≤ 32) && !(l == [46]) && !(l == [46, 46]) && !l.any oddB

theorem odd_big {r : Nat} (h : 128 ≤ r) : odd r = true := by simp [odd]; omega

theorem drop_any (s : ByteArray) (pos : Nat) (h : pos < s.size) : (s.data.toList.drop pos).any oddB = (oddB (s[pos]'h) || (s.data.toList.drop (pos + 1)).any oddB) := by
  have hl : pos < s.data.toList.length := by simpa using h
  rw [List.drop_eq_getElem_cons hl, List.any_cons]
  rfl

theorem idx_odd (s : ByteArray) : ∀ (f pos : Nat), s.size ≤ pos + f → decide (0 ≤ idxFuncFrom odd true s f pos) = (s.data.toList.drop pos).any oddB := by
  intro f
  induction f with
  | zero =>
    intro pos h
    have hl : s.data.toList.length ≤ pos := by simpa using h
    rw [List.drop_of_length_le hl]
    simp [idxFuncFrom]
  | succ f ih =>
    intro pos h
    unfold idxFuncFrom
    by_cases hp : pos < s.size
    · rw [if_pos hp, drop_any s pos hp]
      by_cases ha : (s[pos]'hp).toNat < 128
      · rw [decode_ascii s pos hp ha]
        by_cases ho : odd (s[pos]'hp).toNat = true
        · rw [if_pos ho]
          have : oddB (s[pos]'hp) = true := ho
          rw [this]
          simp
        · rw [if_neg ho, ih _ (by omega)]
          have : oddB (s[pos]'hp) = false := by simpa [oddB] using ho
          rw [this]; simp
      · have hd := decode_high s pos hp (by omega)
        rw [if_pos (odd_big hd.1)]
        have : oddB (s[pos]'hp) = true := odd_big (by omega)
        rw [this]; simp
    · rw [if_neg hp]
      have hl : s.data.toList.length ≤ pos := by simp; exact Nat.le_of_not_lt hp
      rw [List.drop_of_length_le hl]
      simp

theorem contains_odd (s : ByteArray) : decide (0 ≤ idxFunc odd true s) = s.data.toList.any oddB := by
  unfold idxFunc
  rw [idx_odd s s.size 0 (by omega)]
  rfl

/-- The parts between the slashes, each with its place. -/
def parts (o : Nat) : List UInt8 → List (Nat × List UInt8)
  | [] => [(o, [])]
  | c :: r => if c = 47 then (o, []) :: parts (o + 1) r else
    match parts (o + 1) r with
    | [] => [(o, [c])]
    | (_, h) :: t => (o, c :: h) :: t

theorem parts_ne (o : Nat) (l : List UInt8) : parts o l ≠ [] := by
  cases l with
  | nil => simp [parts]
  | cons c r => unfold parts; split; · simp
                split <;> simp

theorem parts_none : ∀ (l : List UInt8) (o : Nat), indexByte l 47 = -1 → parts o l = [(o, l)]
  | [], o, _ => rfl
  | c :: r, o, h => by
    simp only [indexByte] at h
    by_cases hc : c = 47
    · subst hc; simp at h
    · have hb : (c == 47) = false := by simpa using hc
      rw [hb] at h
      simp only [Bool.false_eq_true, if_false] at h
      have hr : indexByte r 47 = -1 := by
        by_cases e : indexByte r 47 = -1
        · exact e
        · have := indexByte_ge r 47
          rw [if_neg (by simpa using e)] at h; omega
      unfold parts
      rw [if_neg hc, parts_none r (o + 1) hr]

theorem parts_some : ∀ (l : List UInt8) (o n : Nat), indexByte l 47 = (n : Int) → n < l.length ∧ parts o l = (o, l.take n) :: parts (o + n + 1) (l.drop (n + 1))
  | [], o, n, h => by simp [indexByte] at h
  | c :: r, o, n, h => by
    simp only [indexByte] at h
    by_cases hc : c = 47
    · subst hc
      simp at h
      have : n = 0 := by omega
      subst this
      simp [parts]
    · have hb : (c == 47) = false := by simpa using hc
      rw [hb] at h
      simp only [Bool.false_eq_true, if_false] at h
      by_cases e : indexByte r 47 = -1
      · rw [if_pos (by simpa using e)] at h; omega
      · rw [if_neg (by simpa using e)] at h
        obtain ⟨m, rfl⟩ : ∃ m, n = m + 1 := ⟨n - 1, by have := indexByte_ge r 47; omega⟩
        obtain ⟨h1, h2⟩ := parts_some r (o + 1) m (by omega)
        refine ⟨by simp; omega, ?_⟩
        conv => lhs; unfold parts
        rw [if_neg hc, h2]
        simp only [List.take_succ_cons, List.drop_succ_cons]
        congr 2
        omega

/-- Where the parts begin and end. -/
def spans (o : Nat) (l : List UInt8) : List (Nat × Nat) := (parts o l).map fun p => (p.1, p.1 + p.2.length)
theorem spans_none (l : List UInt8) (o : Nat) (h : indexByte l 47 = -1) : spans o l = [(o, o + l.length)] := by simp [spans, parts_none l o h]
theorem spans_some (l : List UInt8) (o n : Nat) (h : indexByte l 47 = (n : Int)) : n < l.length ∧ spans o l = (o, o + n) :: spans (o + n + 1) (l.drop (n + 1)) := by
  obtain ⟨h1, h2⟩ := parts_some l o n h
  refine ⟨h1, ?_⟩
  simp [spans, h2]
  omega
theorem spans_length (l : List UInt8) (o : Nat) : (spans o l).length = (parts o l).length := by simp [spans]

theorem seg_spans (L : List UInt8) : ∀ (l : List UInt8) (o : Nat), L.drop o = l → (spans o l).map (fun x => (L.drop x.1).take (x.2 - x.1)) = (parts o l).map (·.2)
  | [], o, h => by simp [spans, parts]
  | c :: r, o, h => by
    have hr : L.drop (o + 1) = r := by rw [← List.drop_drop, h]; rfl
    have ih := seg_spans L r (o + 1) hr
    unfold spans parts
    by_cases hc : c = 47
    · rw [if_pos hc]
      simp only [List.map_cons]
      unfold spans at ih
      rw [ih]; simp
    · rw [if_neg hc]
      unfold spans at ih
      match hp : parts (o + 1) r with
      | [] => exact absurd hp (parts_ne _ _)
      | (a, g) :: t =>
        rw [hp] at ih
        have ha : a = o + 1 := by
          have := parts_head r (o + 1); rw [hp] at this; simpa using this
        subst ha
        simp only [List.map_cons, List.map_map] at ih ⊢
        simp only [List.cons.injEq] at ih ⊢
        refine ⟨?_, ih.2⟩
        have i1 := ih.1
        rw [hr] at i1
        rw [h]
        have e1 : o + 1 + g.length - (o + 1) = g.length := by omega
        have e2 : o + (c :: g).length - o = g.length + 1 := by simp
        simp only [e1] at i1
        simp only [e2, List.take_succ_cons, i1]
where parts_head : ∀ (l : List UInt8) (o : Nat), ((parts o l).head?.map (·.1)) = some o
  | [], o => rfl
  | c :: r, o => by
    unfold parts
    by_cases hc : c = 47
    · rw [if_pos hc]; rfl
    · rw [if_neg hc]
      match parts (o + 1) r with
      | [] => rfl
      | (a, g) :: t => rfl

/-- The texts between the slashes. -/
def texts (l : List UInt8) : List (List UInt8) := (parts 0 l).map (·.2)
theorem texts_spans (l : List UInt8) : (spans 0 l).map (fun x => (l.drop x.1).take (x.2 - x.1)) = texts l := seg_spans l l 0 rfl

/-- Is it a clean path? -/
def isPath (l : List UInt8) : Bool := decide (l.length ≤ 200) && (l.isEmpty || (texts l).all isName)

/-- path.Clean. -/
def cut2 (l : List UInt8) : List UInt8 := trimSuffix (trimPrefix l [46, 47]) [47]
def cleanL (l : List UInt8) : List UInt8 × Int :=
  if l = [46] ∨ l = [46, 47] then ([], 0) else if cut2 l = [] ∨ isPath (cut2 l) = false then ([], 140) else (cut2 l, 0)

/-- path.Under. -/
def underL (p d : List UInt8) : Bool := hasPrefix p d && (d.isEmpty || (trimPrefix p d).isEmpty || (trimPrefix p d).head? == some 47)

/-- path.Target. -/
def stepWay (way : List (List UInt8)) (x : List UInt8) : Option (List (List UInt8)) :=
  if x = [] ∨ x = [46] then some way else if x = [46, 46] ∧ way ≠ [] then some way.dropLast else if isName x = true then some (way ++ [x]) else none
def walkWay (way : List (List UInt8)) : List (List UInt8) → Option (List (List UInt8))
  | [] => some way
  | x :: r => (stepWay way x).bind fun w => walkWay w r
theorem walkWay_snoc (x : List UInt8) : ∀ (xs way : List (List UInt8)), walkWay way (xs ++ [x]) = (walkWay way xs).bind fun w => stepWay w x
  | [], way => by simp [walkWay]
  | y :: r, way => by
    simp only [walkWay, List.cons_append]
    cases h : stepWay way y with
    | none => rfl
    | some w' => simp only [Option.bind_some]; exact walkWay_snoc x r w'
theorem walkWay_append : ∀ (xs ys way : List (List UInt8)), walkWay way (xs ++ ys) = (walkWay way xs).bind fun w => walkWay w ys
  | [], ys, way => by simp [walkWay]
  | y :: r, ys, way => by
    simp only [walkWay, List.cons_append]
    cases h : stepWay way y with
    | none => rfl
    | some w' => simp only [Option.bind_some]; exact walkWay_append r ys w'

def startWay (at' to : List UInt8) : List (List UInt8) := if to.head? = some 47 then [] else (texts at').dropLast
def targetL (at' to : List UInt8) : List UInt8 × Int :=
  if at' = [] ∨ to = [] ∨ isPath at' = false then ([], 140) else
  match walkWay (startWay at' to) (texts to) with
  | none => ([], 140)
  | some way => if 200 < (join way [47]).length then ([], 140) else (join way [47], 0)

/-- What a way takes. -/
def wt (l : List (List UInt8)) : Nat := (l.map fun x => x.length + 1).sum
theorem wt_append (a b : List (List UInt8)) : wt (a ++ b) = wt a + wt b := by simp [wt]
theorem wt_dropLast (l : List (List UInt8)) : wt l.dropLast ≤ wt l := by
  by_cases h : l = []
  · simp [h]
  · conv => rhs; rw [← List.dropLast_concat_getLast h]
    rw [wt_append]; omega
theorem wt_step {way w : List (List UInt8)} {x : List UInt8} (h : stepWay way x = some w) : wt w ≤ wt way + (x.length + 1) := by
  unfold stepWay at h
  split at h
  · cases h; omega
  split at h
  · cases h; have := wt_dropLast way; omega
  split at h
  · cases h; rw [wt_append]; simp [wt]
  · cases h
theorem wt_walk : ∀ {xs way w : List (List UInt8)}, walkWay way xs = some w → wt w ≤ wt way + wt xs
  | [], way, w, h => by cases h; omega
  | x :: r, way, w, h => by
    simp only [walkWay] at h
    cases hs : stepWay way x with
    | none => rw [hs] at h; cases h
    | some w' =>
      rw [hs] at h
      have h1 := wt_step hs
      have h2 := wt_walk (xs := r) h
      have : wt (x :: r) = (x.length + 1) + wt r := by simp [wt]
      omega
theorem wt_parts : ∀ (l : List UInt8) (o : Nat), wt ((parts o l).map (·.2)) = l.length + 1
  | [], o => by simp [parts, wt]
  | c :: r, o => by
    have ih := wt_parts r (o + 1)
    unfold parts
    by_cases hc : c = 47
    · rw [if_pos hc]
      simp only [wt, List.map_cons, List.sum_cons, List.length_cons, List.length_nil] at ih ⊢
      omega
    · rw [if_neg hc]
      match hp : parts (o + 1) r with
      | [] => exact absurd hp (parts_ne _ _)
      | (a, g) :: t =>
        rw [hp] at ih
        simp only [wt, List.map_cons, List.sum_cons, List.length_cons] at ih ⊢
        omega
theorem wt_texts (l : List UInt8) : wt (texts l) = l.length + 1 := wt_parts l 0
theorem wt_start (a t : List UInt8) : wt (startWay a t) ≤ a.length + 1 := by
  unfold startWay
  split
  · simp [wt]
  · exact Nat.le_trans (wt_dropLast _) (Nat.le_of_eq (wt_texts a))
theorem length_wt (l : List (List UInt8)) : l.length ≤ wt l := by
  induction l with
  | nil => simp
  | cons x r ih => simp only [wt, List.map_cons, List.sum_cons, List.length_cons] at ih ⊢; omega
theorem joinTail_wt (l : List (List UInt8)) : (joinTail [47] l).length = wt l := by
  induction l with
  | nil => simp [joinTail, wt]
  | cons x r ih => simp only [joinTail, wt, List.map_cons, List.flatten_cons, List.length_append, List.sum_cons, List.length_cons, List.length_nil] at ih ⊢; omega
theorem join_wt (l : List (List UInt8)) : (join l [47]).length ≤ wt l := by
  cases l with
  | nil => simp [join_nil]
  | cons x r =>
    rw [join_cons, List.length_append, joinTail_wt]
    simp only [wt, List.map_cons, List.sum_cons]; omega

end Go.Proofs.Ytcklpecjcebekaa.Sp
