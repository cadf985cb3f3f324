/- What the program's and the reference's functions of parts compute: parent, base, joined, under, all. -/
import Derived.Test.YtboefcnghngoaaaJoin
import Derived.Test.YtboefcnghngoaaaPAllx3
import Derived.Test.YtboefcnghngoaaaPAllx4
namespace Go.Proofs.Ytboefcnghngoaaa
open Go.RowKit Go.Lib Sp Go.Proofs.YtboefcnghngoaaaW.PrintWords Go.Proofs.YtboefcnghngoaaaW.PrintLast Go.Proofs.YtboefcnghngoaaaW.PrintMore PAll

def bs (l : List UInt8) : ByteArray := ⟨l.toArray⟩
theorem bs_list (s : ByteArray) : bs s.data.toList = s := rfl
theorem bs_data (l : List UInt8) : (bs l).data.toList = l := rfl
theorem bs_size (l : List UInt8) : (bs l).size = l.length := rfl
theorem extract_take (s : ByteArray) (n : Nat) : s.extract 0 n = bs (s.data.toList.take n) := by rw [← bs_list (s.extract 0 n), extract_data]; rfl
theorem extract_drop' (s : ByteArray) (n : Nat) : s.extract n s.size = bs (s.data.toList.drop n) := by rw [← bs_list (s.extract n s.size), extract_to_end]
theorem wrap_down (n : Nat) (hn : n ≤ 4611686018427387903) : wrap64 (((n + 1 : Nat) : Int) - 1) = (n : Int) := by unfold wrap64; omega

theorem is47 {s : ByteArray} {n : Nat} (h : n < s.size) : ((s[n]'h).toNat : Int) = 47 ↔ s.data.toList[n]? = some 47 := by
  rw [data_getElem? s n h]
  constructor
  · intro e; congr 1; exact UInt8.toNat_inj.1 (by show _ = 47; omega)
  · intro e; rw [Option.some.inj e]; rfl

theorem lastUpto_succ (l : List UInt8) (n : Nat) : lastUpto l (n + 1) = if l[n]? = some 47 then (n : Int) else lastUpto l n := rfl

theorem lastIdx_l0 (s : ByteArray) (hs : s.size ≤ 4611686018427387903) : ∀ (n k : Nat), n ≤ s.size → n < k →
    bytealg_LastIndexByteString.l0 k s 47 ((n : Int) - 1) = some (lastUpto s.data.toList n) := by
  intro n
  induction n with
  | zero =>
    intro k _ hk
    obtain ⟨k, rfl⟩ : ∃ m, k = m + 1 := ⟨k - 1, by omega⟩
    simp only [bytealg_LastIndexByteString.l0]; rw [if_neg (by omega)]; rfl
  | succ n ih =>
    intro k hn hk
    obtain ⟨k, rfl⟩ : ∃ m, k = m + 1 := ⟨k - 1, by omega⟩
    have e : (((n + 1 : Nat) : Int) - 1) = (n : Int) := by omega
    have hw : wrap64 ((n : Int) - 1) = (n : Int) - 1 := by unfold wrap64; omega
    have hlt : n < s.size := by omega
    rw [e]
    simp only [bytealg_LastIndexByteString.l0]
    rw [if_pos (by omega), if_pos (by omega), if_pos (by omega), bt_nat s n hlt, hw, ih k (by omega) (by omega), lastUpto_succ]
    by_cases c : s.data.toList[n]? = some 47
    · rw [if_pos ((is47 hlt).2 c), if_pos c]
    · rw [if_neg (fun h => c ((is47 hlt).1 h)), if_neg c]
theorem lastIdx_f (s : ByteArray) (hs : s.size ≤ 4611686018427387903) : Ev (fun k => strings_LastIndexByte.f k s 47) (lastS s.data.toList) := by
  refine ⟨s.size + 1, fun k hk => ?_⟩
  have hw : wrap64 ((s.size : Int) - 1) = (s.size : Int) - 1 := by unfold wrap64; omega
  unfold strings_LastIndexByte.f bytealg_LastIndexByteString.f
  dsimp only
  rw [hw, lastIdx_l0 s hs s.size k (Nat.le_refl _) (by omega)]
  unfold lastS
  rw [← Lib.size_eq]; rfl
theorem cut_l0 (s : ByteArray) (hs : s.size ≤ 4611686018427387903) : ∀ (n k : Nat), n ≤ s.size → n < k →
    sutlerref14_cut.l0 k s ((n : Int) - 1) = some (lastUpto s.data.toList n) := by
  intro n
  induction n with
  | zero =>
    intro k _ hk
    obtain ⟨k, rfl⟩ : ∃ m, k = m + 1 := ⟨k - 1, by omega⟩
    simp only [sutlerref14_cut.l0]; rw [if_neg (by omega)]; rfl
  | succ n ih =>
    intro k hn hk
    obtain ⟨k, rfl⟩ : ∃ m, k = m + 1 := ⟨k - 1, by omega⟩
    have e : (((n + 1 : Nat) : Int) - 1) = (n : Int) := by omega
    have hw : wrap64 ((n : Int) - 1) = (n : Int) - 1 := by unfold wrap64; omega
    have hlt : n < s.size := by omega
    rw [e]
    simp only [sutlerref14_cut.l0]
    rw [if_pos (by omega), if_pos (by omega), if_pos (by omega), bt_nat s n hlt, hw, ih k (by omega) (by omega), lastUpto_succ]
    by_cases c : s.data.toList[n]? = some 47
    · rw [if_pos ((is47 hlt).2 c), if_pos c]
    · rw [if_neg (fun h => c ((is47 hlt).1 h)), if_neg c]
theorem cut_f (s : ByteArray) (hs : s.size ≤ 4611686018427387903) : Ev (fun k => sutlerref14_cut.f k s) (lastS s.data.toList) := by
  refine ⟨s.size + 1, fun k hk => ?_⟩
  have hw : wrap64 ((s.size : Int) - 1) = (s.size : Int) - 1 := by unfold wrap64; omega
  unfold sutlerref14_cut.f
  dsimp only
  rw [hw, cut_l0 s hs s.size k (Nat.le_refl _) (by omega)]
  unfold lastS
  rw [← Lib.size_eq]

theorem mx_max (a : Int) : mx 0 a = max 0 a := by unfold mx; split <;> omega
theorem lastS_range (s : ByteArray) : -1 ≤ lastS s.data.toList ∧ lastS s.data.toList < s.size := by
  have := lastUpto_range s.data.toList s.data.toList.length
  rw [Lib.size_eq]; exact this

theorem parent_f (s : ByteArray) (hs : s.size ≤ 4611686018427387903) : Ev (fun k => path_Parent.f k s) (bs (parentL s.data.toList)) := by
  unfold path_Parent.f
  have hr := lastS_range s
  refine Ev.bind (lastIdx_f s hs) (Ev.some fun k => ?_)
  rw [mx_max, if_pos (by omega), if_pos (by omega), extract_take]; rfl
theorem rparent_f (s : ByteArray) (hs : s.size ≤ 4611686018427387903) : Ev (fun k => sutlerref14_Parent.f k s) (bs (parentL s.data.toList)) := by
  unfold sutlerref14_Parent.f
  have hr := lastS_range s
  refine Ev.bind (cut_f s hs) (Ev.some fun k => ?_)
  rw [mx_max, if_pos (by omega), if_pos (by omega), extract_take]; rfl
theorem base_f (s : ByteArray) (hs : s.size ≤ 4611686018427387903) : Ev (fun k => path_Base.f k s) (bs (baseL s.data.toList)) := by
  unfold path_Base.f
  have hr := lastS_range s
  have hw : wrap64 (lastS s.data.toList + 1) = lastS s.data.toList + 1 := by unfold wrap64; omega
  refine Ev.bind (lastIdx_f s hs) (Ev.some fun k => ?_)
  rw [hw, if_pos (by omega), if_pos (by omega), extract_drop']; rfl
theorem rbase_f (s : ByteArray) (hs : s.size ≤ 4611686018427387903) : Ev (fun k => sutlerref14_Base.f k s) (bs (baseL s.data.toList)) := by
  unfold sutlerref14_Base.f
  have hr := lastS_range s
  have hw : wrap64 (lastS s.data.toList + 1) = lastS s.data.toList + 1 := by unfold wrap64; omega
  refine Ev.bind (cut_f s hs) (Ev.some fun k => ?_)
  rw [hw, if_pos (by omega), if_pos (by omega), extract_drop']; rfl

theorem bs_append (a b : ByteArray) : a ++ b = bs (a.data.toList ++ b.data.toList) := by
  rw [← bs_list (a ++ b)]; congr 1
theorem size_app (a b : ByteArray) : (a ++ b).size = a.size + b.size := by rw [bs_append, bs_size, List.length_append, ← Lib.size_eq, ← Lib.size_eq]

theorem pjoin_f (a b : ByteArray) (h : a.size + b.size ≤ 4611686018427387903) : path_Join.f a b = some (bs (joinL a.data.toList b.data.toList)) := by
  unfold path_Join.f joinL
  rw [toList_data, toList_data]
  by_cases h1 : a.data.toList = []
  · rw [if_pos h1, if_pos (by omega), if_pos h1, bs_append, h1]; rfl
  · rw [if_neg h1, if_neg h1]
    by_cases h2 : b.data.toList = []
    · rw [if_pos h2, if_pos (by omega), if_pos h2, bs_append, h2, List.append_nil]
    · rw [if_neg h2, if_neg h2, if_pos (by omega), if_pos (by rw [size_app]; have : (⟨#[47]⟩ : ByteArray).size = 1 := rfl; omega), bs_append, bs_append]
      simp [bs_data]
theorem rjoin_f (a b : ByteArray) (h : a.size + b.size ≤ 4611686018427387903) : sutlerref14_Join.f a b = some (bs (joinL a.data.toList b.data.toList)) := by
  unfold sutlerref14_Join.f joinL
  rw [toList_data, toList_data]
  by_cases h1 : a.data.toList = []
  · rw [if_pos h1, if_pos h1]; rfl
  · rw [if_neg h1, if_neg h1]
    by_cases h2 : b.data.toList = []
    · rw [if_pos h2, if_pos h2]; rfl
    · rw [if_neg h2, if_neg h2, if_pos (by omega), if_pos (by rw [size_app]; have : (⟨#[47]⟩ : ByteArray).size = 1 := rfl; omega), bs_append, bs_append]
      simp [bs_data]

theorem runder_f (p d : ByteArray) (h : d.size ≤ 4611686018427387903) : sutlerref14_Under.f p d = some (underL p.data.toList d.data.toList) := by
  unfold sutlerref14_Under.f
  rw [toList_data, toList_data]
  by_cases h1 : d.data.toList = []
  · rw [if_pos h1, h1, under_nil]
  · rw [if_neg h1]
    by_cases h2 : p.data.toList = d.data.toList
    · rw [if_pos h2, h2, under_refl]
    · rw [if_neg h2, if_pos (by omega), begins_f]
      simp only [Option.bind_some]
      congr 1
      rw [bs_append, bs_data, Bool.eq_iff_iff, under_iff]
      unfold hasPrefix
      rw [List.isPrefixOf_iff_prefix]
      constructor
      · rintro ⟨x, hx⟩
        exact .inr (.inr ⟨x, by rw [← hx]; simp⟩)
      · rintro (h | h | ⟨x, h⟩)
        · exact absurd h h1
        · exact absurd h h2
        · exact ⟨x, by rw [h]; simp⟩

theorem idx_none {l : List UInt8} (h : ∀ j, j < l.length → l[j]? ≠ some 47) : indexByte l 47 = -1 := by
  induction l with
  | nil => rfl
  | cons c r ih =>
    have hc : (c == 47) = false := by
      have := h 0 (by simp)
      simpa using this
    have hr := ih (fun j hj => by have := h (j + 1) (by simpa using hj); simpa using this)
    simp [indexByte, hc, hr]
theorem idx_some {l : List UInt8} {n : Nat} (h : ∀ j, j < n → l[j]? ≠ some 47) (hn : l[n]? = some 47) : indexByte l 47 = (n : Int) := by
  induction n generalizing l with
  | zero =>
    cases l with
    | nil => simp at hn
    | cons c r => simp at hn; subst hn; simp [indexByte]
  | succ n ih =>
    cases l with
    | nil => simp at hn
    | cons c r =>
      have hc : (c == 47) = false := by
        have := h 0 (by omega)
        simpa using this
      have hr := ih (l := r) (fun j hj => by have := h (j + 1) (by omega); simpa using this) (by simpa using hn)
      simp only [indexByte, hc, hr]
      rw [if_neg (by simp), if_neg (by simp)]
      omega

/-- ref.All. -/
theorem all_l0 (s : ByteArray) (hs : s.size < 8796093022000) : ∀ (d k o i : Nat) (acc : List ByteArray), s.size - i = d → o ≤ i → i ≤ s.size → acc.length ≤ i → d < k →
    (∀ j, o ≤ j → j < i → s.data.toList[j]? ≠ some 47) →
    ∃ R, sutlerref14_All.l0 k s acc (i : Int) = some R ∧ R.map (·.data.toList) = acc.map (·.data.toList) ++ (spans o (s.data.toList.drop o)).map (fun x => s.data.toList.take x.2) := by
  have hsz := Lib.size_eq s
  intro d
  induction d with
  | zero =>
    intro k o i acc hd ho hi ha hk hno
    obtain ⟨k, rfl⟩ : ∃ m, k = m + 1 := ⟨k - 1, by omega⟩
    obtain rfl : i = s.size := by omega
    simp only [sutlerref14_All.l0]
    rw [if_neg (by omega), if_pos (by omega)]
    refine ⟨_, rfl, ?_⟩
    rw [List.map_append, spans_none]
    · simp only [List.map_cons, List.map_nil]
      congr 2
      rw [List.take_of_length_le (by rw [List.length_drop]; omega)]
    · refine idx_none fun j hj => ?_
      rw [List.getElem?_drop]
      rw [List.length_drop] at hj
      exact hno (o + j) (by omega) (by omega)
  | succ d ih =>
    intro k o i acc hd ho hi ha hk hno
    obtain ⟨k, rfl⟩ : ∃ m, k = m + 1 := ⟨k - 1, by omega⟩
    have hlt : i < s.size := by omega
    simp only [sutlerref14_All.l0]
    rw [if_pos (by omega), if_pos (by omega), bt_nat s i hlt, wrap_up hlt (by omega)]
    by_cases c : s.data.toList[i]? = some 47
    · rw [if_pos ((is47 hlt).2 c), if_pos (by omega), if_pos (by omega)]
      obtain ⟨R, h1, h2⟩ := ih k (i + 1) (i + 1) (acc ++ [s.extract 0 i]) (by omega) (by omega) (by omega) (by simp; omega) (by omega) (by intro j h1 h2; omega)
      refine ⟨R, by simpa using h1, ?_⟩
      have hx : indexByte (s.data.toList.drop o) 47 = ((i - o : Nat) : Int) := by
        refine idx_some (fun j hj => ?_) ?_
        · rw [List.getElem?_drop]; exact hno (o + j) (by omega) (by omega)
        · rw [List.getElem?_drop, show o + (i - o) = i by omega]; exact c
      obtain ⟨_, h3⟩ := spans_some (s.data.toList.drop o) o (i - o) hx
      rw [h2, h3, List.drop_drop, show o + (i - o) + 1 = i + 1 by omega, show o + (i - o + 1) = i + 1 by omega]
      simp only [List.map_append, List.map_cons, List.map_nil, List.append_assoc, List.cons_append, List.nil_append]
      rw [extract_take, bs_data, show o + (i - o) = i by omega]
    · rw [if_neg (fun h => c ((is47 hlt).1 h))]
      refine ih k o (i + 1) acc (by omega) (by omega) (by omega) (by omega) (by omega) ?_
      intro j h1 h2
      by_cases e : j = i
      · subst e; exact c
      · exact hno j h1 (by omega)

theorem rall_f (s : ByteArray) (hs : s.size < 8796093022000) : ∃ R, Ev (fun k => sutlerref14_All.f k s) R ∧ R.map (·.data.toList) = if s.data.toList = [] then [] else (spans 0 s.data.toList).map (fun x => s.data.toList.take x.2) := by
  unfold sutlerref14_All.f
  rw [toList_data]
  by_cases h : s.data.toList = []
  · exact ⟨[], Ev.some fun k => by simp [h], by rw [if_pos h]; rfl⟩
  · obtain ⟨R, h1, h2⟩ := all_l0 s hs s.size (s.size + 1) 0 0 [] (by omega) (by omega) (by omega) (by simp) (by omega) (by intro j h1 h2; omega)
    refine ⟨R, Ev.congr (f := fun k => sutlerref14_All.f k s) (fun k => by unfold sutlerref14_All.f; rw [toList_data]) (Ev.of (sutlerref14_All.mono s) (k := s.size + 1) ?_), by rw [if_neg h]; simpa using h2⟩
    unfold sutlerref14_All.f
    rw [toList_data]
    simp only [Option.bind_some]
    rw [if_neg h]; exact h1

/-- base.SameTexts of two lists that are one. -/
theorem same_l0 (xs : List ByteArray) (hx : xs.length ≤ 4611686018427387903) : ∀ (d k i : Nat), xs.length - i = d → i ≤ xs.length → d < k → sutlerbase_SameTexts.l0 k xs xs (i : Int) = some true := by
  intro d
  induction d with
  | zero =>
    intro k i hd hi hk
    obtain ⟨k, rfl⟩ : ∃ m, k = m + 1 := ⟨k - 1, by omega⟩
    simp only [sutlerbase_SameTexts.l0]; rw [if_neg (by omega)]
  | succ d ih =>
    intro k i hd hi hk
    obtain ⟨k, rfl⟩ : ∃ m, k = m + 1 := ⟨k - 1, by omega⟩
    simp only [sutlerbase_SameTexts.l0]
    rw [if_pos (by omega), if_pos (by omega), if_pos (by omega), if_pos trivial, wrap_up (show i < xs.length by omega) hx, ih k (i + 1) (by omega) (by omega) (by omega)]
theorem same_f (xs : List ByteArray) (hx : xs.length ≤ 4611686018427387903) : Ev (fun k => sutlerbase_SameTexts.f k xs xs) true := by
  refine ⟨xs.length + 1, fun k hk => ?_⟩
  show (if _ then _ else _) = _
  rw [if_pos rfl]
  exact same_l0 xs hx xs.length k 0 (by omega) (by omega) (by omega)
theorem list_eq {xs ys : List ByteArray} (h : xs.map (·.data.toList) = ys.map (·.data.toList)) : xs = ys := by
  have : ∀ (a b : ByteArray), a.data.toList = b.data.toList → a = b := fun a b e => by rw [← bs_list a, ← bs_list b, e]
  exact (List.map_inj_right this).1 h
end Go.Proofs.Ytboefcnghngoaaa
