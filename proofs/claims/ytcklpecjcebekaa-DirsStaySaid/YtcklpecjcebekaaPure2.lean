/- Adding to, and removing from, a directory makes one: plain Lean. -/
import Derived.Test.YtcklpecjcebekaaHAdd
import Derived.Test.YtcklpecjcebekaaHRemove
import Derived.Test.YtcklpecjcebekaaHPrint
namespace Go.Proofs.Ytcklpecjcebekaa.PAll
open Go.RowKit Go.Lib Go.Proofs.Ytcklpecjcebekaa Go.Proofs.Ytcklpecjcebekaa.Sp

theorem less_trans {a b c : List UInt8} (h : Op.bytesLess a b = true) (k : Op.bytesLess b c = true) : Op.bytesLess a c = true := by
  rw [less_iff, decide_eq_true_eq] at *
  exact List.lt_trans h k
theorem less_irrefl (a : List UInt8) : Op.bytesLess a a = false := by
  rw [less_iff, decide_eq_false_iff_not]; exact List.lt_irrefl a
theorem less_or {a b : List UInt8} (h : Op.bytesLess a b = false) (hne : b ≠ a) : Op.bytesLess b a = true := by
  have := leq_swap b a
  rw [h] at this
  simpa [hne] using this

theorem idxL_cons (p : S37 → Bool) (x : S37) (r : List S37) : idxL p (x :: r) = if p x then 0 else if idxL p r < 0 then -1 else idxL p r + 1 := by
  unfold idxL
  rw [List.findIdx?_cons]
  cases p x with
  | true => rfl
  | false =>
    cases h : r.findIdx? p with
    | none => simp
    | some i => simp; omega
theorem slot_cons (x : S37) (r : List S37) (s : ByteArray) : slot (x :: r) s = if Op.bytesLess s.toList x.f0.toList then 0 else slot r s + 1 := by
  unfold slot
  dsimp only
  rw [idxL_cons]
  have hr := idxL_range (fun x => Op.bytesLess s.toList x.f0.toList) r
  by_cases h : Op.bytesLess s.toList x.f0.toList = true
  · rw [if_pos h, if_pos h, if_neg (by omega)]; rfl
  · rw [if_neg h, if_neg h]
    by_cases h2 : idxL (fun x => Op.bytesLess s.toList x.f0.toList) r < 0
    · rw [if_pos h2, if_pos h2, if_pos (by omega), List.length_cons]
    · rw [if_neg h2, if_neg h2, if_neg (by omega)]; omega
def ins (l : List S37) (s : ByteArray) (n : Int) : List S37 := l.take (slot l s) ++ ⟨s, n⟩ :: l.drop (slot l s)
theorem ins_cons (x : S37) (r : List S37) (s : ByteArray) (n : Int) : ins (x :: r) s n = if Op.bytesLess s.toList x.f0.toList then ⟨s, n⟩ :: x :: r else x :: ins r s n := by
  unfold ins
  rw [slot_cons]
  split <;> simp
theorem ins_length (l : List S37) (s : ByteArray) (n : Int) : (ins l s n).length = l.length + 1 := by
  unfold ins; have := slot_le l s; simp; omega
theorem ins_right : ∀ {l : List S37} {last : List UInt8} {s : ByteArray} {n : Int}, rightFrom last l = true → Op.bytesLess last s.toList = true → isName s.data.toList = true → okInode n = true → (∀ x ∈ l, x.f0.toList ≠ s.toList) → rightFrom last (ins l s n) = true
  | [], last, s, n, _, h1, h2, h3, _ => by
    show rightFrom last [⟨s, n⟩] = true
    simp [rightFrom, h1, h2, h3]
  | x :: r, last, s, n, h, h1, h2, h3, hne => by
    rw [ins_cons]
    simp only [rightFrom, Bool.and_eq_true] at h
    split
    · rename_i hs
      simp [rightFrom, h1, h2, h3, hs, h.1.1.1, h.1.1.2, h.2]
    · rename_i hs
      have hs' : Op.bytesLess s.toList x.f0.toList = false := by simpa using hs
      have hx := less_or hs' (hne x (by simp))
      have ih := ins_right (l := r) (n := n) h.2 hx h2 h3 (fun y hy => hne y (by simp [hy]))
      simp [rightFrom, h.1.1.1, h.1.1.2, h.1.2, ih]
theorem right_weaken {r : List S37} {a b : List UInt8} (h : rightFrom b r = true) (k : Op.bytesLess a b = true) : rightFrom a r = true := by
  cases r with
  | nil => rfl
  | cons y t =>
    simp only [rightFrom, Bool.and_eq_true] at h ⊢
    exact ⟨⟨h.1.1, less_trans k h.1.2⟩, h.2⟩
theorem cut_right : ∀ {l : List S37} {last : List UInt8} (k : Nat), rightFrom last l = true → rightFrom last (l.take k ++ l.drop (k + 1)) = true
  | [], last, k, h => by simpa using h
  | x :: r, last, 0, h => by
    simp only [rightFrom, Bool.and_eq_true] at h
    simpa using right_weaken h.2 h.1.2
  | x :: r, last, k + 1, h => by
    simp only [rightFrom, Bool.and_eq_true] at h
    have ih := cut_right k h.2
    simp [rightFrom, h.1.1.1, h.1.1.2, h.1.2, ih]
end Go.Proofs.Ytcklpecjcebekaa.PAll
