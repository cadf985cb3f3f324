/- The disk as plain lists: each sector's values since the last sync. No program. -/
import Derived.Below
namespace Go.Proofs.Ytoojcgmdcbcenaa
set_option linter.unusedVariables false
set_option linter.unusedSimpArgs false

abbrev Sec := List Int
def SecOk (s : Sec) : Prop := s.length = 256 ∧ ∀ b ∈ s, 0 ≤ b ∧ b ≤ 255
structure Dsk where
  vals : List (List Sec)
  left : Int
  off : Bool
  taken : Nat
structure Dsk.Ok (d : Dsk) : Prop where
  n1 : 1 ≤ d.vals.length
  n2 : d.vals.length ≤ 4096
  ne : ∀ l ∈ d.vals, l ≠ []
  sec : ∀ l ∈ d.vals, ∀ s ∈ l, SecOk s
  left1 : -1 ≤ d.left
  left2 : d.left ≤ 9223372036854775807
  many : ∀ l ∈ d.vals, l.length ≤ d.taken + 1

def lastOf (l : List Sec) : Sec := l.getLastD []
def headOf (l : List Sec) : Sec := l.headD []
namespace Dsk
def size (d : Dsk) : Nat := d.vals.length
/-- One operation; false: the power is gone. -/
def take (d : Dsk) : Bool × Dsk := if d.off = true ∨ d.left = 0 then (false, { d with off := true }) else (true, { d with left := max (-1) (d.left - 1), taken := d.taken + 1 })
def put (d : Dsk) (i : Nat) (b : Sec) : Dsk := { d with vals := d.vals.modify i (· ++ [b]) }
def write (d : Dsk) (i : Int) (b : Sec) : Int × Dsk :=
  if i < 0 ∨ (d.vals.length : Int) ≤ i then (2, d) else if b.length ≠ 256 then (2, d) else
  if d.take.1 = true then (0, d.take.2.put i.toNat b) else (10, d.take.2)
def settled (d : Dsk) : Dsk := { d with vals := d.vals.map fun l => [lastOf l] }
def sync (d : Dsk) : Int × Dsk := if d.take.1 = true then (0, d.take.2.settled) else (10, d.take.2)
def read (d : Dsk) (i : Int) : Sec × Int :=
  if i < 0 ∨ (d.vals.length : Int) ≤ i then ([], 2) else if d.off = true then ([], 10) else (lastOf (d.vals.getD i.toNat []), 0)
def limit (d : Dsk) (n : Int) : Dsk := { d with left := max (-1) n }
def pick (picks : List Int) (j n : Nat) : Nat := if j < picks.length then ((picks.getD j 0 % 18446744073709551616) % (n : Int)).toNat else 0
def crashed (picks : List Int) : Nat → List (List Sec) → List (List Sec)
  | _, [] => []
  | j, l :: r => if l.length < 2 then l :: crashed picks j r else [l.getD (pick picks j l.length) []] :: crashed picks (j + 1) r
def crash (d : Dsk) (picks : List Int) : Dsk := { d with vals := crashed picks 0 d.vals, off := false, left := -1 }
def pending (d : Dsk) : Nat := (d.vals.filter fun l => decide (1 < l.length)).length
def image (d : Dsk) : List Int := d.vals.flatMap lastOf
def sure (d : Dsk) : List Int := d.vals.flatMap headOf
end Dsk
def zeroSec : Sec := List.replicate 256 0
theorem zeroSec_ok : SecOk zeroSec := ⟨List.length_replicate, fun b hb => by have := (List.mem_replicate.1 hb).2; omega⟩
/-- A new disk. -/
def newD (n : Nat) : Dsk := ⟨List.replicate n [zeroSec], -1, false, 0⟩
/-- A disk of an image. -/
def loadD (b : List Int) : Dsk := ⟨(List.range (b.length / 256)).map fun i => [(b.drop (i * 256)).take 256], -1, false, 0⟩

theorem lastOf_mem {l : List Sec} (h : l ≠ []) : lastOf l ∈ l := by
  cases l with
  | nil => exact absurd rfl h
  | cons a r => simp only [lastOf, List.getLastD_cons]; rw [← List.getLast_eq_getLastD (by simp)]; exact List.getLast_mem _
theorem headOf_mem {l : List Sec} (h : l ≠ []) : headOf l ∈ l := by
  cases l with
  | nil => exact absurd rfl h
  | cons a r => simp [headOf]
theorem pick_lt (picks : List Int) (j n : Nat) (h : 0 < n) : Dsk.pick picks j n < n := by
  unfold Dsk.pick
  split
  · have h1 := Int.emod_lt_of_pos (picks.getD j 0 % 18446744073709551616) (show (0 : Int) < n by omega)
    have h2 := Int.emod_nonneg (picks.getD j 0 % 18446744073709551616) (show (n : Int) ≠ 0 by omega)
    omega
  · exact h
theorem crashed_length (picks : List Int) : ∀ (l : List (List Sec)) (j : Nat), (Dsk.crashed picks j l).length = l.length
  | [], j => rfl
  | l :: r, j => by
    unfold Dsk.crashed
    split <;> simp [crashed_length picks r]
theorem crashed_all {picks : List Int} {p : List Sec → Prop} (h1 : ∀ l : List Sec, l ≠ [] → p l → ∀ k, k < l.length → p [l.getD k []]) : ∀ (l : List (List Sec)) (j : Nat), (∀ x ∈ l, x ≠ [] ∧ p x) → ∀ x ∈ Dsk.crashed picks j l, x ≠ [] ∧ p x
  | [], j, _ => fun x hx => by cases hx
  | l :: r, j, h => by
    unfold Dsk.crashed
    intro x hx
    split at hx
    · rcases List.mem_cons.1 hx with rfl | hx
      · exact h _ (by simp)
      · exact crashed_all h1 r j (fun y hy => h y (by simp [hy])) x hx
    · rename_i hl
      rcases List.mem_cons.1 hx with rfl | hx
      · exact ⟨by simp, h1 l (h l (by simp)).1 (h l (by simp)).2 _ (pick_lt _ _ _ (by omega))⟩
      · exact crashed_all h1 r (j + 1) (fun y hy => h y (by simp [hy])) x hx

namespace Dsk.Ok
variable {d : Dsk}
theorem take (h : d.Ok) : d.take.2.Ok := by
  unfold Dsk.take
  split
  · exact ⟨h.n1, h.n2, h.ne, h.sec, h.left1, h.left2, h.many⟩
  · have := h.left1; have := h.left2
    exact ⟨h.n1, h.n2, h.ne, h.sec, by simp only; omega, by simp only; omega, fun l hl => by have := h.many l hl; simp only; omega⟩
theorem put (h : d.Ok) {b : Sec} (hb : SecOk b) (ht : ∀ l ∈ d.vals, l.length ≤ d.taken) (i : Nat) : (d.put i b).Ok := by
  have hm : ∀ l ∈ (d.put i b).vals, l ∈ d.vals ∨ ∃ m ∈ d.vals, l = m ++ [b] := by
    intro l hl
    obtain ⟨k, hk, rfl⟩ := List.mem_iff_getElem.1 hl
    have hk' : k < d.vals.length := by simpa [Dsk.put] using hk
    simp only [Dsk.put, List.getElem_modify]
    split
    · exact .inr ⟨_, List.getElem_mem hk', rfl⟩
    · exact .inl (List.getElem_mem hk')
  refine ⟨by simpa [Dsk.put] using h.n1, by simpa [Dsk.put] using h.n2, fun l hl => ?_, fun l hl s hs => ?_, h.left1, h.left2, fun l hl => ?_⟩
  · rcases hm l hl with hl | ⟨m, _, rfl⟩
    · exact h.ne l hl
    · simp
  · rcases hm l hl with hl | ⟨m, hm, rfl⟩
    · exact h.sec l hl s hs
    · rcases List.mem_append.1 hs with hs | hs
      · exact h.sec m hm s hs
      · rw [List.mem_singleton.1 hs]; exact hb
  · rcases hm l hl with hl | ⟨m, hm, rfl⟩
    · exact h.many l hl
    · rw [List.length_append, List.length_singleton]; have := ht m hm; simp only [Dsk.put]; omega
theorem settled (h : d.Ok) : d.settled.Ok := by
  refine ⟨by simpa [Dsk.settled] using h.n1, by simpa [Dsk.settled] using h.n2, fun l hl => ?_, fun l hl s hs => ?_, h.left1, h.left2, fun l hl => ?_⟩ <;> (simp only [Dsk.settled, List.mem_map] at hl; obtain ⟨m, hm, rfl⟩ := hl)
  · simp
  · rw [List.mem_singleton.1 hs]; exact h.sec m hm _ (lastOf_mem (h.ne m hm))
  · simp
theorem limit (h : d.Ok) {n : Int} (hn : n ≤ 9223372036854775807) : (d.limit n).Ok := ⟨h.n1, h.n2, h.ne, h.sec, by simp only [Dsk.limit]; omega, by simp only [Dsk.limit]; omega, h.many⟩
theorem crash (h : d.Ok) (picks : List Int) : (d.crash picks).Ok := by
  have H := crashed_all (picks := picks) (p := fun l => (∀ s ∈ l, SecOk s) ∧ l.length ≤ d.taken + 1) (fun l _ hl k hk => ⟨fun s hs => by
    rw [List.mem_singleton.1 hs, List.getD_eq_getElem?_getD, List.getElem?_eq_getElem hk]; exact hl.1 _ (List.getElem_mem hk), by simp⟩) d.vals 0 (fun x hx => ⟨h.ne x hx, h.sec x hx, h.many x hx⟩)
  refine ⟨?_, ?_, fun l hl => (H l hl).1, fun l hl => (H l hl).2.1, by simp [Dsk.crash], by simp [Dsk.crash], fun l hl => (H l hl).2.2⟩
  · simpa [Dsk.crash, crashed_length] using h.n1
  · simpa [Dsk.crash, crashed_length] using h.n2
theorem write (h : d.Ok) {b : Sec} (hb : ∀ x ∈ b, 0 ≤ x ∧ x ≤ 255) (i : Int) : (d.write i b).2.Ok := by
  unfold Dsk.write
  split
  · exact h
  · split
    · exact h
    · rename_i h1 h2
      split
      · rename_i h3
        refine h.take.put ⟨by simpa using h2, hb⟩ (fun l hl => ?_) _
        unfold Dsk.take at h3 hl ⊢
        split at h3
        · cases h3
        · rename_i h4
          rw [if_neg h4] at hl ⊢
          exact h.many l hl
      · exact h.take
theorem sync (h : d.Ok) : d.sync.2.Ok := by
  unfold Dsk.sync
  split
  · exact h.take.settled
  · exact h.take
end Dsk.Ok
theorem newD_ok {n : Nat} (h1 : 1 ≤ n) (h2 : n ≤ 4096) : (newD n).Ok := by
  refine ⟨by simpa [newD] using h1, by simpa [newD] using h2, fun l hl => ?_, fun l hl s hs => ?_, by simp [newD], by simp [newD], fun l hl => ?_⟩ <;> (obtain rfl := (List.mem_replicate.1 hl).2)
  · simp
  · rw [List.mem_singleton.1 hs]
    exact zeroSec_ok
  · simp
theorem loadD_ok {b : List Int} (h0 : b.length % 256 = 0) (h1 : 1 ≤ b.length / 256) (h2 : b.length / 256 ≤ 4096) (hb : ∀ x ∈ b, 0 ≤ x ∧ x ≤ 255) : (loadD b).Ok := by
  refine ⟨by simpa [loadD] using h1, by simpa [loadD] using h2, fun l hl => ?_, fun l hl s hs => ?_, by simp [loadD], by simp [loadD], fun l hl => ?_⟩ <;> (simp only [loadD, List.mem_map, List.mem_range] at hl; obtain ⟨k, hk, rfl⟩ := hl)
  · simp
  · rw [List.mem_singleton.1 hs]
    refine ⟨by simp; omega, fun x hx => hb x (List.mem_of_mem_drop (List.mem_of_mem_take hx))⟩
  · simp
/-- How many values there are beside the sure ones. -/
def Dsk.extra (d : Dsk) : Nat := (d.vals.map fun l => l.length - 1).sum
theorem extra_mod (b : Sec) : ∀ (vals : List (List Sec)) (i : Nat), i < vals.length → (∀ l ∈ vals, l ≠ []) → ((vals.modify i (· ++ [b])).map fun l => l.length - 1).sum = (vals.map fun l => l.length - 1).sum + 1
  | [], i, h, _ => absurd h (by simp)
  | a :: r, 0, _, h => by
    have := List.length_pos_iff.2 (h a (by simp))
    simp only [List.modify_zero_cons, List.map_cons, List.sum_cons, List.length_append, List.length_singleton]; omega
  | a :: r, i + 1, hi, h => by
    have := extra_mod b r i (by simpa using hi) (fun l hl => h l (by simp [hl]))
    simp only [List.modify_succ_cons, List.map_cons, List.sum_cons, this]; omega
theorem sum_le {c : Nat} : ∀ (vals : List (List Sec)), (∀ l ∈ vals, l.length - 1 ≤ c) → (vals.map fun l => l.length - 1).sum ≤ vals.length * c
  | [], _ => by simp
  | a :: r, h => by
    have h1 := h a (by simp)
    have h2 := sum_le r (fun l hl => h l (by simp [hl]))
    simp only [List.map_cons, List.sum_cons, List.length_cons, Nat.succ_mul]
    omega
theorem Dsk.Ok.extra_le {d : Dsk} (h : d.Ok) : d.extra ≤ 4096 * d.taken := by
  have := sum_le (c := d.taken) d.vals (fun l hl => by have := h.many l hl; omega)
  exact Nat.le_trans this (Nat.mul_le_mul_right _ h.n2)
end Go.Proofs.Ytoojcgmdcbcenaa
