/- Texts of this claim, one behind the other: Dk, Wp, Wq, Wr, Ws, Wt, Wu, Wv. -/
import Derived.Below
section
/- The disk as plain lists: each sector's values since the last sync. No program. -/
namespace Go.Proofs.YtfhdiddlloiglaaDoor
set_option linter.unusedVariables false
set_option linter.unusedSimpArgs false

abbrev Sec := List Int
def SecOk (s : Sec) : Prop := s.length = 256 ∧ ∀ b ∈ s, 0 ≤ b ∧ b ≤ 255
structure Dsk where
  vals : List (List Sec)
  left : Int
  off : Bool
  taken : Nat
structure Dsk.Ok (d : Dsk) : Prop where
  n1 : 1 ≤ d.vals.length
  n2 : d.vals.length ≤ 4096
  ne : ∀ l ∈ d.vals, l ≠ []
  sec : ∀ l ∈ d.vals, ∀ s ∈ l, SecOk s
  left1 : -1 ≤ d.left
  left2 : d.left ≤ 9223372036854775807
  many : ∀ l ∈ d.vals, l.length ≤ d.taken + 1

def lastOf (l : List Sec) : Sec := l.getLastD []
def headOf (l : List Sec) : Sec := l.headD []
namespace Dsk
def size (d : Dsk) : Nat := d.vals.length
/-- One operation; false: the power is gone. -/
def take (d : Dsk) : Bool × Dsk := if d.off = true ∨ d.left = 0 then (false, { d with off := true }) else (true, { d with left := max (-1) (d.left - 1), taken := d.taken + 1 })
def put (d : Dsk) (i : Nat) (b : Sec) : Dsk := { d with vals := d.vals.modify i (· ++ [b]) }
def write (d : Dsk) (i : Int) (b : Sec) : Int × Dsk :=
  if i < 0 ∨ (d.vals.length : Int) ≤ i then (2, d) else if b.length ≠ 256 then (2, d) else
  if d.take.1 = true then (0, d.take.2.put i.toNat b) else (10, d.take.2)
def settled (d : Dsk) : Dsk := { d with vals := d.vals.map fun l => [lastOf l] }
def sync (d : Dsk) : Int × Dsk := if d.take.1 = true then (0, d.take.2.settled) else (10, d.take.2)
def read (d : Dsk) (i : Int) : Sec × Int :=
  if i < 0 ∨ (d.vals.length : Int) ≤ i then ([], 2) else if d.off = true then ([], 10) else (lastOf (d.vals.getD i.toNat []), 0)
def limit (d : Dsk) (n : Int) : Dsk := { d with left := max (-1) n }
def pick (picks : List Int) (j n : Nat) : Nat := if j < picks.length then ((picks.getD j 0 % 18446744073709551616) % (n : Int)).toNat else 0
def crashed (picks : List Int) : Nat → List (List Sec) → List (List Sec)
  | _, [] => []
  | j, l :: r => if l.length < 2 then l :: crashed picks j r else [l.getD (pick picks j l.length) []] :: crashed picks (j + 1) r
def crash (d : Dsk) (picks : List Int) : Dsk := { d with vals := crashed picks 0 d.vals, off := false, left := -1 }
def pending (d : Dsk) : Nat := (d.vals.filter fun l => decide (1 < l.length)).length
def image (d : Dsk) : List Int := d.vals.flatMap lastOf
def sure (d : Dsk) : List Int := d.vals.flatMap headOf
end Dsk
def zeroSec : Sec := List.replicate 256 0
theorem zeroSec_ok : SecOk zeroSec := ⟨List.length_replicate, fun b hb => by have := (List.mem_replicate.1 hb).2; omega⟩
/-- A new disk. -/
def newD (n : Nat) : Dsk := ⟨List.replicate n [zeroSec], -1, false, 0⟩
/-- A disk of an image. -/
def loadD (b : List Int) : Dsk := ⟨(List.range (b.length / 256)).map fun i => [(b.drop (i * 256)).take 256], -1, false, 0⟩

theorem lastOf_mem {l : List Sec} (h : l ≠ []) : lastOf l ∈ l := by
  cases l with
  | nil => exact absurd rfl h
  | cons a r => simp only [lastOf, List.getLastD_cons]; rw [← List.getLast_eq_getLastD (by simp)]; exact List.getLast_mem _
theorem headOf_mem {l : List Sec} (h : l ≠ []) : headOf l ∈ l := by
  cases l with
  | nil => exact absurd rfl h
  | cons a r => simp [headOf]
theorem pick_lt (picks : List Int) (j n : Nat) (h : 0 < n) : Dsk.pick picks j n < n := by
  unfold Dsk.pick
  split
  · have h1 := Int.emod_lt_of_pos (picks.getD j 0 % 18446744073709551616) (show (0 : Int) < n by omega)
    have h2 := Int.emod_nonneg (picks.getD j 0 % 18446744073709551616) (show (n : Int) ≠ 0 by omega)
    omega
  · exact h
theorem crashed_length (picks : List Int) : ∀ (l : List (List Sec)) (j : Nat), (Dsk.crashed picks j l).length = l.length
  | [], j => rfl
  | l :: r, j => by
    unfold Dsk.crashed
    split <;> simp [crashed_length picks r]
theorem crashed_all {picks : List Int} {p : List Sec → Prop} (h1 : ∀ l : List Sec, l ≠ [] → p l → ∀ k, k < l.length → p [l.getD k []]) : ∀ (l : List (List Sec)) (j : Nat), (∀ x ∈ l, x ≠ [] ∧ p x) → ∀ x ∈ Dsk.crashed picks j l, x ≠ [] ∧ p x
  | [], j, _ => fun x hx => by cases hx
  | l :: r, j, h => by
    unfold Dsk.crashed
    intro x hx
    split at hx
    · rcases List.mem_cons.1 hx with rfl | hx
      · exact h _ (by simp)
      · exact crashed_all h1 r j (fun y hy => h y (by simp [hy])) x hx
    · rename_i hl
      rcases List.mem_cons.1 hx with rfl | hx
      · exact ⟨by simp, h1 l (h l (by simp)).1 (h l (by simp)).2 _ (pick_lt _ _ _ (by omega))⟩
      · exact crashed_all h1 r (j + 1) (fun y hy => h y (by simp [hy])) x hx

namespace Dsk.Ok
variable {d : Dsk}
theorem take (h : d.Ok) : d.take.2.Ok := by
  unfold Dsk.take
  split
  · exact ⟨h.n1, h.n2, h.ne, h.sec, h.left1, h.left2, h.many⟩
  · have := h.left1; have := h.left2
    exact ⟨h.n1, h.n2, h.ne, h.sec, by simp only; omega, by simp only; omega, fun l hl => by have := h.many l hl; simp only; omega⟩
theorem put (h : d.Ok) {b : Sec} (hb : SecOk b) (ht : ∀ l ∈ d.vals, l.length ≤ d.taken) (i : Nat) : (d.put i b).Ok := by
  have hm : ∀ l ∈ (d.put i b).vals, l ∈ d.vals ∨ ∃ m ∈ d.vals, l = m ++ [b] := by
    intro l hl
    obtain ⟨k, hk, rfl⟩ := List.mem_iff_getElem.1 hl
    have hk' : k < d.vals.length := by simpa [Dsk.put] using hk
    simp only [Dsk.put, List.getElem_modify]
    split
    · exact .inr ⟨_, List.getElem_mem hk', rfl⟩
    · exact .inl (List.getElem_mem hk')
  refine ⟨by simpa [Dsk.put] using h.n1, by simpa [Dsk.put] using h.n2, fun l hl => ?_, fun l hl s hs => ?_, h.left1, h.left2, fun l hl => ?_⟩
  · rcases hm l hl with hl | ⟨m, _, rfl⟩
    · exact h.ne l hl
    · simp
  · rcases hm l hl with hl | ⟨m, hm, rfl⟩
    · exact h.sec l hl s hs
    · rcases List.mem_append.1 hs with hs | hs
      · exact h.sec m hm s hs
      · rw [List.mem_singleton.1 hs]; exact hb
  · rcases hm l hl with hl | ⟨m, hm, rfl⟩
    · exact h.many l hl
    · rw [List.length_append, List.length_singleton]; have := ht m hm; simp only [Dsk.put]; omega
theorem settled (h : d.Ok) : d.settled.Ok := by
  refine ⟨by simpa [Dsk.settled] using h.n1, by simpa [Dsk.settled] using h.n2, fun l hl => ?_, fun l hl s hs => ?_, h.left1, h.left2, fun l hl => ?_⟩ <;> (simp only [Dsk.settled, List.mem_map] at hl; obtain ⟨m, hm, rfl⟩ := hl)
  · simp
  · rw [List.mem_singleton.1 hs]; exact h.sec m hm _ (lastOf_mem (h.ne m hm))
  · simp
theorem limit (h : d.Ok) {n : Int} (hn : n ≤ 9223372036854775807) : (d.limit n).Ok := ⟨h.n1, h.n2, h.ne, h.sec, by simp only [Dsk.limit]; omega, by simp only [Dsk.limit]; omega, h.many⟩
theorem crash (h : d.Ok) (picks : List Int) : (d.crash picks).Ok := by
  have H := crashed_all (picks := picks) (p := fun l => (∀ s ∈ l, SecOk s) ∧ l.length ≤ d.taken + 1) (fun l _ hl k hk => ⟨fun s hs => by
    rw [List.mem_singleton.1 hs, List.getD_eq_getElem?_getD, List.getElem?_eq_getElem hk]; exact hl.1 _ (List.getElem_mem hk), by simp⟩) d.vals 0 (fun x hx => ⟨h.ne x hx, h.sec x hx, h.many x hx⟩)
  refine ⟨?_, ?_, fun l hl => (H l hl).1, fun l hl => (H l hl).2.1, by simp [Dsk.crash], by simp [Dsk.crash], fun l hl => (H l hl).2.2⟩
  · simpa [Dsk.crash, crashed_length] using h.n1
  · simpa [Dsk.crash, crashed_length] using h.n2
theorem write (h : d.Ok) {b : Sec} (hb : ∀ x ∈ b, 0 ≤ x ∧ x ≤ 255) (i : Int) : (d.write i b).2.Ok := by
  unfold Dsk.write
  split
  · exact h
  · split
    · exact h
    · rename_i h1 h2
      split
      · rename_i h3
        refine h.take.put ⟨by simpa using h2, hb⟩ (fun l hl => ?_) _
        unfold Dsk.take at h3 hl ⊢
        split at h3
        · cases h3
        · rename_i h4
          rw [if_neg h4] at hl ⊢
          exact h.many l hl
      · exact h.take
theorem sync (h : d.Ok) : d.sync.2.Ok := by
  unfold Dsk.sync
  split
  · exact h.take.settled
  · exact h.take
end Dsk.Ok
theorem newD_ok {n : Nat} (h1 : 1 ≤ n) (h2 : n ≤ 4096) : (newD n).Ok := by
  refine ⟨by simpa [newD] using h1, by simpa [newD] using h2, fun l hl => ?_, fun l hl s hs => ?_, by simp [newD], by simp [newD], fun l hl => ?_⟩ <;> (obtain rfl := (List.mem_replicate.1 hl).2)
  · simp
  · rw [List.mem_singleton.1 hs]
    exact zeroSec_ok
  · simp
theorem loadD_ok {b : List Int} (h0 : b.length % 256 = 0) (h1 : 1 ≤ b.length / 256) (h2 : b.length / 256 ≤ 4096) (hb : ∀ x ∈ b, 0 ≤ x ∧ x ≤ 255) : (loadD b).Ok := by
  refine ⟨by simpa [loadD] using h1, by simpa [loadD] using h2, fun l hl => ?_, fun l hl s hs => ?_, by simp [loadD], by simp [loadD], fun l hl => ?_⟩ <;> (simp only [loadD, List.mem_map, List.mem_range] at hl; obtain ⟨k, hk, rfl⟩ := hl)
  · simp
  · rw [List.mem_singleton.1 hs]
    refine ⟨by simp; omega, fun x hx => hb x (List.mem_of_mem_drop (List.mem_of_mem_take hx))⟩
  · simp
/-- How many values there are beside the sure ones. -/
def Dsk.extra (d : Dsk) : Nat := (d.vals.map fun l => l.length - 1).sum
theorem extra_mod (b : Sec) : ∀ (vals : List (List Sec)) (i : Nat), i < vals.length → (∀ l ∈ vals, l ≠ []) → ((vals.modify i (· ++ [b])).map fun l => l.length - 1).sum = (vals.map fun l => l.length - 1).sum + 1
  | [], i, h, _ => absurd h (by simp)
  | a :: r, 0, _, h => by
    have := List.length_pos_iff.2 (h a (by simp))
    simp only [List.modify_zero_cons, List.map_cons, List.sum_cons, List.length_append, List.length_singleton]; omega
  | a :: r, i + 1, hi, h => by
    have := extra_mod b r i (by simpa using hi) (fun l hl => h l (by simp [hl]))
    simp only [List.modify_succ_cons, List.map_cons, List.sum_cons, this]; omega
theorem sum_le {c : Nat} : ∀ (vals : List (List Sec)), (∀ l ∈ vals, l.length - 1 ≤ c) → (vals.map fun l => l.length - 1).sum ≤ vals.length * c
  | [], _ => by simp
  | a :: r, h => by
    have h1 := h a (by simp)
    have h2 := sum_le r (fun l hl => h l (by simp [hl]))
    simp only [List.map_cons, List.sum_cons, List.length_cons, Nat.succ_mul]
    omega
theorem Dsk.Ok.extra_le {d : Dsk} (h : d.Ok) : d.extra ≤ 4096 * d.taken := by
  have := sum_le (c := d.taken) d.vals (fun l hl => by have := h.many l hl; omega)
  exact Nat.le_trans this (Nat.mul_le_mul_right _ h.n2)
end Go.Proofs.YtfhdiddlloiglaaDoor
end
section
/- The log as plain lists: headers, steps, opening, committing. No program. -/
namespace Go.Proofs.YtfhdiddlloiglaaDoor
set_option linter.unusedVariables false
set_option linter.unusedSimpArgs false

/-- A number's bytes, the low one first. -/
def le : Nat → Int → List Int
  | 0, _ => []
  | k + 1, n => n % 256 :: le k (n / 256)
/-- The number that bytes are. -/
def unle : List Int → Int
  | [] => 0
  | b :: r => b + 256 * unle r
abbrev Bytes (l : List Int) : Prop := ∀ x ∈ l, 0 ≤ x ∧ x ≤ 255
theorem le_len : ∀ (k : Nat) (n : Int), (le k n).length = k
  | 0, _ => rfl
  | k + 1, n => by rw [le, List.length_cons, le_len k]
theorem le_byte : ∀ (k : Nat) (n : Int), Bytes (le k n)
  | 0, _ => fun x h => by simp [le] at h
  | k + 1, n => fun x h => by
    rw [le, List.mem_cons] at h
    rcases h with rfl | h
    · omega
    · exact le_byte k _ x h
theorem unle_le : ∀ (k : Nat) (n : Int), 0 ≤ n → n < 256 ^ k → unle (le k n) = n
  | 0, n, h0, h1 => by simp only [Int.pow_zero] at h1; show (0 : Int) = n; omega
  | k + 1, n, h0, h1 => by
    rw [Int.pow_succ] at h1
    rw [le, unle, unle_le k (n / 256) (by omega) (by omega)]
    omega
theorem unle_nonneg : ∀ {b : List Int}, Bytes b → 0 ≤ unle b
  | [], _ => Int.le_refl 0
  | x :: r, h => by
    have := unle_nonneg (b := r) (fun y hy => h y (by simp [hy]))
    have := h x (by simp)
    show 0 ≤ x + 256 * unle r
    omega
theorem unle_lt : ∀ {b : List Int}, Bytes b → unle b < 256 ^ b.length
  | [], _ => by decide
  | x :: r, h => by
    have := unle_lt (b := r) (fun y hy => h y (by simp [hy]))
    have := h x (by simp)
    show x + 256 * unle r < 256 ^ (r.length + 1)
    rw [Int.pow_succ]
    omega
theorem le_unle : ∀ {b : List Int}, Bytes b → le b.length (unle b) = b
  | [], _ => rfl
  | x :: r, h => by
    have h1 := h x (by simp)
    have h2 := le_unle (b := r) (fun y hy => h y (by simp [hy]))
    show (x + 256 * unle r) % 256 :: le r.length ((x + 256 * unle r) / 256) = x :: r
    have e1 : (x + 256 * unle r) % 256 = x := by omega
    have e2 : (x + 256 * unle r) / 256 = unle r := by omega
    rw [e1, e2, h2]
/-- The number of so many bytes that stands somewhere. -/
def getAt (b : List Int) (i k : Nat) : Int := unle ((b.drop i).take k)
/-- Bytes with a number somewhere. -/
def putAt (b : List Int) (i k : Nat) (n : Int) : List Int := b.take i ++ le k n ++ b.drop (i + k)
theorem putAt_len {b : List Int} {i k : Nat} {n : Int} (h : i + k ≤ b.length) : (putAt b i k n).length = b.length := by
  simp [putAt, le_len]; omega
theorem putAt_byte {b : List Int} {i k : Nat} {n : Int} (h : Bytes b) : Bytes (putAt b i k n) := fun x hx => by
  simp only [putAt, List.mem_append] at hx
  rcases hx with (hx | hx) | hx
  · exact h x (List.mem_of_mem_take hx)
  · exact le_byte _ _ x hx
  · exact h x (List.mem_of_mem_drop hx)
theorem putAt_zeros (A : List Int) {i : Nat} (k m : Nat) (n : Int) (hi : A.length = i) : putAt (A ++ List.replicate (k + m) 0) i k n = A ++ le k n ++ List.replicate m 0 := by
  subst hi
  unfold putAt
  rw [List.take_left', List.drop_append, List.drop_eq_nil_of_le (by omega), List.nil_append]
  · congr 1
    rw [List.drop_replicate]
    congr 1
    omega
  · rfl

/-! ### the checksum -/
def half : List (BitVec 32) := [0x00000000, 0x1db71064, 0x3b6e20c8, 0x26d930ac, 0x76dc4190, 0x6b6b51f4, 0x4db26158, 0x5005713c, 0xedb88320, 0xf00f9344, 0xd6d6a3e8, 0xcb61b38c, 0x9b64c2b0, 0x86d3d2d4, 0xa00ae278, 0xbdbdf21c]
def crcTurn (c : BitVec 32) : BitVec 32 := (c >>> 4) ^^^ half.getD (c &&& 15).toNat 0
def crcStep (c : BitVec 32) (x : Int) : BitVec 32 := crcTurn (crcTurn (c ^^^ BitVec.ofInt 32 x))
def crcMore (s : BitVec 32) (b : List Int) : BitVec 32 := ~~~ (b.foldl crcStep (~~~ s))
theorem crcMore_app (s : BitVec 32) (a b : List Int) : crcMore (crcMore s a) b = crcMore s (a ++ b) := by
  simp [crcMore, List.foldl_append]
def crcI (b : List Int) : Int := (crcMore 0 b).toNat
theorem crcI_nonneg (b : List Int) : 0 ≤ crcI b := Int.natCast_nonneg _
theorem crcI_lt (b : List Int) : crcI b < 4294967296 := by
  unfold crcI
  have := (crcMore 0 b).isLt
  omega

/-! ### headers -/
def slog : List Int := [83, 76, 79, 71]
def hdr0 (turn : Int) (homes : List Int) : List Int := slog ++ le 4 turn ++ le 2 homes.length ++ homes.flatMap (le 2) ++ List.replicate (242 - 2 * homes.length) 0
def lhdr (turn : Int) (homes data : List Int) : Sec := hdr0 turn homes ++ le 4 (crcI (hdr0 turn homes ++ data))
theorem flat2_len : ∀ l : List Int, (l.flatMap (le 2)).length = 2 * l.length
  | [] => rfl
  | a :: r => by rw [List.flatMap_cons, List.length_append, flat2_len r, le_len, List.length_cons]; omega
theorem hdr0_len {turn : Int} {homes : List Int} (h : homes.length ≤ 121) : (hdr0 turn homes).length = 252 := by
  simp only [hdr0, List.length_append, le_len, flat2_len, List.length_replicate, slog, List.length_cons, List.length_nil]
  omega
theorem hdr_len {turn : Int} {homes data : List Int} (h : homes.length ≤ 121) : (lhdr turn homes data).length = 256 := by
  rw [lhdr, List.length_append, hdr0_len h, le_len]
theorem flat2_byte (l : List Int) : Bytes (l.flatMap (le 2)) := fun x hx => by
  obtain ⟨a, _, h⟩ := List.mem_flatMap.1 hx
  exact le_byte _ _ x h
theorem hdr0_byte {turn : Int} {homes : List Int} : Bytes (hdr0 turn homes) := fun x hx => by
  simp only [hdr0, List.mem_append] at hx
  rcases hx with (((hx | hx) | hx) | hx) | hx
  · simp only [slog, List.mem_cons, List.not_mem_nil, or_false] at hx; omega
  · exact le_byte _ _ x hx
  · exact le_byte _ _ x hx
  · exact flat2_byte _ x hx
  · have := (List.mem_replicate.1 hx).2; omega
theorem hdr_ok {turn : Int} {homes data : List Int} (h : homes.length ≤ 121) : SecOk (lhdr turn homes data) := ⟨hdr_len h, fun x hx => by
  rcases List.mem_append.1 hx with hx | hx
  · exact hdr0_byte x hx
  · exact le_byte _ _ x hx⟩
/-- Behind so many homes. -/
def hdrPre (turn : Int) (n : Nat) (homes : List Int) (m : Nat) : List Int := slog ++ le 4 turn ++ le 2 n ++ homes.flatMap (le 2) ++ List.replicate m 0
theorem hdr_b1 {turn : Int} {n : Nat} : putAt (putAt (slog ++ List.replicate 252 0) 4 4 turn) 8 2 (n : Nat) = hdrPre turn n [] 246 := by
  have e1 := putAt_zeros slog (i := 4) 4 248 turn rfl
  have e2 := putAt_zeros (slog ++ le 4 turn) (i := 8) 2 246 n (by simp [slog, le_len])
  have e3 : (4 + 248 : Nat) = 252 := rfl
  have e4 : (2 + 246 : Nat) = 248 := rfl
  rw [e3] at e1
  rw [e4] at e2
  rw [e1, e2]
  simp [hdrPre]
theorem hdr_bs {turn : Int} {n : Nat} {homes : List Int} {h : Int} {i m : Nat} (hi : i = 10 + 2 * homes.length) : putAt (hdrPre turn n homes (2 + m)) i 2 h = hdrPre turn n (homes ++ [h]) m := by
  subst hi
  unfold hdrPre
  rw [putAt_zeros (slog ++ le 4 turn ++ le 2 (n : Int) ++ homes.flatMap (le 2)) 2 m h (by simp only [List.length_append, le_len, flat2_len, slog, List.length_cons, List.length_nil])]
  simp
theorem hdr_be {turn : Int} {homes : List Int} (hn : homes.length ≤ 121) : hdrPre turn homes.length homes (246 - 2 * homes.length) = hdr0 turn homes ++ List.replicate 4 0 := by
  have e : 246 - 2 * homes.length = (242 - 2 * homes.length) + 4 := by omega
  unfold hdrPre hdr0
  rw [e, ← List.replicate_append_replicate]
  simp only [List.append_assoc]
theorem hdr_sum {turn : Int} {homes data : List Int} (hn : homes.length ≤ 121) : putAt (hdr0 turn homes ++ List.replicate 4 0) 252 4 (crcI (hdr0 turn homes ++ data)) = lhdr turn homes data := by
  have := putAt_zeros (hdr0 turn homes) 4 0 (crcI (hdr0 turn homes ++ data)) (hdr0_len hn)
  simpa [lhdr] using this
/-- What a header tells. -/
theorem p4_ : (256 : Int) ^ 4 = 4294967296 := by decide
theorem p2_ : (256 : Int) ^ 2 = 65536 := by decide
theorem hdr_turn {turn : Int} {homes data : List Int} (h0 : 0 ≤ turn) (h1 : turn < 4294967296) : getAt (lhdr turn homes data) 4 4 = turn := by
  have e : lhdr turn homes data = slog ++ (le 4 turn ++ (le 2 homes.length ++ homes.flatMap (le 2) ++ List.replicate (242 - 2 * homes.length) 0 ++ le 4 (crcI (hdr0 turn homes ++ data)))) := by simp [lhdr, hdr0]
  unfold getAt
  rw [e, List.drop_left' (show slog.length = 4 from rfl), List.take_left' (le_len 4 turn), unle_le 4 turn h0 (by rw [p4_]; exact h1)]
theorem hdr_many {turn : Int} {homes data : List Int} (h1 : homes.length < 65536) : getAt (lhdr turn homes data) 8 2 = homes.length := by
  have e : lhdr turn homes data = (slog ++ le 4 turn) ++ (le 2 homes.length ++ (homes.flatMap (le 2) ++ List.replicate (242 - 2 * homes.length) 0 ++ le 4 (crcI (hdr0 turn homes ++ data)))) := by simp [lhdr, hdr0]
  unfold getAt
  rw [e, List.drop_left' (by simp [slog, le_len]), List.take_left' (le_len 2 _), unle_le 2 _ (by omega) (by rw [p2_]; omega)]
theorem flat2_drop : ∀ (l : List Int) (i : Nat), i < l.length → ∀ r : List Int, ((l.flatMap (le 2) ++ r).drop (2 * i)).take 2 = le 2 (l.getD i 0)
  | [], i, h, r => absurd h (by simp)
  | a :: l, 0, h, r => by
    rw [List.flatMap_cons, List.append_assoc]
    show (le 2 a ++ _).take 2 = _
    rw [List.take_left' (le_len 2 a)]
    rfl
  | a :: l, i + 1, h, r => by
    rw [List.flatMap_cons, List.append_assoc, show 2 * (i + 1) = 2 + 2 * i from by omega, ← List.drop_drop, List.drop_left' (le_len 2 a), flat2_drop l i (by simpa using h) r]
    simp
theorem hdr_home {turn : Int} {homes data : List Int} {i : Nat} (hi : i < homes.length) (h : ∀ x ∈ homes, 0 ≤ x ∧ x < 65536) : getAt (lhdr turn homes data) (10 + 2 * i) 2 = homes.getD i 0 := by
  have e : lhdr turn homes data = (slog ++ le 4 turn ++ le 2 homes.length) ++ (homes.flatMap (le 2) ++ (List.replicate (242 - 2 * homes.length) 0 ++ le 4 (crcI (hdr0 turn homes ++ data)))) := by simp [lhdr, hdr0]
  unfold getAt
  rw [e, ← List.drop_drop, List.drop_left' (by simp [slog, le_len]), flat2_drop homes i hi]
  have hm : homes.getD i 0 ∈ homes := by rw [List.getD_eq_getElem?_getD, List.getElem?_eq_getElem hi]; exact List.getElem_mem hi
  exact unle_le 2 _ (h _ hm).1 (by rw [p2_]; exact (h _ hm).2)

/-! ### steps -/
inductive Stp
  | wr (i : Int) (b : Sec)
  | sync
  | turn
/-- Steps are taken, till one is not: the error, whether the turn was turned, the disk. -/
def runD : List Stp → Bool → Dsk → Int × Bool × Dsk
  | [], t, d => (0, t, d)
  | .wr i b :: r, t, d => if (d.write i b).1 = 0 then runD r t (d.write i b).2 else ((d.write i b).1, t, (d.write i b).2)
  | .sync :: r, t, d => if d.sync.1 = 0 then runD r t d.sync.2 else (d.sync.1, t, d.sync.2)
  | .turn :: r, _, d => runD r true d
def emptyS (a turn : Int) : List Stp := [.wr a (lhdr turn [] []), .sync]
def homeS (a turn : Int) (l : List (Int × Sec)) : List Stp := l.map (fun x => .wr x.1 x.2) ++ .sync :: emptyS a turn
/-- The log's data sectors, from one on. -/
def dataS (a : Int) : List (Int × Sec) → List Stp
  | [] => []
  | x :: r => .wr a x.2 :: dataS (a + 1) r
def homesOf (l : List (Int × Sec)) : List Int := l.map Prod.fst
def dataOf (l : List (Int × Sec)) : List Int := l.flatMap Prod.snd
def stepsS (a turn : Int) (l : List (Int × Sec)) : List Stp := dataS (a + 1) l ++ .sync :: .wr a (lhdr turn (homesOf l) (dataOf l)) :: .sync :: .turn :: homeS a turn l
def place (n : Nat) (a c : Int) : Prop := 1 ≤ c ∧ c ≤ 100 ∧ 0 ≤ a ∧ a < (n : Int) - c
instance (n : Nat) (a c : Int) : Decidable (place n a c) := inferInstanceAs (Decidable (_ ∧ _))
/-- What a header's sector tells of homes and data. -/
def entries (d : Dsk) (a : Int) (b : Sec) (n : Nat) : List (Int × Sec) := (List.range n).map fun i => (getAt b (10 + 2 * i) 2, lastOf (d.vals.getD (a + 1 + i).toNat []))
def Rising : List Int → Prop
  | x :: y :: r => x < y ∧ Rising (y :: r)
  | _ => True
instance : ∀ l : List Int, Decidable (Rising l)
  | [] => .isTrue trivial
  | [_] => .isTrue trivial
  | x :: y :: r => @instDecidableAnd _ _ _ (instDecidableRising (y :: r))
structure Lgd where
  turn : Int
  l : List (Int × Sec)
def logged (d : Dsk) (a c : Int) : Int × Lgd :=
  if ¬ place d.vals.length a c then (2, ⟨0, []⟩) else if d.off = true then (10, ⟨0, []⟩) else
    let b := lastOf (d.vals.getD a.toNat [])
    let n := (getAt b 8 2).toNat
    if c < n then (40, ⟨0, []⟩) else
      let l := entries d a b n
      if (∀ x ∈ homesOf l, a + c < x ∧ x < d.vals.length) ∧ Rising (homesOf l) ∧ lhdr (getAt b 4 4) (homesOf l) (dataOf l) = b then (0, ⟨getAt b 4 4, l⟩) else (40, ⟨0, []⟩)
end Go.Proofs.YtfhdiddlloiglaaDoor
end
section
/- The log as plain lists: whatever stops a commit or an opening. No program. -/
namespace Go.Proofs.YtfhdiddlloiglaaDoor
set_option linter.unusedVariables false
set_option linter.unusedSimpArgs false

def openD (d : Dsk) (a c : Int) : Int × Int × Dsk :=
  if (logged d a c).1 ≠ 0 then ((logged d a c).1, 0, d) else if (logged d a c).2.l = [] then (0, (logged d a c).2.turn, d) else
    ((runD (homeS a (logged d a c).2.turn (logged d a c).2.l) false d).1, (logged d a c).2.turn, (runD (homeS a (logged d a c).2.turn (logged d a c).2.l) false d).2.2)
structure Lg where
  a : Int
  c : Int
  turn : Int
  off : Bool
def sortB (l : List (Int × Sec)) : List (Int × Sec) := l.mergeSort fun x y => decide (x.1 ≤ y.1)
def goodB (n : Nat) (g : Lg) (l : List (Int × Sec)) : Prop := (∀ x ∈ l, g.a + g.c < x.1 ∧ x.1 < n) ∧ (homesOf l).Nodup
instance (n : Nat) (g : Lg) (l : List (Int × Sec)) : Decidable (goodB n g l) := inferInstanceAs (Decidable (_ ∧ _))
def nextTurn (t : Int) : Int := (t + 1) % 4294967296
def commitD (g : Lg) (d : Dsk) (l : List (Int × Sec)) : Int × Lg × Dsk :=
  if ¬ goodB d.vals.length g l then (2, g, d) else if g.c < l.length then (4, g, d) else if l = [] then (0, g, d) else if g.off = true then (10, g, d) else
    let r := runD (stepsS g.a (nextTurn g.turn) (sortB l)) false d
    (r.1, { g with turn := if r.2.1 = true then nextTurn g.turn else g.turn, off := decide (r.1 ≠ 0) }, r.2.2)
def formatD (d : Dsk) (a c : Int) : Int × Dsk := if ¬ place d.vals.length a c then (2, d) else let r := runD (emptyS a 0) false d; (r.1, r.2.2)

/-! ### what a run leaves -/
abbrev Vals := List (List Sec)
def stepV : Stp → Vals → Vals
  | .wr i b, V => V.modify i.toNat (· ++ [b])
  | .sync, V => V.map fun l => [lastOf l]
  | .turn, V => V
def endV : List Stp → Vals → Vals
  | [], V => V
  | s :: r, V => endV r (stepV s V)
/-- The values ahead of each step. -/
def traceV : List Stp → Vals → List Vals
  | [], _ => []
  | s :: r, V => V :: traceV r (stepV s V)
theorem endV_app : ∀ (l r : List Stp) (V : Vals), endV (l ++ r) V = endV r (endV l V)
  | [], _, _ => rfl
  | s :: l, r, V => endV_app l r _
theorem traceV_app : ∀ (l r : List Stp) (V : Vals), traceV (l ++ r) V = traceV l V ++ traceV r (endV l V)
  | [], _, _ => rfl
  | s :: l, r, V => by simp [traceV, endV, traceV_app l r]
theorem stepV_len (s : Stp) (V : Vals) : (stepV s V).length = V.length := by cases s <;> simp [stepV]
def Fits (n : Nat) : Stp → Prop
  | .wr i b => 0 ≤ i ∧ i < n ∧ b.length = 256
  | _ => True
theorem take_valsW (d : Dsk) : d.take.2.vals = d.vals := by unfold Dsk.take; split <;> rfl
theorem take_falseW {d : Dsk} (h : d.take.1 = false) : d.take.2.off = true := by unfold Dsk.take at h ⊢; split <;> simp_all
theorem write_fit {d : Dsk} {i : Int} {b : Sec} (h : Fits d.vals.length (.wr i b)) :
    ((d.write i b).1 = 0 ∧ (d.write i b).2 = d.take.2.put i.toNat b ∧ d.take.1 = true) ∨ ((d.write i b).1 = 10 ∧ (d.write i b).2 = d.take.2 ∧ d.take.1 = false) := by
  obtain ⟨h1, h2, h3⟩ := h
  unfold Dsk.write
  rw [if_neg (by omega), if_neg (by omega)]
  cases hb : d.take.1 with
  | true => left; simp
  | false => right; simp
theorem sync_fit (d : Dsk) : (d.sync.1 = 0 ∧ d.sync.2 = d.take.2.settled ∧ d.take.1 = true) ∨ (d.sync.1 = 10 ∧ d.sync.2 = d.take.2 ∧ d.take.1 = false) := by
  unfold Dsk.sync
  cases hb : d.take.1 with
  | true => left; simp
  | false => right; simp
theorem run_trace : ∀ (l : List Stp) (t : Bool) (d : Dsk), (∀ s ∈ l, Fits d.vals.length s) →
    ((runD l t d).1 = 0 ∧ (runD l t d).2.2.vals = endV l d.vals) ∨ ((runD l t d).1 = 10 ∧ (runD l t d).2.2.off = true ∧ (runD l t d).2.2.vals ∈ traceV l d.vals)
  | [], t, d, _ => .inl ⟨rfl, rfl⟩
  | .turn :: r, t, d, h => by
    rcases run_trace r true d (fun s hs => h s (by simp [hs])) with ⟨h1, h2⟩ | ⟨h1, h2, h3⟩
    · exact .inl ⟨h1, h2⟩
    · exact .inr ⟨h1, h2, by simp [traceV, stepV, runD]; exact .inr h3⟩
  | .wr i b :: r, t, d, h => by
    have hf := h _ List.mem_cons_self
    have ev : (d.take.2.put i.toNat b).vals = stepV (.wr i b) d.vals := by simp [Dsk.put, stepV, take_valsW]
    rcases write_fit hf with ⟨e1, e2, e3⟩ | ⟨e1, e2, e3⟩
    · simp only [runD, e1, if_true, e2]
      have hr := run_trace r t (d.take.2.put i.toNat b) (fun s hs => by rw [ev, stepV_len]; exact h s (by simp [hs]))
      rw [ev] at hr
      rcases hr with ⟨h1, h2⟩ | ⟨h1, h2, h3⟩
      · exact .inl ⟨h1, h2⟩
      · exact .inr ⟨h1, h2, by simp [traceV]; exact .inr h3⟩
    · refine .inr ?_
      simp only [runD, e1, e2]
      rw [if_neg (by decide)]
      exact ⟨rfl, take_falseW e3, by simp [traceV, take_valsW]⟩
  | .sync :: r, t, d, h => by
    have ev : d.take.2.settled.vals = stepV .sync d.vals := by simp [Dsk.settled, stepV, take_valsW]
    rcases sync_fit d with ⟨e1, e2, e3⟩ | ⟨e1, e2, e3⟩
    · simp only [runD, e1, if_true, e2]
      have hr := run_trace r t d.take.2.settled (fun s hs => by rw [ev, stepV_len]; exact h s (by simp [hs]))
      rw [ev] at hr
      rcases hr with ⟨h1, h2⟩ | ⟨h1, h2, h3⟩
      · exact .inl ⟨h1, h2⟩
      · exact .inr ⟨h1, h2, by simp [traceV]; exact .inr h3⟩
    · refine .inr ?_
      simp only [runD, e1, e2]
      rw [if_neg (by decide)]
      exact ⟨rfl, take_falseW e3, by simp [traceV, take_valsW]⟩
def stepCost : Stp → Nat
  | .turn => 0
  | _ => 1
/-- A disk without a limit takes all. -/
theorem run_free : ∀ (l : List Stp) (t : Bool) (d : Dsk), (∀ s ∈ l, Fits d.vals.length s) → d.off = false → d.left = -1 →
    (runD l t d).1 = 0 ∧ (runD l t d).2.2.vals = endV l d.vals ∧ (runD l t d).2.2.off = false ∧ (runD l t d).2.2.left = -1 ∧ (runD l t d).2.2.taken = d.taken + (l.map stepCost).sum
  | [], t, d, _, h1, h2 => ⟨rfl, rfl, h1, h2, rfl⟩
  | .turn :: r, t, d, h, h1, h2 => by
    obtain ⟨a1, a2, a3, a4, a5⟩ := run_free r true d (fun s hs => h s (by simp [hs])) h1 h2
    exact ⟨a1, a2, a3, a4, by rw [runD, a5]; simp [stepCost]⟩
  | .wr i b :: r, t, d, h, h1, h2 => by
    have hf := h _ List.mem_cons_self
    have ht : d.take = (true, { d with left := -1, taken := d.taken + 1 }) := by unfold Dsk.take; rw [if_neg (by simp [h1, h2])]; simp only [h2]; rfl
    have ev : (d.take.2.put i.toNat b).vals = stepV (.wr i b) d.vals := by simp [Dsk.put, stepV, take_valsW]
    rcases write_fit hf with ⟨e1, e2, e3⟩ | ⟨e1, e2, e3⟩
    · simp only [runD, e1, if_true, e2]
      obtain ⟨a1, a2, a3, a4, a5⟩ := run_free r t (d.take.2.put i.toNat b) (fun s hs => by rw [ev, stepV_len]; exact h s (by simp [hs])) (by rw [ht]; exact h1) (by rw [ht]; rfl)
      rw [ev] at a2
      refine ⟨a1, a2, a3, a4, ?_⟩
      rw [a5, ht]
      simp [Dsk.put, stepCost]
      omega
    · rw [ht] at e3; cases e3
  | .sync :: r, t, d, h, h1, h2 => by
    have ht : d.take = (true, { d with left := -1, taken := d.taken + 1 }) := by unfold Dsk.take; rw [if_neg (by simp [h1, h2])]; simp only [h2]; rfl
    have ev : d.take.2.settled.vals = stepV .sync d.vals := by simp [Dsk.settled, stepV, take_valsW]
    rcases sync_fit d with ⟨e1, e2, e3⟩ | ⟨e1, e2, e3⟩
    · simp only [runD, e1, if_true, e2]
      obtain ⟨a1, a2, a3, a4, a5⟩ := run_free r t d.take.2.settled (fun s hs => by rw [ev, stepV_len]; exact h s (by simp [hs])) (by rw [ht]; exact h1) (by rw [ht]; rfl)
      rw [ev] at a2
      refine ⟨a1, a2, a3, a4, ?_⟩
      rw [a5, ht]
      simp [Dsk.settled, stepCost]
      omega
    · rw [ht] at e3; cases e3
end Go.Proofs.YtfhdiddlloiglaaDoor
end
section
/- The log as plain lists: the states that a crash leaves. No program. -/
namespace Go.Proofs.YtfhdiddlloiglaaDoor
set_option linter.unusedVariables false
set_option linter.unusedSimpArgs false

/-- Every value of every sector is so. -/
structure Cls (n : Nat) (p : Nat → Sec → Prop) (V : Vals) : Prop where
  len : V.length = n
  ne : ∀ i, i < n → V.getD i [] ≠ []
  all : ∀ i, i < n → ∀ s ∈ V.getD i [], p i s
theorem Cls.imp {n : Nat} {p q : Nat → Sec → Prop} {V : Vals} (h : Cls n p V) (hi : ∀ i, i < n → ∀ s, p i s → q i s) : Cls n q V := ⟨h.len, h.ne, fun i hn s hs => hi i hn s (h.all i hn s hs)⟩
theorem Cls.last {n : Nat} {p : Nat → Sec → Prop} {V : Vals} (h : Cls n p V) {i : Nat} (hi : i < n) : p i (lastOf (V.getD i [])) := h.all i hi _ (lastOf_mem (h.ne i hi))
/-- The latest values are so. -/
def Lst (n : Nat) (q : Nat → Sec → Prop) (V : Vals) : Prop := ∀ i, i < n → q i (lastOf (V.getD i []))
theorem getD_mapW {α β : Type} (f : α → β) (l : List α) (i : Nat) (h : i < l.length) (a : α) (b : β) : (l.map f).getD i b = f (l.getD i a) := by
  rw [List.getD_eq_getElem?_getD, List.getD_eq_getElem?_getD, List.getElem?_map, List.getElem?_eq_getElem h]; rfl
theorem Cls.sync {n : Nat} {p q : Nat → Sec → Prop} {V : Vals} (h : Cls n p V) (hq : Lst n q V) : Cls n q (stepV .sync V) := by
  have hl := h.len
  refine ⟨by simp [stepV, hl], fun i hi => ?_, fun i hi s hs => ?_⟩
  · rw [stepV, getD_mapW _ V i (by omega) []]; simp
  · rw [stepV, getD_mapW _ V i (by omega) []] at hs
    rw [List.mem_singleton.1 hs]; exact hq i hi
theorem Cls.lst {n : Nat} {p : Nat → Sec → Prop} {V : Vals} (h : Cls n p V) : Lst n p V := fun i hi => h.last hi
theorem getD_mod (V : Vals) (j i : Nat) (b : Sec) (hi : i < V.length) : (V.modify j (· ++ [b])).getD i [] = if j = i then V.getD i [] ++ [b] else V.getD i [] := by
  rw [List.getD_eq_getElem?_getD, List.getElem?_modify, List.getD_eq_getElem?_getD, List.getElem?_eq_getElem hi]
  split <;> rfl
theorem lastOf_appW (l : List Sec) (b : Sec) : lastOf (l ++ [b]) = b := by simp [lastOf]
theorem Cls.wr {n : Nat} {p : Nat → Sec → Prop} {V : Vals} (h : Cls n p V) (j : Nat) (b : Sec) : Cls n (fun i s => p i s ∨ (i = j ∧ s = b)) (stepV (.wr (j : Nat) b) V) := by
  have hl := h.len
  refine ⟨by simp [stepV, hl], fun i hi => ?_, fun i hi s hs => ?_⟩
  · rw [stepV, Int.toNat_natCast, getD_mod V j i b (by omega)]
    split
    · simp
    · exact h.ne i hi
  · rw [stepV, Int.toNat_natCast, getD_mod V j i b (by omega)] at hs
    split at hs
    · rename_i e
      rcases List.mem_append.1 hs with hs | hs
      · exact .inl (h.all i hi s hs)
      · exact .inr ⟨e.symm, List.mem_singleton.1 hs⟩
    · exact .inl (h.all i hi s hs)
theorem Lst.wr {n : Nat} {q : Nat → Sec → Prop} {V : Vals} (hl : V.length = n) (h : Lst n q V) (j : Nat) (b : Sec) : Lst n (fun i s => if i = j then s = b else q i s) (stepV (.wr (j : Nat) b) V) := fun i hi => by
  rw [stepV, Int.toNat_natCast, getD_mod V j i b (by omega)]
  by_cases e : j = i
  · rw [if_pos e]; simp only [e, if_true]; exact lastOf_appW _ _
  · rw [if_neg e]; simp only [if_neg (fun h => e h.symm : ¬ i = j)]; exact h i hi
/-- Several writes. -/
def wrs (l : List (Nat × Sec)) : List Stp := l.map fun x => .wr (x.1 : Nat) x.2
theorem wrs_trace {n : Nat} {P : Nat → Sec → Prop} : ∀ (l : List (Nat × Sec)) {V : Vals}, (∀ x ∈ l, P x.1 x.2) → Cls n P V → (∀ U ∈ traceV (wrs l) V, Cls n P U) ∧ Cls n P (endV (wrs l) V)
  | [], V, _, h => ⟨fun U hU => by simp [wrs, traceV] at hU, h⟩
  | x :: r, V, hl, h => by
    have h1 : Cls n P (stepV (.wr (x.1 : Nat) x.2) V) := (h.wr x.1 x.2).imp fun i _ s hs => by
      rcases hs with hs | ⟨rfl, rfl⟩
      · exact hs
      · exact hl x List.mem_cons_self
    obtain ⟨a, b⟩ := wrs_trace r (fun y hy => hl y (by simp [hy])) h1
    refine ⟨fun U hU => ?_, b⟩
    simp only [wrs, List.map_cons, traceV, List.mem_cons] at hU
    rcases hU with rfl | hU
    · exact h
    · exact a U hU
theorem wrs_last {n : Nat} {Q : Nat → Sec → Prop} : ∀ (l : List (Nat × Sec)) {V : Vals}, V.length = n → (l.map Prod.fst).Nodup → (∀ i, i < n → (∀ b, (i, b) ∉ l) → Q i (lastOf (V.getD i []))) → (∀ x ∈ l, Q x.1 x.2) → Lst n Q (endV (wrs l) V)
  | [], V, _, _, h, _ => fun i hi => h i hi (fun b => by simp)
  | x :: r, V, hl, hd, h, hx => by
    have hd := List.nodup_cons.1 hd
    have hl1 : (stepV (.wr (x.1 : Nat) x.2) V).length = n := by rw [stepV_len]; exact hl
    refine wrs_last r hl1 hd.2 (fun i hi hn => ?_) (fun y hy => hx y (by simp [hy]))
    rw [stepV, Int.toNat_natCast, getD_mod V x.1 i x.2 (by omega)]
    by_cases e : x.1 = i
    · rw [if_pos e, lastOf_appW, ← e]; exact hx x List.mem_cons_self
    · rw [if_neg e]
      refine h i hi fun b hb => ?_
      rcases List.mem_cons.1 hb with hb | hb
      · exact e (by rw [← hb])
      · exact hn b hb
theorem crashed_get {picks : List Int} : ∀ (l : Vals) (j i : Nat), i < l.length → l.getD i [] ≠ [] → ∃ s ∈ l.getD i [], (Dsk.crashed picks j l).getD i [] = [s]
  | [], j, i, h, _ => absurd h (by simp)
  | x :: r, j, 0, h, hn => by
    have hx : x ≠ [] := hn
    unfold Dsk.crashed
    split
    · rename_i hl
      cases x with
      | nil => exact absurd rfl hx
      | cons a t =>
        cases t with
        | nil => exact ⟨a, by simp, rfl⟩
        | cons b t => exact absurd hl (by simp only [List.length_cons]; omega)
    · rename_i hl
      have hk := pick_lt picks j x.length (by omega)
      refine ⟨x.getD (Dsk.pick picks j x.length) [], ?_, rfl⟩
      show x.getD (Dsk.pick picks j x.length) [] ∈ x
      rw [List.getD_eq_getElem?_getD, List.getElem?_eq_getElem hk]
      exact List.getElem_mem hk
  | x :: r, j, i + 1, h, hn => by
    unfold Dsk.crashed
    split
    · exact crashed_get r j i (by simpa using h) hn
    · exact crashed_get r (j + 1) i (by simpa using h) hn
/-- One value of each is left. -/
structure One (n : Nat) (V : Vals) : Prop where
  len : V.length = n
  one : ∀ i, i < n → ∃ s, V.getD i [] = [s]
theorem Cls.crash {n : Nat} {p : Nat → Sec → Prop} {d : Dsk} (h : Cls n p d.vals) (picks : List Int) : Cls n p (d.crash picks).vals ∧ One n (d.crash picks).vals := by
  have hl := h.len
  have hc : ∀ i, i < n → ∃ s ∈ d.vals.getD i [], (d.crash picks).vals.getD i [] = [s] := fun i hi => crashed_get d.vals 0 i (by omega) (h.ne i hi)
  have e : (d.crash picks).vals.length = n := by rw [Dsk.crash, crashed_length]; exact hl
  refine ⟨⟨e, fun i hi => ?_, fun i hi s hs => ?_⟩, ⟨e, fun i hi => ?_⟩⟩
  · obtain ⟨s, _, h2⟩ := hc i hi; rw [h2]; simp
  · obtain ⟨t, h1, h2⟩ := hc i hi
    rw [h2] at hs
    rw [List.mem_singleton.1 hs]; exact h.all i hi t h1
  · obtain ⟨s, _, h2⟩ := hc i hi; exact ⟨s, h2⟩

/-! ### a commit -/
structure Cm where
  n : Nat
  a : Nat
  c : Nat
  t : Int
  l : List (Nat × Sec)
  was : Nat → Sec
structure Cm.Ok (k : Cm) : Prop where
  n1 : k.n ≤ 4096
  c1 : 1 ≤ k.c
  c2 : k.c ≤ 100
  fit : k.a + k.c < k.n
  len : k.l.length ≤ k.c
  home : ∀ x ∈ k.l, k.a + k.c < x.1 ∧ x.1 < k.n ∧ x.2.length = 256
  nodup : (k.l.map Prod.fst).Nodup
  rise : Rising (k.l.map fun x => (x.1 : Int))
  t0 : 0 ≤ k.t
  t1 : k.t < 4294967296
namespace Cm
variable (k : Cm)
def li : List (Int × Sec) := k.l.map fun x => ((x.1 : Int), x.2)
def t' : Int := nextTurn k.t
def E : Sec := lhdr k.t [] []
def E' : Sec := lhdr k.t' [] []
def H : Sec := lhdr k.t' (homesOf k.li) (dataOf k.li)
def isWant (j : Nat) (s : Sec) : Prop := (j, s) ∈ k.l ∨ ((∀ b, (j, b) ∉ k.l) ∧ s = k.was j)
def home (j : Nat) : Prop := k.a + k.c < j
def data (j : Nat) (s : Sec) : Prop := ∀ i (h : i < k.l.length), j = k.a + 1 + i → s = k.l[i].2
def pA (j : Nat) (s : Sec) : Prop := (j = k.a → s = k.E) ∧ (k.home j → s = k.was j)
def pAB (j : Nat) (s : Sec) : Prop := (j = k.a → s = k.E ∨ s = k.H) ∧ (k.home j → s = k.was j) ∧ k.data j s
def pB (j : Nat) (s : Sec) : Prop := (j = k.a → s = k.H) ∧ (k.home j → s = k.was j ∨ k.isWant j s) ∧ k.data j s
def pBC (j : Nat) (s : Sec) : Prop := (j = k.a → s = k.H ∨ s = k.E') ∧ (k.home j → k.isWant j s) ∧ k.data j s
def pC (j : Nat) (s : Sec) : Prop := (j = k.a → s = k.E') ∧ (k.home j → k.isWant j s)
/-- What a stop may leave. -/
def S (V : Vals) : Prop := Cls k.n k.pA V ∨ Cls k.n k.pAB V ∨ Cls k.n k.pB V ∨ Cls k.n k.pBC V ∨ Cls k.n k.pC V
end Cm
variable {k : Cm}
theorem Cm.S.crash {d : Dsk} (h : k.S d.vals) (hk : k.Ok) (picks : List Int) : Cls k.n k.pA (d.crash picks).vals ∨ Cls k.n k.pB (d.crash picks).vals ∨ Cls k.n k.pC (d.crash picks).vals := by
  have han : k.a < k.n := by have := hk.fit; omega
  rcases h with h | h | h | h | h
  · exact .inl (h.crash picks).1
  · obtain ⟨h1, h2⟩ := h.crash picks
    obtain ⟨s, hs⟩ := h2.one k.a han
    have hs0 := (h1.all k.a han s (by rw [hs]; simp)).1 rfl
    have key : ∀ i, i < k.n → ∀ u ∈ (d.crash picks).vals.getD i [], i = k.a → u = s := fun i hi u hu e => by subst e; rw [hs] at hu; exact List.mem_singleton.1 hu
    rcases hs0 with e | e
    · exact .inl ⟨h1.len, h1.ne, fun i hi u hu => ⟨fun ei => (key i hi u hu ei).trans e, (h1.all i hi u hu).2.1⟩⟩
    · exact .inr (.inl ⟨h1.len, h1.ne, fun i hi u hu => ⟨fun ei => (key i hi u hu ei).trans e, fun hh => .inl ((h1.all i hi u hu).2.1 hh), (h1.all i hi u hu).2.2⟩⟩)
  · exact .inr (.inl (h.crash picks).1)
  · obtain ⟨h1, h2⟩ := h.crash picks
    obtain ⟨s, hs⟩ := h2.one k.a han
    have hs0 := (h1.all k.a han s (by rw [hs]; simp)).1 rfl
    have key : ∀ i, i < k.n → ∀ u ∈ (d.crash picks).vals.getD i [], i = k.a → u = s := fun i hi u hu e => by subst e; rw [hs] at hu; exact List.mem_singleton.1 hu
    rcases hs0 with e | e
    · exact .inr (.inl ⟨h1.len, h1.ne, fun i hi u hu => ⟨fun ei => (key i hi u hu ei).trans e, fun hh => .inr ((h1.all i hi u hu).2.1 hh), (h1.all i hi u hu).2.2⟩⟩)
    · exact .inr (.inr ⟨h1.len, h1.ne, fun i hi u hu => ⟨fun ei => (key i hi u hu ei).trans e, (h1.all i hi u hu).2.1⟩⟩)
  · exact .inr (.inr (h.crash picks).1)
/-- Steps (3) and (4). -/
theorem Cm.home_run (hk : k.Ok) {V : Vals} (h : Cls k.n k.pB V) : (∀ U ∈ traceV (homeS k.a k.t' k.li) V, k.S U) ∧ Cls k.n k.pC (endV (homeS k.a k.t' k.li) V) := by
  have hfit := hk.fit
  have e : homeS k.a k.t' k.li = wrs k.l ++ .sync :: .wr (k.a : Nat) k.E' :: [.sync] := by
    simp [homeS, wrs, Cm.li, emptyS, Cm.E', Function.comp_def]
  have hW : ∀ x ∈ k.l, k.pB x.1 x.2 := fun x hx => by
    have := hk.home x hx
    refine ⟨fun e => by omega, fun _ => .inr (.inl hx), fun i hi e => ?_⟩
    have := hk.len
    omega
  obtain ⟨h1, h2⟩ := wrs_trace k.l hW h
  have h3 : Lst k.n (fun j s => (j = k.a → s = k.H) ∧ (k.home j → k.isWant j s) ∧ k.data j s) (endV (wrs k.l) V) := by
    refine wrs_last k.l h.len hk.nodup (fun i hi hn => ?_) (fun x hx => ?_)
    · obtain ⟨a1, a2, a3⟩ := h.last hi
      refine ⟨a1, fun hh => ?_, a3⟩
      rcases a2 hh with e | e
      · exact .inr ⟨hn, e⟩
      · exact e
    · exact ⟨(hW x hx).1, fun _ => .inl hx, (hW x hx).2.2⟩
  have h4 := h2.sync h3
  have h5 := h4.wr k.a k.E'
  have h5' : Cls k.n k.pBC (stepV (.wr (k.a : Nat) k.E') (stepV .sync (endV (wrs k.l) V))) := h5.imp fun i hi s hs => by
    rcases hs with ⟨a1, a2, a3⟩ | ⟨rfl, rfl⟩
    · exact ⟨fun e => .inl (a1 e), a2, a3⟩
    · exact ⟨fun _ => .inr rfl, fun hh => by unfold Cm.home at hh; omega, fun i hi e => by omega⟩
  have h6 := Lst.wr h4.len h4.lst k.a k.E'
  have h7 := h5'.sync (q := k.pC) fun i hi => by
    have := h6 i hi
    by_cases ei : i = k.a
    · simp only [if_pos ei] at this
      exact ⟨fun _ => this, fun hh => by unfold Cm.home at hh; omega⟩
    · simp only [if_neg ei] at this
      exact ⟨fun e => absurd e ei, this.2.1⟩
  rw [e, traceV_app, endV_app]
  refine ⟨fun U hU => ?_, h7⟩
  rcases List.mem_append.1 hU with hU | hU
  · exact .inr (.inr (.inl (h1 U hU)))
  · simp only [traceV, List.mem_cons, List.not_mem_nil, or_false] at hU
    rcases hU with rfl | rfl | rfl
    · exact .inr (.inr (.inl h2))
    · exact .inr (.inr (.inr (.inl (h4.imp fun i hi s hs => ⟨fun e => .inl (hs.1 e), hs.2.1, hs.2.2⟩))))
    · exact .inr (.inr (.inr (.inl h5')))
/-- The log's data sectors, with their places. -/
def dataN : Nat → List (Nat × Sec) → List (Nat × Sec)
  | _, [] => []
  | a, x :: r => (a, x.2) :: dataN (a + 1) r
theorem dataN_mem : ∀ (l : List (Nat × Sec)) (a : Nat) (x : Nat × Sec), x ∈ dataN a l → ∃ i, ∃ h : i < l.length, x.1 = a + i ∧ x.2 = l[i].2
  | [], a, x, h => by simp [dataN] at h
  | y :: r, a, x, h => by
    rcases List.mem_cons.1 h with rfl | h
    · exact ⟨0, by simp, rfl, rfl⟩
    · obtain ⟨i, hi, e1, e2⟩ := dataN_mem r (a + 1) x h
      exact ⟨i + 1, by simpa using hi, by omega, by simpa using e2⟩
theorem dataN_has : ∀ (l : List (Nat × Sec)) (a i : Nat) (h : i < l.length), (a + i, l[i].2) ∈ dataN a l
  | [], a, i, h => absurd h (by simp)
  | y :: r, a, 0, h => by simp [dataN]
  | y :: r, a, i + 1, h => by
    have := dataN_has r (a + 1) i (by simpa using h)
    rw [show a + (i + 1) = a + 1 + i from by omega]
    exact List.mem_cons_of_mem _ this
theorem dataN_nodup : ∀ (l : List (Nat × Sec)) (a : Nat), ((dataN a l).map Prod.fst).Nodup
  | [], a => by simp [dataN]
  | y :: r, a => by
    show (a :: (dataN (a + 1) r).map Prod.fst).Nodup
    refine List.nodup_cons.2 ⟨fun h => ?_, dataN_nodup r (a + 1)⟩
    obtain ⟨x, hx, e⟩ := List.mem_map.1 h
    obtain ⟨i, _, e1, _⟩ := dataN_mem r (a + 1) x hx
    omega
theorem dataS_wrs : ∀ (l : List (Nat × Sec)) (a : Nat), dataS (a : Nat) (l.map fun x => ((x.1 : Int), x.2)) = wrs (dataN a l)
  | [], a => rfl
  | y :: r, a => by
    simp only [List.map_cons, dataS, dataN, wrs]
    congr 1
    exact dataS_wrs r (a + 1)
theorem Cm.steps_run (hk : k.Ok) {V : Vals} (h : Cls k.n k.pA V) : (∀ U ∈ traceV (stepsS k.a k.t' k.li) V, k.S U) ∧ Cls k.n k.pC (endV (stepsS k.a k.t' k.li) V) := by
  have hfit := hk.fit
  have hlen := hk.len
  have e : stepsS k.a k.t' k.li = wrs (dataN (k.a + 1) k.l) ++ (.sync :: .wr (k.a : Nat) k.H :: .sync :: .turn :: homeS k.a k.t' k.li) := by
    have := dataS_wrs k.l (k.a + 1)
    simp only [stepsS, Cm.li, Cm.H] at *
    rw [← this]
    rfl
  have hD : ∀ x ∈ dataN (k.a + 1) k.l, k.pA x.1 x.2 := fun x hx => by
    obtain ⟨i, hi, e1, e2⟩ := dataN_mem _ _ _ hx
    exact ⟨fun e => by omega, fun hh => by unfold Cm.home at hh; omega⟩
  obtain ⟨h1, h2⟩ := wrs_trace _ hD h
  have h3 : Lst k.n (fun j s => k.pA j s ∧ k.data j s) (endV (wrs (dataN (k.a + 1) k.l)) V) := by
    refine wrs_last _ h.len (dataN_nodup _ _) (fun i hi hn => ⟨h.last hi, fun j hj e => ?_⟩) (fun x hx => ⟨hD x hx, fun j hj e => ?_⟩)
    · exact absurd (e ▸ dataN_has k.l (k.a + 1) j hj) (hn _)
    · obtain ⟨i, hi, e1, e2⟩ := dataN_mem _ _ _ hx
      have : i = j := by omega
      subst this
      exact e2
  have h4 := h2.sync h3
  have h5 : Cls k.n k.pAB (stepV (.wr (k.a : Nat) k.H) (stepV .sync (endV (wrs (dataN (k.a + 1) k.l)) V))) := (h4.wr k.a k.H).imp fun i hi s hs => by
    rcases hs with ⟨⟨a1, a2⟩, a3⟩ | ⟨rfl, rfl⟩
    · exact ⟨fun e => .inl (a1 e), a2, a3⟩
    · exact ⟨fun _ => .inr rfl, fun hh => by unfold Cm.home at hh; omega, fun i hi e => by omega⟩
  have h6 := Lst.wr h4.len h4.lst k.a k.H
  have h7 := h5.sync (q := k.pB) fun i hi => by
    have := h6 i hi
    by_cases ei : i = k.a
    · simp only [if_pos ei] at this
      exact ⟨fun _ => this, fun hh => by unfold Cm.home at hh; omega, fun i hi e => by omega⟩
    · simp only [if_neg ei] at this
      exact ⟨fun e => absurd e ei, fun hh => .inl (this.1.2 hh), this.2⟩
  obtain ⟨h8, h9⟩ := Cm.home_run hk h7
  rw [e, traceV_app, endV_app]
  refine ⟨fun U hU => ?_, h9⟩
  rcases List.mem_append.1 hU with hU | hU
  · exact .inl (h1 U hU)
  · simp only [traceV, List.mem_cons] at hU
    rcases hU with rfl | rfl | rfl | rfl | hU
    · exact .inl h2
    · exact .inr (.inl (h4.imp fun i hi s hs => ⟨fun e => .inl (hs.1.1 e), hs.1.2, hs.2⟩))
    · exact .inr (.inl h5)
    · exact .inr (.inr (.inl h7))
    · exact h8 U hU
end Go.Proofs.YtfhdiddlloiglaaDoor
end
section
/- The log as plain lists: what an opening finds, and what it leaves. No program. -/
namespace Go.Proofs.YtfhdiddlloiglaaDoor
set_option linter.unusedVariables false
set_option linter.unusedSimpArgs false

/-! ### sorted blocks -/
theorem sortB_perm (l : List (Int × Sec)) : (sortB l).Perm l := List.mergeSort_perm _ _
theorem sortB_pair (l : List (Int × Sec)) : (sortB l).Pairwise fun x y => x.1 ≤ y.1 := by
  have := List.pairwise_mergeSort (le := fun x y : Int × Sec => decide (x.1 ≤ y.1)) (fun a b c h1 h2 => by simp at *; omega) (fun a b => by simp; omega) l
  exact this.imp (by simp)
theorem rising_of {l : List Int} (h1 : l.Pairwise (· ≤ ·)) (h2 : l.Nodup) : Rising l := by
  induction l with
  | nil => trivial
  | cons x r ih =>
    cases r with
    | nil => trivial
    | cons y r =>
      have a := List.pairwise_cons.1 h1
      have b := List.nodup_cons.1 h2
      refine ⟨?_, ih a.2 b.2⟩
      have := a.1 y List.mem_cons_self
      have hne : x ≠ y := fun e => b.1 (e ▸ List.mem_cons_self)
      omega
theorem homes_pair {l : List (Int × Sec)} (h : l.Pairwise fun x y => x.1 ≤ y.1) : (homesOf l).Pairwise (· ≤ ·) := List.pairwise_map.2 h
theorem sortB_rising {l : List (Int × Sec)} (h : (homesOf l).Nodup) : Rising (homesOf (sortB l)) :=
  rising_of (homes_pair (sortB_pair l)) (((sortB_perm l).map Prod.fst).nodup_iff.2 h)
/-- A commit of such blocks. -/
def cmOf (n a c : Nat) (t : Int) (want : List (Int × Sec)) (was : Nat → Sec) : Cm := ⟨n, a, c, t, (sortB want).map fun x => (x.1.toNat, x.2), was⟩
theorem cm_li {n a c : Nat} {t : Int} {want : List (Int × Sec)} {was : Nat → Sec} (h : ∀ x ∈ want, 0 ≤ x.1) : (cmOf n a c t want was).li = sortB want := by
  unfold Cm.li cmOf
  rw [List.map_map]
  refine (List.map_congr_left fun x hx => ?_).trans (List.map_id _)
  have := h x ((sortB_perm want).mem_iff.1 hx)
  show (((x.1.toNat : Nat) : Int), x.2) = x
  rw [Int.toNat_of_nonneg this]
theorem cm_ok {n a c : Nat} {t : Int} {want : List (Int × Sec)} {was : Nat → Sec} (hn : n ≤ 4096) (hc : 1 ≤ c ∧ c ≤ 100) (hf : a + c < n) (hl : want.length ≤ c) (hw : ∀ x ∈ want, ((a + c : Nat) : Int) < x.1 ∧ x.1 < n ∧ x.2.length = 256) (hd : (homesOf want).Nodup) (ht : 0 ≤ t ∧ t < 4294967296) :
    (cmOf n a c t want was).Ok := by
  have hli := cm_li (n := n) (a := a) (c := c) (t := t) (want := want) (was := was) (fun x hx => by have := hw x hx; omega)
  have hhom : ((cmOf n a c t want was).l.map fun x => (x.1 : Int)) = homesOf (sortB want) := by
    rw [← hli]; simp [Cm.li, homesOf]
  refine ⟨hn, hc.1, hc.2, hf, by simp [cmOf, (sortB_perm want).length_eq, hl], fun x hx => ?_, ?_, ?_, ht.1, ht.2⟩
  · obtain ⟨y, hy, rfl⟩ := List.mem_map.1 (show x ∈ (sortB want).map fun x => (x.1.toNat, x.2) from hx)
    have := hw y ((sortB_perm want).mem_iff.1 hy)
    exact ⟨by show a + c < y.1.toNat; omega, by show y.1.toNat < n; omega, this.2.2⟩
  · have h1 : (homesOf (sortB want)).Nodup := ((sortB_perm want).map Prod.fst).nodup_iff.2 hd
    rw [← hhom] at h1
    rw [show ((cmOf n a c t want was).l.map fun x => (x.1 : Int)) = ((cmOf n a c t want was).l.map Prod.fst).map (fun k : Nat => (k : Int)) by simp] at h1
    exact (List.pairwise_map.1 h1).imp fun hne e => hne (by rw [e])
  · rw [hhom]; exact sortB_rising hd
theorem cm_isWant {n a c : Nat} {t : Int} {want : List (Int × Sec)} {was : Nat → Sec} (h : ∀ x ∈ want, 0 ≤ x.1) (hd : (homesOf want).Nodup) {x : Int × Sec} (hx : x ∈ want) {s : Sec} (hs : (cmOf n a c t want was).isWant x.1.toNat s) : s = x.2 := by
  have hm : (x.1.toNat, x.2) ∈ (cmOf n a c t want was).l := List.mem_map.2 ⟨x, (sortB_perm want).mem_iff.2 hx, rfl⟩
  rcases hs with hs | ⟨hs, _⟩
  · obtain ⟨y, hy, e⟩ := List.mem_map.1 (show (x.1.toNat, s) ∈ (sortB want).map fun x => (x.1.toNat, x.2) from hs)
    have hy := (sortB_perm want).mem_iff.1 hy
    have e1 : y.1.toNat = x.1.toNat := congrArg Prod.fst e
    have e2 : y.2 = s := congrArg Prod.snd e
    have hxy : y.1 = x.1 := by have := h x hx; have := h y hy; omega
    have : y = x := by
      rcases List.mem_iff_getElem.1 hx with ⟨i, hi, ei⟩
      rcases List.mem_iff_getElem.1 hy with ⟨j, hj, ej⟩
      have : i = j := by
        refine (List.getElem_inj (xs := homesOf want) (h₀ := by simp only [homesOf, List.length_map]; exact hi) (h₁ := by simp only [homesOf, List.length_map]; exact hj) hd).1 ?_
        simp only [homesOf, List.getElem_map, ei, ej, hxy]
      subst this
      rw [← ei, ← ej]
    rw [← e2, this]
  · exact absurd hm (hs _)

/-! ### what an opening finds -/
section
variable {k : Cm} {d : Dsk}
theorem place_ok (hk : k.Ok) (hl : d.vals.length = k.n) : place d.vals.length k.a k.c := by
  have := hk.c1; have := hk.c2; have := hk.fit
  unfold place; rw [hl]; omega
theorem rising_nil : Rising [] := trivial
theorem logged_E {t : Int} (hk : k.Ok) (hl : d.vals.length = k.n) (hoff : d.off = false) (hs : lastOf (d.vals.getD k.a []) = lhdr t [] []) (ht : 0 ≤ t ∧ t < 4294967296) : logged d k.a k.c = (0, ⟨t, []⟩) := by
  unfold logged
  rw [if_neg (fun h => h (place_ok hk hl)), if_neg (by rw [hoff]; decide), Int.toNat_natCast, hs]
  have e1 : (getAt (lhdr t [] []) 8 2).toNat = 0 := by rw [hdr_many (by decide)]; rfl
  have e2 := hdr_turn (turn := t) (homes := []) (data := []) ht.1 ht.2
  show (if (k.c : Int) < (((getAt (lhdr t [] []) 8 2).toNat : Nat) : Int) then _ else _) = _
  rw [e1, if_neg (by omega)]
  have e3 : entries d k.a (lhdr t [] []) 0 = [] := rfl
  rw [e3, e2, if_pos ⟨(fun x hx => by cases hx), rising_nil, rfl⟩]
theorem logged_H (hk : k.Ok) (hl : d.vals.length = k.n) (hoff : d.off = false) (hs : lastOf (d.vals.getD k.a []) = k.H) (hdt : ∀ i (h : i < k.l.length), lastOf (d.vals.getD (k.a + 1 + i) []) = k.l[i].2) : logged d k.a k.c = (0, ⟨k.t', k.li⟩) := by
  have hlen : k.li.length = k.l.length := by simp [Cm.li]
  have hhl : (homesOf k.li).length = k.l.length := by rw [homesOf, List.length_map, hlen]
  have h5 := hk.len; have h6 := hk.c2
  have ht' : 0 ≤ k.t' ∧ k.t' < 4294967296 := by unfold Cm.t' nextTurn; omega
  have hn1 := hk.n1
  have hmem : ∀ x ∈ homesOf k.li, ((k.a : Int) + k.c < x ∧ x < k.n) := fun x hx => by
    obtain ⟨y, hy, rfl⟩ := List.mem_map.1 hx
    obtain ⟨z, hz, rfl⟩ := List.mem_map.1 hy
    have := hk.home z hz
    show (k.a : Int) + k.c < (z.1 : Int) ∧ (z.1 : Int) < k.n
    omega
  unfold logged
  rw [if_neg (fun h => h (place_ok hk hl)), if_neg (by rw [hoff]; decide), Int.toNat_natCast, hs]
  have e1 : (getAt k.H 8 2).toNat = k.l.length := by rw [Cm.H, hdr_many (by omega), hhl, Int.toNat_natCast]
  have e2 : getAt k.H 4 4 = k.t' := hdr_turn ht'.1 ht'.2
  show (if (k.c : Int) < (((getAt k.H 8 2).toNat : Nat) : Int) then _ else _) = _
  rw [e1, if_neg (by omega)]
  have e3 : entries d k.a k.H k.l.length = k.li := by
    refine List.ext_getElem (by simp [entries, hlen]) fun i h1 h2 => ?_
    have hi : i < k.l.length := by simpa [entries] using h1
    have e4 : getAt k.H (10 + 2 * i) 2 = (homesOf k.li).getD i 0 := hdr_home (by omega) (fun x hx => by have := hmem x hx; omega)
    have e5 : ((k.a : Int) + 1 + (i : Int)).toNat = k.a + 1 + i := by omega
    simp only [entries, List.getElem_map, List.getElem_range, e4, e5, hdt i hi, Cm.li, homesOf, List.map_map, List.getD_eq_getElem?_getD, List.getElem?_map, List.getElem?_eq_getElem hi, Option.map_some, Option.getD_some, Function.comp]
    have e6 := hdt i hi
    rw [List.getD_eq_getElem?_getD] at e6
    rw [e6]
  have hri : Rising (homesOf k.li) := by
    have := hk.rise
    rwa [show homesOf k.li = k.l.map fun x => (x.1 : Int) by simp [Cm.li, homesOf]]
  rw [e3, e2, hl, if_pos ⟨hmem, hri, rfl⟩]
/-- The classes that a crash leaves. -/
def Cm.Rest (k : Cm) (V : Vals) : Prop := Cls k.n k.pA V ∨ Cls k.n k.pB V ∨ Cls k.n k.pC V
theorem Cm.Rest.s {V : Vals} (h : k.Rest V) : k.S V := by
  rcases h with h | h | h
  · exact .inl h
  · exact .inr (.inr (.inl h))
  · exact .inr (.inr (.inr (.inr h)))
theorem Cm.S.len {V : Vals} (h : k.S V) : V.length = k.n := by
  rcases h with h | h | h | h | h <;> exact h.len
theorem fits_home (hk : k.Ok) : ∀ s ∈ homeS k.a k.t' k.li, Fits k.n s := fun s hs => by
  have := hk.fit
  simp only [homeS, emptyS, List.mem_append, List.mem_map, List.mem_cons, List.not_mem_nil, or_false] at hs
  rcases hs with ⟨x, hx, rfl⟩ | rfl | rfl | rfl
  · obtain ⟨y, hy, rfl⟩ := List.mem_map.1 hx
    have := hk.home y hy
    exact ⟨by show (0 : Int) ≤ (y.1 : Int); omega, by show (y.1 : Int) < k.n; omega, this.2.2⟩
  · trivial
  · exact ⟨by omega, by omega, hdr_len (by decide)⟩
  · trivial
theorem mem_dataS : ∀ (l : List (Int × Sec)) (a : Int) (s : Stp), s ∈ dataS a l → ∃ i, ∃ h : i < l.length, s = .wr (a + i) l[i].2
  | [], a, s, h => by simp [dataS] at h
  | x :: r, a, s, h => by
    rcases List.mem_cons.1 h with rfl | h
    · exact ⟨0, by simp, by simp⟩
    · obtain ⟨i, hi, rfl⟩ := mem_dataS r (a + 1) s h
      refine ⟨i + 1, by simpa using hi, ?_⟩
      congr 1
      omega
theorem fits_steps (hk : k.Ok) : ∀ s ∈ stepsS k.a k.t' k.li, Fits k.n s := fun s hs => by
  have h1 := hk.fit; have h2 := hk.len; have h3 := hk.c2
  have hlen : k.li.length = k.l.length := by simp [Cm.li]
  have hhl : (homesOf k.li).length = k.l.length := by rw [homesOf, List.length_map, hlen]
  simp only [stepsS, List.mem_append, List.mem_cons] at hs
  rcases hs with hs | rfl | rfl | rfl | rfl | hs
  · obtain ⟨i, hi, rfl⟩ := mem_dataS _ _ _ hs
    have hil : i < k.l.length := by rwa [hlen] at hi
    have := hk.home k.l[i] (List.getElem_mem hil)
    refine ⟨by omega, by omega, ?_⟩
    simpa [Cm.li] using this.2.2
  · trivial
  · exact ⟨by omega, by omega, hdr_len (by omega)⟩
  · trivial
  · trivial
  · exact fits_home hk s hs
/-- Behind a crash the log is opened, or the power goes. -/
theorem open_rest (hk : k.Ok) (h : k.Rest d.vals) (hoff : d.off = false) :
    ((openD d k.a k.c).1 = 0 ∧ (Cls k.n k.pA (openD d k.a k.c).2.2.vals ∨ Cls k.n k.pC (openD d k.a k.c).2.2.vals) ∧ (Cls k.n k.pC d.vals → Cls k.n k.pC (openD d k.a k.c).2.2.vals) ∧ (openD d k.a k.c).2.2.vals.length = k.n) ∨
    ((openD d k.a k.c).1 = 10 ∧ k.S (openD d k.a k.c).2.2.vals ∧ (Cls k.n k.pC d.vals → Cls k.n k.pC (openD d k.a k.c).2.2.vals) ∧ ¬ Cls k.n k.pA d.vals) := by
  have han : k.a < k.n := by have := hk.fit; omega
  have ht' : 0 ≤ k.t' ∧ k.t' < 4294967296 := by unfold Cm.t' nextTurn; omega
  by_cases hC : Cls k.n k.pC d.vals
  · have e := logged_E hk hC.len hoff ((hC.last han).1 rfl) ht'
    have eo : openD d k.a k.c = (0, k.t', d) := by unfold openD; rw [e, if_neg (by simp), if_pos rfl]
    rw [eo]
    exact .inl ⟨rfl, .inr hC, fun _ => hC, hC.len⟩
  · by_cases hA : Cls k.n k.pA d.vals
    · have e := logged_E hk hA.len hoff ((hA.last han).1 rfl) ⟨hk.t0, hk.t1⟩
      have eo : openD d k.a k.c = (0, k.t, d) := by unfold openD; rw [e, if_neg (by simp), if_pos rfl]
      rw [eo]
      exact .inl ⟨rfl, .inl hA, fun h => absurd h hC, hA.len⟩
    · have hB : Cls k.n k.pB d.vals := by
        rcases h with h | h | h
        · exact absurd h hA
        · exact h
        · exact absurd h hC
      have hl := hB.len
      have e := logged_H hk hl hoff ((hB.last han).1 rfl) (fun i hi => by
        have := hk.len; have := hk.fit
        exact (hB.last (i := k.a + 1 + i) (by omega)).2.2 i hi rfl)
      obtain ⟨h1, h2⟩ := Cm.home_run hk hB
      have hr := run_trace (homeS k.a k.t' k.li) false d (by rw [hl]; exact fits_home hk)
      by_cases hnil : k.li = []
      · have eo : openD d k.a k.c = (0, k.t', d) := by unfold openD; rw [e, if_neg (by simp), if_pos hnil]
        exfalso
        refine hC ⟨hB.len, hB.ne, fun i hi s hs => ⟨fun ei => ?_, fun hh => ?_⟩⟩
        · rw [(hB.all i hi s hs).1 ei, Cm.H, hnil]; rfl
        · have hlnil : k.l = [] := by
            have : k.l.length = 0 := by rw [← show k.li.length = k.l.length by simp [Cm.li], hnil]; rfl
            exact List.length_eq_zero_iff.1 this
          rcases (hB.all i hi s hs).2.1 hh with e | e
          · exact .inr ⟨fun b => by rw [hlnil]; simp, e⟩
          · exact e
      · have eo : openD d k.a k.c = ((runD (homeS k.a k.t' k.li) false d).1, k.t', (runD (homeS k.a k.t' k.li) false d).2.2) := by unfold openD; rw [e, if_neg (by simp), if_neg hnil]
        rw [eo]
        rcases hr with ⟨r1, r2⟩ | ⟨r1, r2, r3⟩
        · refine .inl ⟨r1, .inr ?_, fun _ => ?_, ?_⟩
          · show Cls k.n k.pC _; rw [r2]; exact h2
          · show Cls k.n k.pC _; rw [r2]; exact h2
          · show List.length _ = _; rw [r2]; exact h2.len
        · exact .inr ⟨r1, h1 _ r3, fun h => absurd h hC, hA⟩
/-- .. without a limit it is opened. -/
theorem open_free (hk : k.Ok) (h : k.Rest d.vals) (hoff : d.off = false) (hlf : d.left = -1) : (openD d k.a k.c).1 = 0 := by
  have han : k.a < k.n := by have := hk.fit; omega
  have ht' : 0 ≤ k.t' ∧ k.t' < 4294967296 := by unfold Cm.t' nextTurn; omega
  have hl := h.s.len
  have key : ∀ t ls, logged d k.a k.c = (0, ⟨t, ls⟩) → (ls ≠ [] → ∀ s ∈ homeS k.a t ls, Fits k.n s) → (openD d k.a k.c).1 = 0 := fun t ls e hf => by
    unfold openD
    rw [e, if_neg (by simp)]
    by_cases hn : ls = []
    · rw [if_pos hn]
    · rw [if_neg hn]
      exact (run_free _ false d (by rw [hl]; exact hf hn) hoff hlf).1
  rcases h with h | h | h
  · exact key _ _ (logged_E hk h.len hoff ((h.last han).1 rfl) ⟨hk.t0, hk.t1⟩) (fun hn => absurd rfl hn)
  · exact key _ _ (logged_H hk h.len hoff ((h.last han).1 rfl) (fun i hi => by
        have := hk.len; have := hk.fit
        exact (h.last (i := k.a + 1 + i) (by omega)).2.2 i hi rfl)) (fun _ => fits_home hk)
  · exact key _ _ (logged_E hk h.len hoff ((h.last han).1 rfl) ht') (fun hn => absurd rfl hn)
/-- What is opened, opened again: nothing is done. -/
theorem open_again {t : Int} (hk : k.Ok) (h : Cls k.n k.pA d.vals ∨ Cls k.n k.pC d.vals) (hoff : d.off = false) : ∃ t, openD d k.a k.c = (0, t, d) ∧ logged d k.a k.c = (0, ⟨t, []⟩) ∧ getAt (lastOf (d.vals.getD k.a [])) 4 4 = t := by
  have han : k.a < k.n := by have := hk.fit; omega
  have ht' : 0 ≤ k.t' ∧ k.t' < 4294967296 := by unfold Cm.t' nextTurn; omega
  rcases h with h | h
  · have e := logged_E hk h.len hoff ((h.last han).1 rfl) ⟨hk.t0, hk.t1⟩
    refine ⟨k.t, by unfold openD; rw [e, if_neg (by simp), if_pos rfl], e, ?_⟩
    rw [(h.last han).1 rfl]; exact hdr_turn hk.t0 hk.t1
  · have e := logged_E hk h.len hoff ((h.last han).1 rfl) ht'
    refine ⟨k.t', by unfold openD; rw [e, if_neg (by simp), if_pos rfl], e, ?_⟩
    rw [(h.last han).1 rfl]; exact hdr_turn ht'.1 ht'.2
/-- The turn that an opening finds is the one that it leaves. -/
theorem open_turn (hk : k.Ok) (h : k.Rest d.vals) (hoff : d.off = false) (hz : (openD d k.a k.c).1 = 0) : getAt (lastOf ((openD d k.a k.c).2.2.vals.getD k.a [])) 4 4 = (openD d k.a k.c).2.1 := by
  have han : k.a < k.n := by have := hk.fit; omega
  have ht' : 0 ≤ k.t' ∧ k.t' < 4294967296 := by unfold Cm.t' nextTurn; omega
  rcases h with h | h | h
  · have e := logged_E hk h.len hoff ((h.last han).1 rfl) ⟨hk.t0, hk.t1⟩
    have eo : openD d k.a k.c = (0, k.t, d) := by unfold openD; rw [e, if_neg (by simp), if_pos rfl]
    rw [eo]
    show getAt (lastOf (d.vals.getD k.a [])) 4 4 = k.t
    rw [(h.last han).1 rfl]; exact hdr_turn hk.t0 hk.t1
  · have e := logged_H hk h.len hoff ((h.last han).1 rfl) (fun i hi => by
        have := hk.len; have := hk.fit
        exact (h.last (i := k.a + 1 + i) (by omega)).2.2 i hi rfl)
    by_cases hnil : k.li = []
    · have eo : openD d k.a k.c = (0, k.t', d) := by unfold openD; rw [e, if_neg (by simp), if_pos hnil]
      rw [eo]
      show getAt (lastOf (d.vals.getD k.a [])) 4 4 = k.t'
      rw [(h.last han).1 rfl]; exact hdr_turn ht'.1 ht'.2
    · have eo : openD d k.a k.c = ((runD (homeS k.a k.t' k.li) false d).1, k.t', (runD (homeS k.a k.t' k.li) false d).2.2) := by unfold openD; rw [e, if_neg (by simp), if_neg hnil]
      rw [eo] at hz ⊢
      rcases run_trace (homeS k.a k.t' k.li) false d (by rw [h.len]; exact fits_home hk) with ⟨r1, r2⟩ | ⟨r1, _⟩
      · have h2 := (Cm.home_run hk h).2
        show getAt (lastOf ((runD (homeS k.a k.t' k.li) false d).2.2.vals.getD k.a [])) 4 4 = k.t'
        rw [r2, (h2.last han).1 rfl]; exact hdr_turn ht'.1 ht'.2
      · rw [show (runD (homeS k.a k.t' k.li) false d).1 = 0 from hz] at r1; cases r1
  · have e := logged_E hk h.len hoff ((h.last han).1 rfl) ht'
    have eo : openD d k.a k.c = (0, k.t', d) := by unfold openD; rw [e, if_neg (by simp), if_pos rfl]
    rw [eo]
    show getAt (lastOf (d.vals.getD k.a [])) 4 4 = k.t'
    rw [(h.last han).1 rfl]; exact hdr_turn ht'.1 ht'.2
end
end Go.Proofs.YtfhdiddlloiglaaDoor
end
section
/- The log as plain lists: the laws' disk; a commit on it. No program. -/
namespace Go.Proofs.YtfhdiddlloiglaaDoor
set_option linter.unusedVariables false
set_option linter.unusedSimpArgs false

def fullB (c : Int) : Sec := List.replicate 256 c
theorem fullB_len (c : Int) : (fullB c).length = 256 := List.length_replicate
theorem fullB_byte {c : Int} (h : 0 ≤ c ∧ c ≤ 255) : Bytes (fullB c) := fun x hx => by rw [(List.mem_replicate.1 hx).2]; exact h
def E0 : Sec := lhdr 0 [] []
def midS (n i j : Nat) : List Sec := if j = 2 then [E0] else if 8 ≤ j ∧ j < i then [zeroSec, fullB j] else [zeroSec]
def midD (n i : Nat) : Dsk := ⟨(List.range n).map (midS n i), -1, false, 2 + (i - 8)⟩
def initS (j : Nat) : Sec := if j = 2 then E0 else if 8 ≤ j then fullB j else zeroSec
def begunD (n : Nat) : Dsk := ⟨(List.range n).map fun j => [initS j], -1, false, 2 + (n - 8) + 1⟩
theorem newD_vals (n : Nat) : (newD n).vals = (List.range n).map fun _ => [zeroSec] := by
  refine List.ext_getElem (by simp [newD]) fun j h1 h2 => ?_
  simp [newD]
theorem map_range_modify {α : Type} (n i : Nat) (f : Nat → α) (g : α → α) : ((List.range n).map f).modify i g = (List.range n).map fun j => if j = i then g (f j) else f j := by
  refine List.ext_getElem (by simp) fun j h1 h2 => ?_
  simp only [List.getElem_modify, List.getElem_map, List.getElem_range]
  by_cases e : i = j
  · rw [if_pos e, if_pos e.symm]
  · rw [if_neg e, if_neg (fun h => e h.symm)]
theorem take_open {d : Dsk} (h1 : d.off = false) (h2 : d.left = -1) : d.take = (true, { d with taken := d.taken + 1 }) := by
  unfold Dsk.take
  rw [if_neg (by simp [h1, h2])]
  cases d
  simp only at h1 h2
  subst h1 h2
  rfl
theorem write_open {d : Dsk} (h1 : d.off = false) (h2 : d.left = -1) {i : Nat} (hi : i < d.vals.length) {b : Sec} (hb : b.length = 256) : d.write (i : Nat) b = (0, { d with vals := d.vals.modify i (· ++ [b]), taken := d.taken + 1 }) := by
  unfold Dsk.write
  rw [if_neg (by omega), if_neg (by omega), take_open h1 h2]
  rfl
theorem sync_open {d : Dsk} (h1 : d.off = false) (h2 : d.left = -1) : d.sync = (0, { d with vals := d.vals.map (fun l => [lastOf l]), taken := d.taken + 1 }) := by
  unfold Dsk.sync
  rw [take_open h1 h2]
  rfl
theorem format_new {n : Nat} (hn : 9 ≤ n) : formatD (newD n) 2 5 = (0, midD n 8) := by
  have hl : (newD n).vals.length = n := by simp [newD]
  have hp : place (newD n).vals.length 2 5 := by rw [hl]; unfold place; omega
  unfold formatD
  rw [if_neg (fun h => h hp)]
  have hw := write_open (d := newD n) rfl rfl (i := 2) (b := lhdr 0 [] []) (by omega) (hdr_len (by decide))
  have hs := sync_open (d := { newD n with vals := (newD n).vals.modify 2 (· ++ [lhdr 0 [] []]), taken := (newD n).taken + 1 }) rfl rfl
  have e : runD (emptyS 2 0) false (newD n) = (0, false, midD n 8) := by
    show runD [.wr ((2 : Nat) : Int) (lhdr 0 [] []), .sync] false (newD n) = _
    simp only [runD, hw, hs, if_true]
    refine congrArg (fun x => ((0 : Int), false, x)) ?_
    unfold midD
    congr 1
    rw [newD_vals, map_range_modify, List.map_map]
    refine List.map_congr_left fun j hj => ?_
    simp only [Function.comp, midS]
    by_cases e : j = 2
    · rw [if_pos e, if_pos e]; rfl
    · rw [if_neg e, if_neg e, if_neg (by omega)]; rfl
  rw [e]
theorem mid_len (n i : Nat) : (midD n i).vals.length = n := by simp [midD]
theorem mid_get {n i j : Nat} (hj : j < n) : (midD n i).vals.getD j [] = midS n i j := by
  simp [midD, List.getD_eq_getElem?_getD, hj]
theorem open_mid {n : Nat} (hn : 9 ≤ n) (hn2 : n ≤ 4096) : openD (midD n 8) 2 5 = (0, 0, midD n 8) := by
  have hk : (Cm.mk n 2 5 0 [] fun _ => []).Ok := ⟨hn2, by show 1 ≤ 5; decide, by show 5 ≤ 100; decide, by show 2 + 5 < n; omega, by simp, by simp, by simp, trivial, by show (0 : Int) ≤ 0; decide, by show (0 : Int) < 4294967296; decide⟩
  have e := logged_E (d := midD n 8) (t := 0) hk (mid_len n 8) rfl (by rw [mid_get (by show 2 < n; omega)]; rfl) ⟨by decide, by decide⟩
  have e : logged (midD n 8) 2 5 = (0, ⟨0, []⟩) := e
  unfold openD
  rw [e, if_neg (by simp), if_pos rfl]
theorem mid_write {n i : Nat} (h8 : 8 ≤ i) (hi : i < n) : (midD n i).write (i : Nat) (fullB i) = (0, midD n (i + 1)) := by
  rw [write_open (d := midD n i) rfl rfl (by rw [mid_len]; exact hi) (fullB_len _)]
  refine congrArg (fun x => ((0 : Int), x)) ?_
  unfold midD
  simp only [map_range_modify]
  congr 1
  · refine List.map_congr_left fun j hj => ?_
    simp only [midS]
    by_cases e : j = i
    · subst e
      rw [if_pos rfl, if_neg (by omega), if_neg (by omega), if_neg (by omega), if_pos (by omega)]; rfl
    · rw [if_neg e]
      by_cases e2 : j = 2
      · rw [if_pos e2, if_pos e2]
      · rw [if_neg e2, if_neg e2]
        by_cases e3 : 8 ≤ j ∧ j < i
        · rw [if_pos e3, if_pos (by omega)]
        · rw [if_neg e3, if_neg (by omega)]
  · omega
theorem mid_sync {n : Nat} (hn : 9 ≤ n) : (midD n n).sync = (0, begunD n) := by
  rw [sync_open (d := midD n n) rfl rfl]
  refine congrArg (fun x => ((0 : Int), x)) ?_
  unfold midD begunD
  simp only [List.map_map]
  congr 1
  refine List.map_congr_left fun j hj => ?_
  have hj := List.mem_range.1 hj
  simp only [Function.comp, midS, initS]
  by_cases e : j = 2
  · rw [if_pos e, if_pos e]; rfl
  · rw [if_neg e, if_neg e]
    by_cases e3 : 8 ≤ j
    · rw [if_pos ⟨e3, hj⟩, if_pos e3]; rfl
    · rw [if_neg (by omega), if_neg e3]; rfl
theorem begun_len (n : Nat) : (begunD n).vals.length = n := by simp [begunD]
theorem begun_get {n j : Nat} (hj : j < n) : (begunD n).vals.getD j [] = [initS j] := by
  simp [begunD, List.getD_eq_getElem?_getD, hj]
/-- The blocks that a law wants. -/
def Wanted (n : Nat) (want : List (Int × Sec)) : Prop := want.length ≤ 5 ∧ (∀ x ∈ want, 7 < x.1 ∧ x.1 < n ∧ x.2.length = 256) ∧ (homesOf want).Nodup
abbrev lawK (n : Nat) (want : List (Int × Sec)) : Cm := cmOf n 2 5 0 want initS
theorem lawK_ok {n : Nat} {want : List (Int × Sec)} (h : Wanted n want) (hn : 9 ≤ n ∧ n ≤ 4096) : (lawK n want).Ok :=
  cm_ok hn.2 (by decide) (by omega) h.1 (fun x hx => by have := h.2.1 x hx; omega) h.2.2 (by decide)
theorem lawK_li {n : Nat} {want : List (Int × Sec)} (h : Wanted n want) : (lawK n want).li = sortB want := cm_li fun x hx => by have := h.2.1 x hx; omega
theorem begun_A (n : Nat) (want : List (Int × Sec)) (hn : 9 ≤ n) : Cls n (lawK n want).pA (begunD n).vals := by
  refine ⟨begun_len n, fun i hi => by rw [begun_get hi]; simp, fun i hi s hs => ?_⟩
  rw [begun_get hi] at hs
  have := List.mem_singleton.1 hs
  subst this
  refine ⟨fun e => ?_, fun _ => rfl⟩
  have e : i = 2 := e
  subst e
  rfl
theorem want_good {n : Nat} {want : List (Int × Sec)} {d : Dsk} (h : Wanted n want) (hd : d.vals.length = n) {t : Int} {o : Bool} : goodB d.vals.length ⟨2, 5, t, o⟩ want :=
  ⟨fun x hx => by have := h.2.1 x hx; rw [hd]; show (2 : Int) + 5 < x.1 ∧ _; omega, h.2.2⟩
theorem commit_nil {n : Nat} {d : Dsk} {g : Lg} : commitD g d [] = (0, g, d) ∨ g.c < 0 := by
  unfold commitD
  rw [if_neg (fun h => h ⟨(fun x hx => by cases hx), List.nodup_nil⟩)]
  by_cases h : g.c < (([] : List (Int × Sec)).length : Int)
  · exact .inr h
  · rw [if_neg h, if_pos rfl]; exact .inl rfl
theorem commit_run {n : Nat} {want : List (Int × Sec)} {d : Dsk} (h : Wanted n want) (hd : d.vals.length = n) (hne : want ≠ []) :
    commitD ⟨2, 5, 0, false⟩ d want = ((runD (stepsS 2 1 (sortB want)) false d).1, ⟨2, 5, if (runD (stepsS 2 1 (sortB want)) false d).2.1 = true then 1 else 0, decide ((runD (stepsS 2 1 (sortB want)) false d).1 ≠ 0)⟩, (runD (stepsS 2 1 (sortB want)) false d).2.2) := by
  unfold commitD
  rw [if_neg (fun hh => hh (want_good h hd)), if_neg (by have := h.1; show ¬ (5 : Int) < _; omega), if_neg hne, if_neg (by decide)]
  rfl
/-- The states behind a commit, or a stop in it. -/
def Aft (n : Nat) (want : List (Int × Sec)) (done : Bool) (V : Vals) : Prop := (lawK n want).S V ∧ (done = true → want = [] ∨ Cls n (lawK n want).pC V)
theorem commit_aft {n : Nat} {want : List (Int × Sec)} {d : Dsk} (h : Wanted n want) (hn : 9 ≤ n ∧ n ≤ 4096) (hv : d.vals = (begunD n).vals) (hoff : d.off = false) :
    Aft n want (decide ((commitD ⟨2, 5, 0, false⟩ d want).1 = 0)) (commitD ⟨2, 5, 0, false⟩ d want).2.2.vals := by
  have hd : d.vals.length = n := by rw [hv, begun_len]
  have hA : Cls n (lawK n want).pA d.vals := by rw [hv]; exact begun_A n want hn.1
  by_cases hne : want = []
  · rcases commit_nil (n := n) (d := d) (g := ⟨2, 5, 0, false⟩) with e | e
    · rw [hne] at hA ⊢
      rw [e]
      exact ⟨.inl hA, fun _ => .inl rfl⟩
    · exact absurd e (by decide)
  · have hk := lawK_ok h hn
    rw [commit_run h hd hne]
    obtain ⟨h1, h2⟩ := Cm.steps_run hk hA
    rw [lawK_li h] at h1 h2
    have h1 : ∀ U ∈ traceV (stepsS 2 1 (sortB want)) d.vals, (lawK n want).S U := h1
    have h2 : Cls n (lawK n want).pC (endV (stepsS 2 1 (sortB want)) d.vals) := h2
    have hf := fits_steps hk
    rw [lawK_li h] at hf
    have hf : ∀ s ∈ stepsS 2 1 (sortB want), Fits n s := hf
    rcases run_trace _ false d (by rw [hd]; exact hf) with ⟨r1, r2⟩ | ⟨r1, r2, r3⟩
    · refine ⟨?_, fun _ => .inr ?_⟩
      · show (lawK n want).S (runD _ false d).2.2.vals
        rw [r2]; exact .inr (.inr (.inr (.inr h2)))
      · show Cls n _ (runD _ false d).2.2.vals
        rw [r2]; exact h2
    · refine ⟨h1 _ r3, fun hc => ?_⟩
      have hc : decide ((runD (stepsS 2 1 (sortB want)) false d).1 = 0) = true := hc
      rw [r1] at hc
      exact absurd hc (by decide)
/-- .. and behind a crash. -/
theorem Aft.crash {n : Nat} {want : List (Int × Sec)} {done : Bool} {d : Dsk} (h : Aft n want done d.vals) (hk : (lawK n want).Ok) (picks : List Int) : (lawK n want).Rest (d.crash picks).vals ∧ Aft n want done (d.crash picks).vals :=
  have h1 := h.1.crash hk picks
  ⟨h1, Cm.Rest.s h1, fun hd => (h.2 hd).imp id fun hc => (Cls.crash hc picks).1⟩
theorem Aft.openL {n : Nat} {want : List (Int × Sec)} {done : Bool} {d : Dsk} (h : Aft n want done d.vals) (hr : (lawK n want).Rest d.vals) (hk : (lawK n want).Ok) (hoff : d.off = false) :
    ((openD d 2 5).1 = 0 ∧ (Cls n (lawK n want).pA (openD d 2 5).2.2.vals ∨ Cls n (lawK n want).pC (openD d 2 5).2.2.vals) ∧ Aft n want done (openD d 2 5).2.2.vals) ∨ ((openD d 2 5).1 = 10 ∧ Aft n want done (openD d 2 5).2.2.vals) := by
  rcases open_rest hk hr hoff with ⟨a, b, c, e⟩ | ⟨a, b, c, _⟩
  · exact .inl ⟨a, b, b.elim .inl (fun x => .inr (.inr (.inr (.inr x)))), fun hd => (h.2 hd).imp id c⟩
  · exact .inr ⟨a, b, fun hd => (h.2 hd).imp id c⟩
theorem lasts_want {n : Nat} {want : List (Int × Sec)} {V : Vals} (h : Wanted n want) (hc : Cls n (lawK n want).pC V) {x : Int × Sec} (hx : x ∈ want) : lastOf (V.getD x.1.toNat []) = x.2 := by
  have hb := h.2.1 x hx
  have := hc.last (i := x.1.toNat) (by omega)
  exact cm_isWant (fun y hy => by have := h.2.1 y hy; omega) h.2.2 hx (this.2 (by show 2 + 5 < x.1.toNat; omega))
theorem lasts_was {n : Nat} {want : List (Int × Sec)} {V : Vals} (h : Wanted n want) (hc : Cls n (lawK n want).pA V) {x : Int × Sec} (hx : x ∈ want) : lastOf (V.getD x.1.toNat []) = initS x.1.toNat := by
  have hb := h.2.1 x hx
  have := hc.last (i := x.1.toNat) (by omega)
  exact this.2 (by show 2 + 5 < x.1.toNat; omega)
end Go.Proofs.YtfhdiddlloiglaaDoor
end
section
/- The log as plain lists: what a commit costs. No program. -/
namespace Go.Proofs.YtfhdiddlloiglaaDoor
set_option linter.unusedVariables false
set_option linter.unusedSimpArgs false

theorem endV_keep : ∀ (l : List Stp) (V : Vals) (j : Nat), (∀ i b, Stp.wr i b ∈ l → i.toNat ≠ j) → j < V.length → lastOf ((endV l V).getD j []) = lastOf (V.getD j [])
  | [], V, j, _, _ => rfl
  | .turn :: r, V, j, h, hj => endV_keep r V j (fun i b hb => h i b (by simp [hb])) hj
  | .sync :: r, V, j, h, hj => by
    show lastOf ((endV r (stepV .sync V)).getD j []) = _
    rw [endV_keep r _ j (fun i b hb => h i b (by simp [hb])) (by rw [stepV_len]; exact hj)]
    rw [stepV, getD_mapW _ V j hj []]; rfl
  | .wr i b :: r, V, j, h, hj => by
    show lastOf ((endV r (stepV (.wr i b) V)).getD j []) = _
    rw [endV_keep r _ j (fun i b hb => h i b (by simp [hb])) (by rw [stepV_len]; exact hj)]
    rw [stepV, getD_mod V _ j b hj, if_neg (h i b (by simp))]
theorem endV_sync (l : List Stp) (V : Vals) : ∀ x ∈ endV (l ++ [.sync]) V, x.length = 1 := fun x hx => by
  rw [endV_app] at hx
  obtain ⟨y, _, rfl⟩ := List.mem_map.1 (show x ∈ (endV l V).map (fun l => [lastOf l]) from hx)
  rfl
theorem pending_zero {d : Dsk} (h : ∀ x ∈ d.vals, x.length = 1) : d.pending = 0 := by
  unfold Dsk.pending
  rw [List.length_eq_zero_iff, List.filter_eq_nil_iff]
  intro x hx
  have := h x hx
  simp [this]
theorem steps_last (a t : Int) (l : List (Int × Sec)) : ∃ m, stepsS a t l = m ++ [.sync] := by
  refine ⟨dataS (a + 1) l ++ [.sync, .wr a (lhdr t (homesOf l) (dataOf l)), .sync, .turn] ++ l.map (fun x => .wr x.1 x.2) ++ [.sync, .wr a (lhdr t [] [])], ?_⟩
  simp [stepsS, homeS, emptyS]
theorem data_cost : ∀ (l : List (Int × Sec)) (a : Int), ((dataS a l).map stepCost).sum = l.length
  | [], a => rfl
  | x :: r, a => by
    rw [dataS, List.map_cons, List.sum_cons, data_cost r, List.length_cons]
    show 1 + _ = _
    omega
theorem wr_cost : ∀ (l : List (Int × Sec)), ((l.map fun x => Stp.wr x.1 x.2).map stepCost).sum = l.length
  | [] => rfl
  | x :: r => by
    rw [List.map_cons, List.map_cons, List.sum_cons, wr_cost r, List.length_cons]
    show 1 + _ = _
    omega
theorem steps_cost (a t : Int) (l : List (Int × Sec)) : ((stepsS a t l).map stepCost).sum = 2 * l.length + 6 := by
  simp only [stepsS, homeS, emptyS, List.map_append, List.map_cons, List.sum_append, List.sum_cons, data_cost, wr_cost, List.map_nil, List.sum_nil, stepCost]
  omega
theorem steps_wr {a t : Int} {l : List (Int × Sec)} {i : Int} {b : Sec} (h : Stp.wr i b ∈ stepsS a t l) : (a ≤ i ∧ i ≤ a + l.length) ∨ ∃ x ∈ l, i = x.1 := by
  simp only [stepsS, homeS, emptyS, List.mem_append, List.mem_cons, List.mem_map, List.not_mem_nil, or_false, reduceCtorEq, false_or, Stp.wr.injEq] at h
  rcases h with h | ⟨h, _⟩ | ⟨x, hx, h, _⟩ | ⟨h, _⟩
  · obtain ⟨k, hk, e⟩ := mem_dataS _ _ _ h
    injection e with e1 e2
    exact .inl (by omega)
  · exact .inl (by omega)
  · exact .inr ⟨x, hx, h.symm⟩
  · exact .inl (by omega)
/-- A commit without a limit. -/
theorem commit_costs {n : Nat} {want : List (Int × Sec)} (h : Wanted n want) (hn : 9 ≤ n ∧ n ≤ 4096) (hne : want ≠ []) :
    (commitD ⟨2, 5, 0, false⟩ (begunD n) want).1 = 0 ∧ (commitD ⟨2, 5, 0, false⟩ (begunD n) want).2.2.vals.length = n ∧ (commitD ⟨2, 5, 0, false⟩ (begunD n) want).2.2.off = false ∧
      Cls n (lawK n want).pC (commitD ⟨2, 5, 0, false⟩ (begunD n) want).2.2.vals ∧ (commitD ⟨2, 5, 0, false⟩ (begunD n) want).2.2.pending = 0 ∧ (commitD ⟨2, 5, 0, false⟩ (begunD n) want).2.2.taken = (begunD n).taken + (2 * want.length + 6) ∧
      (∀ j, j < n → (j < 2 ∨ 7 < j) → (∀ x ∈ want, x.1 ≠ j) → lastOf ((commitD ⟨2, 5, 0, false⟩ (begunD n) want).2.2.vals.getD j []) = lastOf ((begunD n).vals.getD j [])) := by
  have hd := begun_len n
  have hA := begun_A n want hn.1
  have hk := lawK_ok h hn
  rw [commit_run h hd hne]
  obtain ⟨_, h2⟩ := Cm.steps_run hk hA
  rw [lawK_li h] at h2
  have h2 : Cls n (lawK n want).pC (endV (stepsS 2 1 (sortB want)) (begunD n).vals) := h2
  have hf := fits_steps hk
  rw [lawK_li h] at hf
  have hf : ∀ s ∈ stepsS 2 1 (sortB want), Fits n s := hf
  obtain ⟨r1, r2, r3, r4, r5⟩ := run_free _ false (begunD n) (by rw [hd]; exact hf) rfl rfl
  have hlen := (sortB_perm want).length_eq
  refine ⟨r1, ?_, r3, ?_, pending_zero ?_, ?_, fun j hj h1 h3 => ?_⟩
  · show List.length (runD _ false (begunD n)).2.2.vals = n; rw [r2]; exact h2.len
  · show Cls n _ (runD _ false (begunD n)).2.2.vals; rw [r2]; exact h2
  · show ∀ x ∈ (runD _ false (begunD n)).2.2.vals, _
    rw [r2]
    obtain ⟨m, hm⟩ := steps_last 2 1 (sortB want)
    rw [hm]
    exact endV_sync m _
  · show (runD _ false (begunD n)).2.2.taken = _
    rw [r5, steps_cost, hlen]
  · show lastOf ((runD _ false (begunD n)).2.2.vals.getD j []) = _
    rw [r2]
    refine endV_keep _ _ j (fun i b hb => ?_) (by rw [hd]; exact hj)
    rcases steps_wr hb with hb | ⟨x, hx, e⟩
    · have := h.1; omega
    · have hx := (sortB_perm want).mem_iff.1 hx
      have := h3 x hx
      have := h.2.1 x hx
      omega
theorem flatMap_sec : ∀ (V : Vals) (i : Nat), i < V.length → (∀ l ∈ V, (lastOf l).length = 256) → ((V.flatMap lastOf).drop (i * 256)).take 256 = lastOf (V.getD i [])
  | [], i, h, _ => absurd h (by simp)
  | x :: r, 0, h, hl => by
    rw [List.flatMap_cons]
    show (lastOf x ++ _).take 256 = lastOf x
    rw [List.take_left' (hl x (by simp))]
  | x :: r, i + 1, h, hl => by
    rw [List.flatMap_cons, show (i + 1) * 256 = 256 + i * 256 by omega, ← List.drop_drop, List.drop_left' (hl x (by simp)), flatMap_sec r i (by simpa using h) fun l hl2 => hl l (by simp [hl2])]
    rfl
theorem image_sec {d : Dsk} (h : d.Ok) {i : Nat} (hi : i < d.vals.length) : (d.image.drop (i * 256)).take 256 = lastOf (d.vals.getD i []) :=
  flatMap_sec d.vals i hi fun l hl => (h.sec l hl _ (lastOf_mem (h.ne l hl))).1
end Go.Proofs.YtfhdiddlloiglaaDoor
end
section
/- The log as plain lists: a commit without a limit, on any log; the chapter's example. No program. -/
namespace Go.Proofs.YtfhdiddlloiglaaDoor
set_option linter.unusedVariables false
set_option linter.unusedSimpArgs false

def isTurn : Stp → Bool
  | .turn => true
  | _ => false
theorem run_turned : ∀ (l : List Stp) (t : Bool) (d : Dsk), (runD l t d).1 = 0 → (runD l t d).2.1 = (t || l.any isTurn)
  | [], t, d, _ => by simp [runD]
  | .wr i b :: r, t, d, h => by
    have e : runD (.wr i b :: r) t d = if (d.write i b).1 = 0 then runD r t (d.write i b).2 else ((d.write i b).1, t, (d.write i b).2) := rfl
    rw [e] at h ⊢
    split at h
    · rename_i h0; rw [if_pos h0, run_turned r t _ h]; simp [isTurn]
    · rename_i h0; exact absurd h h0
  | .sync :: r, t, d, h => by
    have e : runD (.sync :: r) t d = if d.sync.1 = 0 then runD r t d.sync.2 else (d.sync.1, t, d.sync.2) := rfl
    rw [e] at h ⊢
    split at h
    · rename_i h0; rw [if_pos h0, run_turned r t _ h]; simp [isTurn]
    · rename_i h0; exact absurd h h0
  | .turn :: r, t, d, h => by
    have e : runD (.turn :: r) t d = runD r true d := rfl
    rw [e] at h ⊢
    rw [run_turned r true d h]; simp [isTurn]
theorem steps_turn (a t : Int) (l : List (Int × Sec)) : (stepsS a t l).any isTurn = true := by
  rw [List.any_eq_true]
  exact ⟨.turn, by simp [stepsS], rfl⟩
/-- A commit without a limit. -/
theorem commit_free {n a c : Nat} {t : Int} {want : List (Int × Sec)} {was : Nat → Sec} {d : Dsk} (hk : (cmOf n a c t want was).Ok) (hw : ∀ x ∈ want, ((a + c : Nat) : Int) < x.1 ∧ x.1 < n) (hd : (homesOf want).Nodup) (hA : Cls n (cmOf n a c t want was).pA d.vals) (hoff : d.off = false) (hlf : d.left = -1) (hne : want ≠ []) :
    ∃ d', commitD ⟨a, c, t, false⟩ d want = (0, ⟨a, c, nextTurn t, false⟩, d') ∧ Cls n (cmOf n a c t want was).pC d'.vals ∧ d'.off = false ∧ d'.left = -1 ∧ d'.pending = 0 ∧ d'.taken = d.taken + (2 * want.length + 6) ∧
      (∀ j, j < n → (j < a ∨ a + c < j) → (∀ x ∈ want, x.1 ≠ j) → lastOf (d'.vals.getD j []) = lastOf (d.vals.getD j [])) := by
  have hl := hA.len
  have hli := cm_li (n := n) (a := a) (c := c) (t := t) (want := want) (was := was) (fun x hx => by have := hw x hx; omega)
  have hgood : goodB d.vals.length ⟨a, c, t, false⟩ want := ⟨fun x hx => by have := hw x hx; rw [hl]; show (a : Int) + c < x.1 ∧ _; omega, hd⟩
  have hlen : want.length ≤ c := by have := hk.len; simpa [cmOf, (sortB_perm want).length_eq] using this
  obtain ⟨h1, h2⟩ := Cm.steps_run hk hA
  have hf := fits_steps hk
  rw [hli] at h1 h2 hf
  have h2 : Cls n (cmOf n a c t want was).pC (endV (stepsS a (nextTurn t) (sortB want)) d.vals) := h2
  have hf : ∀ s ∈ stepsS a (nextTurn t) (sortB want), Fits n s := hf
  obtain ⟨r1, r2, r3, r4, r5⟩ := run_free _ false d (by rw [hl]; exact hf) hoff hlf
  have r6 := run_turned _ false d r1
  rw [steps_turn, Bool.or_true] at r6
  have hcm : commitD ⟨a, c, t, false⟩ d want = (0, ⟨a, c, nextTurn t, false⟩, (runD (stepsS a (nextTurn t) (sortB want)) false d).2.2) := by
    unfold commitD
    rw [if_neg (fun h => h hgood), if_neg (by show ¬ (c : Int) < _; omega), if_neg hne, if_neg (by show ¬ (false = true); decide)]
    simp only [r1, r6]
    rfl
  have hsl := (sortB_perm want).length_eq
  refine ⟨_, hcm, by rw [r2]; exact h2, r3, r4, pending_zero ?_, by rw [r5, steps_cost, hsl], fun j hj h1 h3 => ?_⟩
  · rw [r2]
    obtain ⟨m, hm⟩ := steps_last a (nextTurn t) (sortB want)
    rw [hm]
    exact endV_sync m _
  · rw [r2]
    refine endV_keep _ _ j (fun i b hb => ?_) (by rw [hl]; exact hj)
    rcases steps_wr hb with hb | ⟨x, hx, e⟩
    · omega
    · have hx := (sortB_perm want).mem_iff.1 hx
      have := h3 x hx
      have := hw x hx
      omega
/-! ### the chapter's example -/
def fmtD (n a : Nat) : Dsk := ⟨(List.range n).map fun j => if j = a then [E0] else [zeroSec], -1, false, 2⟩
theorem fmt_len (n a : Nat) : (fmtD n a).vals.length = n := by simp [fmtD]
theorem fmt_get {n a j : Nat} (hj : j < n) : (fmtD n a).vals.getD j [] = if j = a then [E0] else [zeroSec] := by
  simp [fmtD, List.getD_eq_getElem?_getD, hj]
theorem format_fmt {n a : Nat} {c : Int} (hp : place n a c) (ha : a < n) : formatD (newD n) a c = (0, fmtD n a) := by
  have hl : (newD n).vals.length = n := by simp [newD]
  unfold formatD
  rw [if_neg (fun h => h (by rw [hl]; exact hp))]
  have hw := write_open (d := newD n) rfl rfl (i := a) (b := lhdr 0 [] []) (by omega) (hdr_len (by decide))
  have hs := sync_open (d := { newD n with vals := (newD n).vals.modify a (· ++ [lhdr 0 [] []]), taken := (newD n).taken + 1 }) rfl rfl
  have e : runD (emptyS a 0) false (newD n) = (0, false, fmtD n a) := by
    show runD [.wr ((a : Nat) : Int) (lhdr 0 [] []), .sync] false (newD n) = _
    simp only [runD, hw, hs, if_true]
    refine congrArg (fun x => ((0 : Int), false, x)) ?_
    unfold fmtD
    congr 1
    rw [newD_vals, map_range_modify, List.map_map]
    refine List.map_congr_left fun j hj => ?_
    simp only [Function.comp]
    by_cases e : j = a
    · rw [if_pos e, if_pos e]; rfl
    · rw [if_neg e, if_neg e]; rfl
  rw [e]
def want8 : List (Int × Sec) := [(7, fullB 9), (4, fullB 10)]
abbrev k8 : Cm := cmOf 8 0 3 0 want8 fun _ => zeroSec
theorem k8_ok : k8.Ok := cm_ok (by decide) (by decide) (by decide) (by decide) (fun x hx => by
  simp only [want8, List.mem_cons, List.not_mem_nil, or_false] at hx
  rcases hx with rfl | rfl
  · exact ⟨by decide, by decide, fullB_len 9⟩
  · exact ⟨by decide, by decide, fullB_len 10⟩) (by decide) (by decide)
theorem fmt8_A : Cls 8 k8.pA (fmtD 8 0).vals := by
  refine ⟨fmt_len 8 0, fun i hi => by rw [fmt_get hi]; split <;> simp, fun i hi s hs => ?_⟩
  rw [fmt_get hi] at hs
  by_cases e : i = 0
  · rw [if_pos e] at hs
    rw [List.mem_singleton.1 hs]
    exact ⟨fun _ => rfl, fun hh => by unfold Cm.home at hh; have : 0 + 3 < i := hh; omega⟩
  · rw [if_neg e] at hs
    rw [List.mem_singleton.1 hs]
    exact ⟨fun h => absurd h e, fun _ => rfl⟩
theorem open8 : openD (fmtD 8 0) 0 3 = (0, 0, fmtD 8 0) := by
  have e := logged_E (d := fmtD 8 0) (t := 0) k8_ok (fmt_len 8 0) rfl (by rw [fmt_get (by decide)]; rfl) (by decide)
  have e : logged (fmtD 8 0) 0 3 = (0, ⟨0, []⟩) := e
  unfold openD
  rw [e, if_neg (by simp), if_pos rfl]
theorem commit8 : ∃ d', commitD ⟨0, 3, 0, false⟩ (fmtD 8 0) want8 = (0, ⟨0, 3, 1, false⟩, d') ∧ d'.vals.length = 8 ∧ d'.off = false ∧ d'.taken = 12 ∧ lastOf (d'.vals.getD 4 []) = fullB 10 ∧ lastOf (d'.vals.getD 7 []) = fullB 9 := by
  have hw : ∀ x ∈ want8, ((0 + 3 : Nat) : Int) < x.1 ∧ x.1 < (8 : Nat) := fun x hx => by
    simp only [want8, List.mem_cons, List.not_mem_nil, or_false] at hx
    rcases hx with rfl | rfl
    · exact ⟨by decide, by decide⟩
    · exact ⟨by decide, by decide⟩
  have hd : (homesOf want8).Nodup := by decide
  obtain ⟨d', h1, h2, h3, h4, h5, h6, h7⟩ := commit_free (d := fmtD 8 0) k8_ok hw hd fmt8_A rfl rfl (by simp [want8])
  have hpos : ∀ x ∈ want8, 0 ≤ x.1 := fun x hx => by have := hw x hx; omega
  refine ⟨d', h1, h2.len, h3, by rw [h6]; rfl, ?_, ?_⟩
  · exact cm_isWant hpos hd (x := (4, fullB 10)) (by simp [want8]) ((h2.last (i := 4) (by decide)).2 (by show 0 + 3 < 4; decide))
  · exact cm_isWant hpos hd (x := (7, fullB 9)) (by simp [want8]) ((h2.last (i := 7) (by decide)).2 (by show 0 + 3 < 7; decide))
theorem commit8_bad {d : Dsk} {s : Sec} : commitD ⟨0, 3, 1, false⟩ d [(3, s)] = (2, ⟨0, 3, 1, false⟩, d) := by
  unfold commitD
  rw [if_pos]
  rintro ⟨h, _⟩
  have := (h (3, s) (by simp)).1
  exact absurd this (by show ¬ (0 : Int) + 3 < 3; decide)
end Go.Proofs.YtfhdiddlloiglaaDoor
end
