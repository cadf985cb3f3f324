/- Texts of this claim, one behind the other: M1, Fa. -/
import Derived.Test.YtfhdiddlloiglaaDoorMA3
import Derived.Test.YtfhdiddlloiglaaDoorMA4
import Derived.Test.YtfhdiddlloiglaaDoorMA2
import Derived.Test.YtfhdiddlloiglaaDoorWWords
section
/- The disk's methods that make no memory. -/
namespace Go.Proofs.YtfhdiddlloiglaaDoor
open Go.RowKit
set_option linter.unusedVariables false
set_option linter.unusedSimpArgs false
set_option maxRecDepth 100000

theorem setCell_arr (cs : List Value) (k : Nat) (v : Value) : (cs.toArray).setIfInBounds k v = (cs.set k v).toArray := by simp
section
variable {w0 w : World} {p : Nat} {d : Dsk} {L : List Res}
theorem DiskIs.atF {x : DX} (h : DiskIs w p d x) : AtF w p (some ⟨x.a, 0, none⟩) (d.vals.length * 256) x.cap (some x.mf) (some x.mm) d.left d.off (d.taken : Nat) := by
  have hb := h.blk
  refine ⟨⟨?_, ?_, ?_, ?_, ?_, ?_⟩, fun k => ?_⟩ <;> simp [World.cell?, World.frozen?, hb, dObj]
theorem St.is (H : St w0 w (rDisk p d :: L)) : Calls Tryd.prog 47 #[.pointer (some ⟨p, 0, none⟩)] w fun e w' => e = .returned (.bool true) ∧ w' = w := by
  obtain ⟨x, H⟩ := H.disk
  exact is_calls H.diskIs.atF.toAt
theorem St.sectors (H : St w0 w (rDisk p d :: L)) : Calls Tryd.prog 31 #[.pointer (some ⟨p, 0, none⟩)] w fun e w' => e = .returned (.int .i64 (d.vals.length : Nat)) ∧ w' = w := by
  obtain ⟨x, H⟩ := H.disk
  have h := H.diskIs
  have := h.ok.n2
  have e : d.vals.length * 256 / 256 = d.vals.length := by omega
  exact e ▸ sectors_calls h.atF.toAt (by omega)
theorem St.ops (H : St w0 w (rDisk p d :: L)) : Calls Tryd.prog 23 #[.pointer (some ⟨p, 0, none⟩)] w fun e w' => e = .returned (.int .i64 (d.taken : Nat)) ∧ w' = w := by
  obtain ⟨x, H⟩ := H.disk
  exact ops_calls H.diskIs.atF.toAt
/-- The struct's cells are written: sectors, maps and values stay. -/
theorem St.setD {x : DX} (H : St w0 w (rDiskX p d x ++ L)) {w' : World} (d' : Dsk) (hv : d'.vals = d.vals) (hok : d'.Ok) (hb : w'.heap[p]? = some (dObj x d')) (m : Moved w w' fun i => i = p) : St w0 w' (rDisk p d' :: L) := by
  have h := H.diskIs
  obtain ⟨⟨h1, h3⟩, H⟩ := St.fact H
  have H2 := H.setBlk hb m
  have H3 : St w0 w' (rDiskX p d' x ++ L) := by
    have e1 : d'.sure = d.sure := by simp [Dsk.sure, hv]
    have e2 : d'.extra = d.extra := by simp [Dsk.extra, hv]
    unfold rDiskX
    rw [hv, e1, e2]
    refine St.infact ⟨hok, h3⟩ ?_
    exact H2
  exact H3.mkDisk x
set_option maxHeartbeats 1000000 in
theorem St.take (H : St w0 w (rDisk p d :: L)) (ht : d.taken < maxTaken) : Calls Tryd.prog 62 #[.pointer (some ⟨p, 0, none⟩)] w fun e w' => e = .returned (.bool d.take.1) ∧ St w0 w' (rDisk p d.take.2 :: L) := by
  obtain ⟨x, H⟩ := H.disk
  have h := H.diskIs
  have hb := h.blk
  have hk := h.ok.take
  have hl1 := h.ok.left1
  have hl2 := h.ok.left2
  unfold maxTaken at ht
  by_cases ho : d.off = true ∨ d.left = 0
  · have e : d.take = (false, { d with off := true }) := by simp only [Dsk.take, if_pos ho]
    rw [e] at hk ⊢
    refine (take_off h.atF ho).mono ?_
    rintro _ w' ⟨rfl, rfl⟩
    refine ⟨rfl, H.setD _ rfl hk ?_ (Moved.cell0 _ _ _ _)⟩
    rw [heap_setCell_self hb]
    rfl
  · have e : d.take = (true, { d with left := max (-1) (d.left - 1), taken := d.taken + 1 }) := by simp only [Dsk.take, if_neg ho]
    have hof : d.off = false := by cases h1 : d.off with | false => rfl | true => exact absurd (.inl h1) ho
    have hl0 : d.left ≠ 0 := fun h => ho (.inr h)
    rw [e] at hk ⊢
    have hA := h.atF
    rw [hof] at hA
    by_cases hp : 0 < d.left
    · have em : max (-1) (d.left - 1) = d.left - 1 := by omega
      refine (take_lim hA hp hl2 (by omega) (by omega)).mono ?_
      rintro _ w' ⟨rfl, rfl⟩
      refine ⟨rfl, H.setD _ rfl hk ?_ ((Moved.cell0 _ _ _ _).cell _ _)⟩
      rw [heap_setCell_self (heap_setCell_self hb _)]
      simp only [dObj, em]
      rfl
    · have el : d.left = -1 := by omega
      have em : max (-1 : Int) (-1 - 1) = -1 := by omega
      rw [el] at hA
      refine (take_free hA (by omega) (by omega)).mono ?_
      rintro _ w' ⟨rfl, rfl⟩
      refine ⟨rfl, H.setD _ rfl hk ?_ ((Moved.cell0 _ _ _ _).cell _ _)⟩
      rw [heap_setCell_self (heap_setCell_self hb _)]
      simp only [dObj, el, em]
      rfl
/-- Limit. -/
theorem St.limit (H : St w0 w (rDisk p d :: L)) (n : Int) (hn : n ≤ 9223372036854775807) : Calls Tryd.prog 20 #[.pointer (some ⟨p, 0, none⟩), .int .i64 n] w fun e w' => e = .returned (.tuple #[]) ∧ St w0 w' (rDisk p (d.limit n) :: L) := by
  have hi := H.is
  obtain ⟨x, H⟩ := H.disk
  have h := H.diskIs
  have hb := h.blk
  have hF := h.atF
  have f3 := hF.fz 3
  have c3 := hF.c3
  have hE : Calls Tryd.prog 20 #[.pointer (some ⟨p, 0, none⟩), .int .i64 n] w fun e w' => e = .returned (.tuple #[]) ∧ w' = w.setCell ⟨p, 3, none⟩ (.int .i64 (max (-1) n)) := by
    clear H h hb hF
    go_enter Tryd.func20, Tryd.ntmps20
    go_wp2_with fail
    refine hi.mono ?_
    rintro e w1 ⟨rfl, rfl⟩
    go_wp2
    all_goals (go_end0; refine ⟨rfl, ?_⟩)
    · have e : max (-1) n = n := by omega
      rw [e]
    · have e : max (-1) n = -1 := by omega
      rw [e]
  refine hE.mono ?_
  rintro _ w' ⟨rfl, rfl⟩
  refine ⟨rfl, H.setD _ rfl (h.ok.limit hn) ?_ (Moved.cell0 _ _ _ _)⟩
  rw [heap_setCell_self hb]
  rfl
theorem St.look (H : St w0 w (rDisk p d :: L)) (i : Int) : Calls Tryd.prog 44 #[.pointer (some ⟨p, 0, none⟩), .int .i64 i] w fun e w' => e = .returned (.int .i64 (if i < 0 ∨ (d.vals.length : Int) ≤ i then 2 else 0)) ∧ w' = w := by
  have hi := H.is
  have hs := H.sectors
  by_cases h1 : i < 0
  · have b1 : decide (i < 0) = true := decide_eq_true h1
    rw [if_pos (.inl h1)]
    clear H
    go_enter Tryd.func44, Tryd.ntmps44
    go_wp2_with fail
    refine hi.mono ?_
    rintro e w1 ⟨rfl, rfl⟩
    go_wp2
    go_ret
    exact ⟨rfl, rfl⟩
  · have b1 : decide (i < 0) = false := decide_eq_false h1
    by_cases h2 : (d.vals.length : Int) ≤ i
    · have b2 : decide ((d.vals.length : Int) ≤ i) = true := decide_eq_true h2
      rw [if_pos (.inr h2)]
      clear H
      go_enter Tryd.func44, Tryd.ntmps44
      go_wp2_with fail
      refine hi.mono ?_
      rintro e w1 ⟨rfl, rfl⟩
      go_wp2_with fail
      refine hs.mono ?_
      rintro e w1 ⟨rfl, rfl⟩
      go_wp2
      go_ret
      exact ⟨rfl, rfl⟩
    · have b2 : decide ((d.vals.length : Int) ≤ i) = false := decide_eq_false h2
      rw [if_neg (by omega)]
      clear H
      go_enter Tryd.func44, Tryd.ntmps44
      go_wp2_with fail
      refine hi.mono ?_
      rintro e w1 ⟨rfl, rfl⟩
      go_wp2_with fail
      refine hs.mono ?_
      rintro e w1 ⟨rfl, rfl⟩
      go_wp2
      go_ret
      exact ⟨rfl, rfl⟩
end
end Go.Proofs.YtfhdiddlloiglaaDoor
end
section
/- The checksum. -/
namespace Go.Proofs.YtfhdiddlloiglaaDoor
open Go.RowKit Go.Proofs.YtfhdiddlloiglaaDoorW.PrintWords
set_option linter.unusedVariables false
set_option linter.unusedSimpArgs false
set_option maxRecDepth 100000

/-- The table of half bytes, laid. -/
def Half (w : World) : Prop := ∀ j, j < 16 → w.cell? ⟨0, j, none⟩ = some (.int .u32 ((half.getD j 0).toNat : Int))
abbrev u32 (c : BitVec 32) : Value := .int .u32 (c.toNat : Int)
theorem ofInt_toNat (a : BitVec 32) : BitVec.ofInt 32 (a.toNat : Int) = a := by simp
theorem wrap_u32 (a : BitVec 32) : IntKind.u32.wrap (a.toNat : Int) = (a.toNat : Int) := by
  have := a.isLt
  simp only [IntKind.wrap, IntKind.bits, IntKind.signed]
  simp
  omega
theorem bits_and (a b : BitVec 32) : bits .and .u32 (a.toNat : Int) (b.toNat : Int) = ((a &&& b).toNat : Int) := by
  show IntKind.u32.wrap ((BitVec.ofInt 32 (a.toNat : Int) &&& BitVec.ofInt 32 (b.toNat : Int)).toNat : Int) = _
  rw [ofInt_toNat, ofInt_toNat, wrap_u32]
theorem bits_xor (a b : BitVec 32) : bits .xor .u32 (a.toNat : Int) (b.toNat : Int) = ((a ^^^ b).toNat : Int) := by
  show IntKind.u32.wrap ((BitVec.ofInt 32 (a.toNat : Int) ^^^ BitVec.ofInt 32 (b.toNat : Int)).toNat : Int) = _
  rw [ofInt_toNat, ofInt_toNat, wrap_u32]
theorem turn_calls (w : World) (h : Half w) (c : BitVec 32) : Calls Tryd.prog 85 #[u32 c] w fun e w' => e = .returned (u32 (crcTurn c)) ∧ w' = w := by
  obtain ⟨j, hj⟩ : ∃ j, j = (c &&& 15).toNat := ⟨_, rfl⟩
  have h1 : bits .and .u32 (c.toNat : Int) 15 = (j : Int) := by rw [hj]; exact bits_and c 15
  have hl : j < 16 := by
    have : (c &&& 15).toNat ≤ 15 := by rw [BitVec.toNat_and]; exact Nat.and_le_right
    omega
  have hc := h j hl
  have h2 : (0 : Int) ≤ (j : Int) := by omega
  have h3 : (j : Int) < 16 := by omega
  obtain ⟨t, ht⟩ : ∃ t, t = half.getD j 0 := ⟨_, rfl⟩
  obtain ⟨r, hr⟩ : ∃ r, r = crcTurn c := ⟨_, rfl⟩
  have h5 : bits .xor .u32 ((c.toNat : Int) / 16) (t.toNat : Int) = (r.toNat : Int) := by
    have e1 : (c.toNat : Int) / (16 : Int) = ((c >>> 4).toNat : Int) := by
      rw [BitVec.toNat_ushiftRight, Nat.shiftRight_eq_div_pow]
      omega
    rw [e1, bits_xor, hr, ht, hj]
    rfl
  rw [← ht] at hc
  rw [← hr]
  clear hj ht hr h
  go_enter Tryd.func85, Tryd.ntmps85
  go_wp2
  go_ret
  exact ⟨rfl, rfl⟩
end Go.Proofs.YtfhdiddlloiglaaDoor
end
