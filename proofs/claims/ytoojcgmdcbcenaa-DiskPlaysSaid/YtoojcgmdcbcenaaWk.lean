/- The chapter's example works. -/
import Derived.Test.YtoojcgmdcbcenaaBa
namespace Go.Proofs.Ytoojcgmdcbcenaa
open Go.RowKit Go.Maps Go.Proofs.YtoojcgmdcbcenaaW.PrintWords
set_option linter.unusedVariables false
set_option linter.unusedSimpArgs false
set_option maxRecDepth 100000

/-- A sector of one byte. -/
def fullS (c : Int) : Sec := List.replicate 256 c
theorem fullS_len (c : Int) : (fullS c).length = 256 := List.length_replicate
theorem fullS_mem {c : Int} (h : 0 ≤ c ∧ c ≤ 255) : ∀ x ∈ fullS c, 0 ≤ x ∧ x ≤ 255 := fun x hx => by rw [(List.mem_replicate.1 hx).2]; exact h
section
variable {w0 w : World} {p : Nat} {d : Dsk} {L : List Res}
theorem rRow_rd {v : Value} {A : Option Addr} {n c : Nat} {l : List Int} (hn : l.length = n) {w : World} {T S : Foot} (h : (rRow 5 1 (.slice A n c) n (bytes l)).has w T S) : Rd w A l := by
  subst hn
  obtain ⟨_, _, h⟩ := own_rd h.1
  exact h
theorem St.rdRow {A : Option Addr} {n c : Nat} {l : List Int} (H : St w0 w (rRow 5 1 (.slice A n c) n (bytes l) :: L)) (hn : l.length = n) : Rd w A l := by
  obtain ⟨T, S, h, _⟩ := H.fst
  exact rRow_rd (v := .slice A n c) hn h
theorem same_of {w : World} {A1 A2 : Option Addr} {n1 n2 c1 c2 : Nat} {l1 l2 : List Int} (h1 : Rd w A1 l1) (h2 : Rd w A2 l2) (e1 : l1.length = n1) (e2 : l2.length = n2) : Calls Try.prog 15 #[.slice A1 n1 c1, .slice A2 n2 c2] w fun e w' => e = .returned (.bool (decide (l1 = l2))) ∧ Below w.heap.size w w' := by
  subst e1 e2
  exact same_calls h1 h2
/-- Write of a row of one's own. -/
theorem St.writeRow {g cc : Nat} {b : Sec} (H : St w0 w (rDisk p d :: rRow 5 1 (.slice (some ⟨g, 0, none⟩) 256 cc) 256 (bytes b) :: L)) (hl : b.length = 256) (hb : ∀ x ∈ b, 0 ≤ x ∧ x ≤ 255) (ht : d.taken < maxTaken) (i : Int) :
    Calls Try.prog 21 #[.pointer (some ⟨p, 0, none⟩), .int .i64 i, .slice (some ⟨g, 0, none⟩) 256 cc] w fun e w' => e = .returned (.int .i64 (d.write i b).1) ∧ St w0 w' (rDisk p (d.write i b).2 :: L) := by
  have := St.write (A := some ⟨g, 0, none⟩) (b := b) H (fun {w T S} h => rRow_rd (v := .slice (some ⟨g, 0, none⟩) 256 cc) hl h) ht hb i cc (by simp)
  rw [hl] at this
  refine this.mono ?_
  rintro e w' ⟨h1, h2⟩
  exact ⟨h1, (St.swap h2).drop⟩
/-- full, and what it made. -/
theorem St.full (H : St w0 w L) (c : Int) : Calls Try.prog 22 #[.int .u8 c] w fun e w' => ∃ g cc, e = .returned (.slice (some ⟨g, 0, none⟩) 256 cc) ∧ St w0 w' (rRow 5 1 (.slice (some ⟨g, 0, none⟩) 256 cc) 256 (bytes (fullS c)) :: L) := by
  refine (full_calls w c).mono ?_
  rintro e w' ⟨v, rfl, hv, hb⟩
  have H1 := H.gainRow hb hv
  obtain ⟨g, cc, rfl, _, _⟩ := hv.form (by omega)
  exact ⟨g, cc, rfl, H1⟩
/-- Read, and what it made. -/
theorem St.readAt (H : St w0 w (rDisk p d :: L)) (i : Int) {s : Sec} {e0 : Int} (hs : d.read i = (s, e0)) : Calls Try.prog 20 #[.pointer (some ⟨p, 0, none⟩), .int .i64 i] w fun e w' => ∃ A c, e = .returned (.tuple #[.slice A s.length c, .int .i64 e0]) ∧ St w0 w' (rRow 5 1 (.slice A s.length c) s.length (bytes s) :: rDisk p d :: L) := by
  refine (H.read i).mono ?_
  rintro e w' ⟨v, rfl, hv, hb⟩
  rw [hs] at hv ⊢
  have H1 := H.gainRow hb hv
  obtain ⟨A, c, rfl⟩ := own_slice hv
  exact ⟨A, c, rfl, H1⟩
end
/-! ### the example's disks -/
def e0 : Dsk := newD 2
def e1 : Dsk := ⟨[[zeroSec, fullS 97], [zeroSec]], -1, false, 1⟩
def e2 : Dsk := ⟨[[fullS 97], [zeroSec]], -1, false, 2⟩
def e3 : Dsk := ⟨[[fullS 97, fullS 98], [zeroSec]], -1, false, 3⟩
def e4 : Dsk := ⟨[[fullS 97, fullS 98, fullS 99], [zeroSec]], -1, false, 4⟩
def e5 : Dsk := ⟨[[fullS 98], [zeroSec]], -1, false, 4⟩
def e6 : Dsk := ⟨[[fullS 97], [zeroSec]], -1, false, 4⟩
theorem w01 : e0.write 0 (fullS 97) = (0, e1) := by simp [Dsk.write, e0, newD, Dsk.take, Dsk.put, fullS_len, e1, List.replicate]; try omega
theorem s12 : e1.sync = (0, e2) := by simp [Dsk.sync, e1, Dsk.take, Dsk.settled, lastOf, e2]; try omega
theorem w23 : e2.write 0 (fullS 98) = (0, e3) := by simp [Dsk.write, e2, Dsk.take, Dsk.put, fullS_len, e3]; try omega
theorem w34 : e3.write 0 (fullS 99) = (0, e4) := by simp [Dsk.write, e3, Dsk.take, Dsk.put, fullS_len, e4]; try omega
theorem p4 : e4.pending = 1 := by simp [Dsk.pending, e4]
theorem c45 : e4.crash [1] = e5 := by simp [Dsk.crash, e4, Dsk.crashed, Dsk.pick, e5]
theorem c46 : e4.crash [] = e6 := by simp [Dsk.crash, e4, Dsk.crashed, Dsk.pick, e6]
theorem r5 : e5.read 0 = (fullS 98, 0) := by simp [Dsk.read, e5, lastOf]
theorem r6 : e6.read 0 = (fullS 97, 0) := by simp [Dsk.read, e6, lastOf]
theorem i5 : e5.image.length = 512 := by simp [Dsk.image, e5, lastOf, fullS_len, zeroSec]
section
variable {w0 w : World} {p : Nat} {d d' : Dsk} {L : List Res}
theorem St.writeTo {g cc : Nat} {b : Sec} {i e : Int} (h : d.write i b = (e, d')) (H : St w0 w (rDisk p d :: rRow 5 1 (.slice (some ⟨g, 0, none⟩) 256 cc) 256 (bytes b) :: L)) (hl : b.length = 256) (hb : ∀ x ∈ b, 0 ≤ x ∧ x ≤ 255) (ht : d.taken < maxTaken) :
    Calls Try.prog 21 #[.pointer (some ⟨p, 0, none⟩), .int .i64 i, .slice (some ⟨g, 0, none⟩) 256 cc] w fun x w' => x = .returned (.int .i64 e) ∧ St w0 w' (rDisk p d' :: L) := by
  have := H.writeRow hl hb ht i
  rw [h] at this
  exact this
theorem St.syncTo {e : Int} (h : d.sync = (e, d')) (H : St w0 w (rDisk p d :: L)) (ht : d.taken < maxTaken) : Calls Try.prog 14 #[.pointer (some ⟨p, 0, none⟩)] w fun x w' => x = .returned (.int .i64 e) ∧ St w0 w' (rDisk p d' :: L) := by
  have := H.sync ht
  rw [h] at this
  exact this
theorem blk_rdI {g : Nat} {l : List Int} (hl : l.length ≤ 9223372036854775807) {w : World} {T S : Foot} (h : (rBlk g (.cells (l.map (Value.int .i64)).toArray 3)).has w T S) : RdI w (some ⟨g, 0, none⟩) l :=
  ⟨rfl, hl, fun _ => ⟨⟨g, 0, none⟩, rfl, fun j p hp => ⟨[.int .i64 p], rfl, rfl, fun i u hu => by
    rcases i with _ | i
    · simp at hu
      subst hu
      show w.cell? ((⟨g, 0, none⟩ : Addr).add (j * 1 + 0)) = _
      rw [addr_add, cell_of_blk h.1]
      simp [hp]
    · simp at hu⟩⟩⟩
theorem nil_rdI {w : World} {T S : Foot} (h : rEmp.has w T S) : RdI w none [] := ⟨rfl, by simp, fun h => absurd h (by simp)⟩
end
set_option maxHeartbeats 4000000 in
theorem works_calls (w : World) : Calls Try.prog 9 #[] w fun e w' => e = .returned (.bool true) ∧ Below w.heap.size w w' := by
  have hnew := (St.start w).new (n := 2) (by omega) (by omega)
  have hf : ∀ {W : World} {L : List Res}, Aside0 (St w W L) → ∀ c, Calls Try.prog 22 #[.int .u8 c] W fun e w' => ∃ g cc, e = .returned (.slice (some ⟨g, 0, none⟩) 256 cc) ∧ Aside0 (St w w' (rRow 5 1 (.slice (some ⟨g, 0, none⟩) 256 cc) 256 (bytes (fullS c)) :: L)) := fun H c => (H.out.full c).mono fun e w' ⟨g, cc, h1, h2⟩ => ⟨g, cc, h1, ⟨h2⟩⟩
  go_enter Try.func9, Try.ntmps9
  go_wp2_with fail
  refine hnew.mono ?_
  rintro e W1 ⟨p, rfl, H1⟩
  replace H1 : Aside0 (St w W1 (rDisk p e0 :: [])) := ⟨H1⟩
  go_wp2_with fail
  refine (hf H1 97).mono ?_
  rintro e W2 ⟨g, cc, rfl, H2⟩
  go_wp2_with fail
  refine (St.writeTo w01 (St.swap H2.out) (fullS_len _) (fullS_mem (by omega)) (by unfold maxTaken; decide)).mono ?_
  rintro e W3 ⟨rfl, H3⟩
  replace H3 := Aside0.mk H3
  go_wp2_with fail
  refine (St.syncTo s12 H3.out (by unfold maxTaken; decide)).mono ?_
  rintro e W4 ⟨rfl, H4⟩
  replace H4 := Aside0.mk H4
  go_wp2_with fail
  refine (hf H4 98).mono ?_
  rintro e W5 ⟨g1, cc1, rfl, H5⟩
  go_wp2_with fail
  refine (St.writeTo w23 (St.swap H5.out) (fullS_len _) (fullS_mem (by omega)) (by unfold maxTaken; decide)).mono ?_
  rintro e W6 ⟨rfl, H6⟩
  replace H6 := Aside0.mk H6
  go_wp2_with fail
  refine (hf H6 99).mono ?_
  rintro e W7 ⟨g2, cc2, rfl, H7⟩
  go_wp2_with fail
  refine (St.writeTo w34 (St.swap H7.out) (fullS_len _) (fullS_mem (by omega)) (by unfold maxTaken; decide)).mono ?_
  rintro e W8 ⟨rfl, H8⟩
  replace H8 := Aside0.mk H8
  go_wp2_with fail
  refine H8.out.clone.mono ?_
  rintro e W9 ⟨q, rfl, H9⟩
  have hp9 := (St.swap H9).pending
  have ho9 := (St.swap H9).ops
  rw [p4] at hp9
  replace H9 := Aside0.mk H9
  go_wp2_with fail
  refine hp9.mono ?_
  rintro e W10 ⟨rfl, rfl⟩
  go_wp2_with fail
  refine ho9.mono ?_
  rintro e W11 ⟨rfl, rfl⟩
  have hB := (St.swap ((St.swap H9.out).alloc (.cells #[.int .i64 1] 3)))
  have hcr := St.crash (picks := [1]) (c := 1) hB (fun {w T S} h => blk_rdI (l := [1]) (by simp) h) (by unfold maxTaken; decide)
  rw [c45] at hcr
  replace hB := Aside0.mk hB
  go_wp2_with fail
  refine hcr.mono ?_
  rintro e W12 ⟨rfl, H12⟩
  have H12b := St.swap (St.rot3 H12).emp
  have hcr2 := St.crash (picks := []) (c := 0) H12b (fun {w T S} h => nil_rdI h) (by unfold maxTaken; decide)
  rw [c46] at hcr2
  clear H12b H12
  go_wp2_with fail
  refine hcr2.mono ?_
  rintro e W13 ⟨rfl, H13⟩
  have H14 := (St.swap H13).drop
  -- q: e6, p: e5
  have hr1 := (St.swap H14).readAt 0 r5
  clear H13 H14
  go_wp2_with fail
  refine hr1.mono ?_
  rintro e W14 ⟨A1, c1, rfl, H15⟩
  have H16 := St.rot3 H15
  have hr2 := H16.readAt 0 r6
  clear H15 H16
  go_wp2_with fail
  refine hr2.mono ?_
  rintro e W15 ⟨A2, c2, rfl, H17⟩
  replace H17 := Aside0.mk H17
  go_wp2_with fail
  refine (hf H17 98).mono ?_
  rintro e W16 ⟨g3, cc3, rfl, H18⟩
  have hs1 := same_of (c1 := c1) (c2 := cc3) ((St.rot4 H18.out).rdRow rfl) (H18.out.rdRow (fullS_len _)) rfl (fullS_len _)
  have ed1 : decide (fullS 98 = fullS 98) = true := decide_eq_true rfl
  rw [ed1] at hs1
  go_wp2_with fail
  refine hs1.mono ?_
  rintro e W17 ⟨rfl, hb17⟩
  have H19 := Aside0.mk (H18.out.go hb17)
  clear hb17 hs1
  go_wp2_with fail
  refine (hf H19 97).mono ?_
  rintro e W18 ⟨g4, cc4, rfl, H20⟩
  have hs2 := same_of (c1 := c2) (c2 := cc4) ((St.rot3 H20.out).rdRow rfl) (H20.out.rdRow (fullS_len _)) rfl (fullS_len _)
  rw [show decide (fullS 97 = fullS 97) = true from decide_eq_true rfl] at hs2
  go_wp2_with fail
  refine hs2.mono ?_
  rintro e W19 ⟨rfl, hb19⟩
  have H21 := (St.rot6 (H20.out.go hb19)).image (by unfold maxTaken; decide)
  clear hb19 hs2
  go_wp2_with fail
  refine H21.mono ?_
  rintro e W20 ⟨v, rfl, H22⟩
  obtain ⟨A3, c3, rfl⟩ := own_slice H22.row
  rw [i5] at H22
  have HB := Aside0.mk H22.below
  have e512 : e5.image.length = 512 := i5
  clear H22 H21
  go_wp2
  go_ret
  exact ⟨rfl, HB.out⟩
end Go.Proofs.Ytoojcgmdcbcenaa
