/- What the laws use; DiskSynced walked. -/
import Derived.Test.YtoojcgmdcbcenaaAc
namespace Go.Proofs.Ytoojcgmdcbcenaa
open Go.RowKit Go.Maps Go.Proofs.YtoojcgmdcbcenaaW.PrintWords
set_option linter.unusedVariables false
set_option linter.unusedSimpArgs false
set_option maxRecDepth 100000

/-- Numbers that lie where nobody writes. -/
def rRdK (k : IntKind) (A : Option Addr) (l : List Int) : Res :=
  ⟨fun w T S => (Kd.C (Kd.int k) w A l.length l ∧ ∀ ad, A = some ad → 0 < l.length → T ad.block) ∧ ∀ i, ¬ S i, fun h i hi => absurd hi (h.2 i),
   fun {w T S w' T'} h _ hk hT => ⟨⟨⟨h.1.1.1, h.1.1.2.1, fun hn => by
     obtain ⟨ad, e, hc⟩ := h.1.1.2.2 hn
     refine ⟨ad, e, fun j p hp => ?_⟩
     obtain ⟨c, h1, h2, h3⟩ := hc j p hp
     refine ⟨c, h1, h2, fun i u hu => ?_⟩
     have hb : (ad.add (j * (Kd.int k).sz + i)).block = ad.block := by unfold Addr.add; split <;> rfl
     rw [World.cell?_of_block (w := w) (by rw [hb]; exact hk _ (.inr (h.1.2 ad e hn)))]
     exact h3 i u hu⟩, fun ad e hn => hT _ (h.1.2 ad e hn)⟩, h.2⟩⟩
section
variable {w0 w : World} {p : Nat} {d : Dsk} {L : List Res}
theorem St.oldK {k : IntKind} {A : Option Addr} {l : List Int} (H : St w0 w L) (h : Kd.C (Kd.int k) w0 A l.length l) : St w0 w (rRdK k A l :: L) := by
  have hb := H.below
  obtain ⟨⟨T, S, h1, hT, hS, h0⟩, hB⟩ := H.emp
  have hc : Kd.C (Kd.int k) w A l.length l := Kd.C_below h hb
  refine ⟨⟨T, S, ?_, hT, hS, h0⟩, hB⟩
  obtain ⟨S1, S2, e1, e2, e3, e4⟩ := h1
  refine ⟨S1, S2, ⟨⟨hc, fun ad e hn => h0 _ ?_⟩, e1⟩, e2, e3, e4⟩
  obtain ⟨ad', e', hcc⟩ := h.2.2 hn
  rw [e] at e'
  cases e'
  obtain ⟨c, g1, g2, g3⟩ := hcc 0 _ (List.getElem?_eq_getElem hn)
  have hl : 0 < c.length := by rw [g1]; exact Nat.zero_lt_one
  have := World.block_lt_of_cell? w0 _ (g3 0 _ (List.getElem?_eq_getElem hl))
  have hb : (ad.add (0 * (Kd.int k).sz + 0)).block = ad.block := by unfold Addr.add; split <;> rfl
  rwa [hb] at this
theorem St.imageAt (H : St w0 w (rDisk p d :: L)) (ht : d.taken ≤ maxTaken) {n : Nat} (hn : d.image.length = n) : Calls Try.prog 13 #[.pointer (some ⟨p, 0, none⟩)] w fun e w' => ∃ A c, e = .returned (.slice A n c) ∧ St w0 w' (rRow 5 1 (.slice A n c) n (bytes d.image) :: rDisk p d :: L) := by
  subst hn
  refine (H.image ht).mono ?_
  rintro e w' ⟨v, rfl, h⟩
  obtain ⟨A, c, rfl⟩ := own_slice h.row
  exact ⟨A, c, rfl, h⟩
theorem St.sureAt (H : St w0 w (rDisk p d :: L)) {n : Nat} (hn : d.sure.length = n) : Calls Try.prog 16 #[.pointer (some ⟨p, 0, none⟩)] w fun e w' => ∃ A c, e = .returned (.slice A n c) ∧ St w0 w' (rRow 5 1 (.slice A n c) n (bytes d.sure) :: rDisk p d :: L) := by
  subst hn
  refine H.sure.mono ?_
  rintro e w' ⟨v, rfl, h, hb⟩
  have H1 := H.gainRow hb h
  obtain ⟨A, c, rfl⟩ := own_slice h
  exact ⟨A, c, rfl, H1⟩
theorem same_eq {w : World} {A1 A2 : Option Addr} {n1 n2 c1 c2 : Nat} {l1 l2 : List Int} (h1 : Rd w A1 l1) (h2 : Rd w A2 l2) (e1 : l1.length = n1) (e2 : l2.length = n2) (e : l1 = l2) : Calls Try.prog 15 #[.slice A1 n1 c1, .slice A2 n2 c2] w fun e w' => e = .returned (.bool true) ∧ Below w.heap.size w w' := by
  have := same_of (c1 := c1) (c2 := c2) h1 h2 e1 e2
  rwa [show decide (l1 = l2) = true from decide_eq_true e] at this
end
/-! ### disks without a limit -/
def Free (d : Dsk) : Prop := d.off = false ∧ d.left = -1
theorem Free.take {d : Dsk} (h : Free d) : d.take = (true, { d with left := -1, taken := d.taken + 1 }) := by
  obtain ⟨h1, h2⟩ := h
  unfold Dsk.take
  rw [if_neg (by rw [h1, h2]; decide), h2]
  rfl
theorem Free.takeF {d : Dsk} (h : Free d) : Free d.take.2 := by rw [h.take]; exact ⟨h.1, rfl⟩
theorem Free.sync {d : Dsk} (h : Free d) : d.sync = (0, { d with vals := d.vals.map fun l => [lastOf l], left := -1, taken := d.taken + 1 }) := by
  unfold Dsk.sync
  rw [h.take]
  rfl
theorem Free.syncF {d : Dsk} (h : Free d) : Free d.sync.2 := by rw [h.sync]; exact ⟨h.1, rfl⟩
theorem Free.write {d : Dsk} (h : Free d) {i : Nat} (hi : i < d.vals.length) {b : Sec} (hb : b.length = 256) : d.write i b = (0, { d with vals := d.vals.modify i (· ++ [b]), left := -1, taken := d.taken + 1 }) := by
  unfold Dsk.write
  rw [if_neg (by omega), if_neg (by omega), h.take]
  rfl
theorem Free.writeF {d : Dsk} (h : Free d) (i : Int) (b : Sec) : Free (d.write i b).2 := by
  unfold Dsk.write
  split
  · exact h
  · split
    · exact h
    · rw [h.take]
      exact ⟨h.1, rfl⟩
theorem Free.do1 {d : Dsk} (h : Free d) (x : S42) : Free (do1 d x) := by
  unfold Go.Proofs.Ytoojcgmdcbcenaa.do1
  split
  · exact h.syncF
  · exact h.writeF _ _
theorem Free.doD : ∀ (l : List S42) {d : Dsk}, Free d → Free (doD d l)
  | [], _, h => h
  | x :: r, _, h => Free.doD r (h.do1 x)
theorem newD_free (n : Nat) : Free (newD n) := ⟨rfl, rfl⟩
theorem crashed_one (picks : List Int) : ∀ (l : List (List Sec)) (j : Nat), (∀ x ∈ l, x.length = 1) → Dsk.crashed picks j l = l
  | [], _, _ => rfl
  | x :: r, j, h => by
    have := h x (by simp)
    unfold Dsk.crashed
    rw [if_pos (by omega), crashed_one picks r j fun y hy => h y (by simp [hy])]
theorem settled_one (d : Dsk) : ∀ l ∈ d.vals.map (fun l => [lastOf l]), l.length = 1 := fun l hl => by
  obtain ⟨m, _, rfl⟩ := List.mem_map.1 hl; rfl
theorem sync_facts {d : Dsk} (h : Free d) : d.sync.1 = 0 ∧ d.sync.2.sure = d.image ∧ d.sync.2.image = d.image ∧ (∀ picks, (d.sync.2.crash picks).image = d.image ∧ (d.sync.2.crash picks).pending = 0) := by
  rw [h.sync]
  refine ⟨rfl, ?_, ?_, fun picks => ?_⟩
  · simp only [Dsk.sure, Dsk.image, List.flatMap_map]; rfl
  · simp only [Dsk.image, List.flatMap_map]; rfl
  · have hc := crashed_one picks _ 0 (settled_one d)
    constructor
    · simp only [Dsk.image, Dsk.crash, hc, List.flatMap_map]; rfl
    · simp only [Dsk.pending, Dsk.crash, hc]
      rw [List.length_eq_zero_iff, List.filter_eq_nil_iff]
      intro l hl
      have := settled_one d l hl
      simp [this]
theorem crash_taken (d : Dsk) (picks : List Int) : (d.crash picks).taken = d.taken := rfl
theorem crash_len (d : Dsk) (picks : List Int) : (d.crash picks).vals.length = d.vals.length := crashed_length picks d.vals 0
end Go.Proofs.Ytoojcgmdcbcenaa
