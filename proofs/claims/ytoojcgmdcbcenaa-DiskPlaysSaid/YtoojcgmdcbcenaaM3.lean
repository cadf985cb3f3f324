/- The disk's value, Sure, Read, Pending, written. -/
import Derived.Test.YtoojcgmdcbcenaaM2
namespace Go.Proofs.Ytoojcgmdcbcenaa
open Go.RowKit Go.Maps Go.Proofs.YtoojcgmdcbcenaaW.PrintWords
set_option linter.unusedVariables false
set_option linter.unusedSimpArgs false
set_option maxRecDepth 100000

theorem flat_len {f : List Sec → Sec} : ∀ {l : List (List Sec)}, (∀ x ∈ l, (f x).length = 256) → (l.flatMap f).length = l.length * 256
  | [], _ => rfl
  | a :: r, h => by
    rw [List.flatMap_cons, List.length_append, h a (by simp), flat_len (l := r) (fun x hx => h x (by simp [hx])), List.length_cons]; omega
theorem flat_part {f : List Sec → Sec} : ∀ {l : List (List Sec)} (i : Nat), (∀ x ∈ l, (f x).length = 256) → i < l.length → ((l.flatMap f).drop (i * 256)).take 256 = f (l.getD i [])
  | [], i, _, h => absurd h (by simp)
  | a :: r, 0, h, _ => by
    have := h a (by simp)
    simp only [List.flatMap_cons, Nat.zero_mul, List.drop_zero, List.getD_cons_zero]
    rw [List.take_append_of_le_length (by omega), List.take_of_length_le (by omega)]
  | a :: r, i + 1, h, hi => by
    have h1 := h a (by simp)
    have e : (i + 1) * 256 = 256 + i * 256 := by omega
    rw [List.flatMap_cons, e, ← List.drop_drop, List.drop_left' h1, List.getD_cons_succ]
    exact flat_part i (fun x hx => h x (by simp [hx])) (by simpa using hi)
theorem Dsk.Ok.get {d : Dsk} (h : d.Ok) {i : Nat} (hi : i < d.vals.length) : d.vals.getD i [] ∈ d.vals := by
  rw [List.getD_eq_getElem?_getD, List.getElem?_eq_getElem hi]; exact List.getElem_mem hi
theorem Dsk.Ok.head {d : Dsk} (h : d.Ok) : ∀ x ∈ d.vals, (headOf x).length = 256 := fun x hx => (h.sec x hx _ (headOf_mem (h.ne x hx))).1
theorem Dsk.Ok.last {d : Dsk} (h : d.Ok) : ∀ x ∈ d.vals, (lastOf x).length = 256 := fun x hx => (h.sec x hx _ (lastOf_mem (h.ne x hx))).1
theorem Dsk.Ok.sure_len {d : Dsk} (h : d.Ok) : d.sure.length = d.vals.length * 256 := flat_len h.head
theorem Dsk.Ok.image_len {d : Dsk} (h : d.Ok) : d.image.length = d.vals.length * 256 := flat_len h.last
theorem Dsk.Ok.pos {d : Dsk} (h : d.Ok) {i : Nat} (hi : i < d.vals.length) : 0 < (d.vals.getD i []).length := List.length_pos_iff.2 (h.ne _ (h.get hi))
theorem headOf_get (l : List Sec) : headOf l = l.getD 0 [] := by cases l <;> rfl
theorem lastOf_get (l : List Sec) : lastOf l = l.getD (l.length - 1) [] := by
  rw [lastOf, List.getLastD_eq_getLast?, List.getLast?_eq_getElem?, List.getD_eq_getElem?_getD]

theorem zero31 (w : World) : (zeroValue 31).run Try.prog w = .ok (.slice none 0 0) w := by kernel_rfl
theorem zero3 (w : World) : (zeroValue 3).run Try.prog w = .ok (.int .i64 0) w := by kernel_rfl
theorem le_of_wf {k : Nat} (h : (Lit.int .i64 (k : Int)).wf = true) : k ≤ 9223372036854775807 := by
  simp [Lit.wf, IntKind.min, IntKind.max, IntKind.bits, IntKind.signed] at h
  omega
section
variable {w0 w : World} {p : Nat} {d : Dsk} {L : List Res}
theorem DiskIs.sureRow {x : DX} (h : DiskIs w p d x) : w.ownsRow 0 5 1 (.slice (some ⟨x.a, 0, none⟩) (d.vals.length * 256) x.cap) d.sure.length (bytes d.sure) := by
  rw [h.ok.sure_len]; exact h.sure
/-- One of a sector's values: the lookup in the map. -/
theorem DiskIs.fresh {x : DX} (h : DiskIs w p d x) {i k : Nat} (hi : i < d.vals.length) (h1 : 1 ≤ k) (hk : k < (d.vals.getD i []).length) (hb : k ≤ 9223372036854775807) :
    ∃ b c, (Instr.lookup 50 (.map (some x.mf)) (.agg #[.int .i64 (i : Nat), .int .i64 (k : Nat)]) false).run Try.prog w = .ok (.slice (some ⟨b, 0, none⟩) 256 c) w ∧ w.ownsRow 0 5 1 (.slice (some ⟨b, 0, none⟩) 256 c) 256 (bytes ((d.vals.getD i []).getD k [])) := by
  have hn := h.ok.n2
  obtain ⟨b, c, h3, h4⟩ := h.vals i k _ h1 (List.getElem?_eq_getElem hk)
  obtain ⟨v, ps, hrun, hv⟩ := h.mf.lookup (t := 50) K73 Try.underlying50 (zero31 w) rdVal_nil (spot_key (a := (i : Nat)) (b := (k : Nat)) (wf64 (by omega) (by omega)) (wf64 (by omega) (by omega)))
  rw [h3] at hv
  obtain rfl := rdVal_inv hv
  refine ⟨b, c, hrun, ?_⟩
  rw [List.getD_eq_getElem?_getD, List.getElem?_eq_getElem hk]
  exact h4
/-- How often a sector was written: the lookup in the map. -/
theorem DiskIs.often {x : DX} (h : DiskIs w p d x) {i : Nat} (hi : i < d.vals.length) :
    (Instr.lookup 51 (.map (some x.mm)) (.int .i64 (i : Nat)) false).run Try.prog w = .ok (.int .i64 ((d.vals.getD i []).length - 1 : Nat)) w ∧ ((d.vals.getD i []).length - 1 : Nat) ≤ 9223372036854775807 := by
  have hn := h.ok.n2
  obtain ⟨c, hrun, hat, hw⟩ := h.mm.lookup_int (t := 51) K3 Try.underlying51 Try.underlying3 (zero3 w) (keyOf_int_mk Try.underlying3 (wf64 (x := (i : Nat)) (by omega) (by omega)))
  rw [h.many.at_ i hi] at hat
  injection hat with hat
  injection hat with _ hat
  subst hat
  refine ⟨hrun, ?_⟩
  exact le_of_wf hw
theorem own_256 {w : World} {b c : Nat} {s : Sec} (hs : s.length = 256) (h : w.ownsRow 0 5 1 (.slice (some ⟨b, 0, none⟩) 256 c) 256 (bytes s)) : 256 ≤ c ∧ Rd w (some ⟨b, 0, none⟩) s := by
  rw [← hs] at h
  obtain ⟨h1, h2, h3⟩ := own_rd h
  exact ⟨by omega, h3⟩
set_option maxHeartbeats 1000000 in
/-- The sure value, out of a row of bytes. -/
theorem value0_calls {w : World} {p i n c : Nat} {g : Nat} {bs : List Int} (c0 : w.cell? ⟨p, 0, none⟩ = some (.slice (some ⟨g, 0, none⟩) n c)) (hrow : w.ownsRow 0 5 1 (.slice (some ⟨g, 0, none⟩) n c) bs.length (bytes bs)) (hi : i * 256 + 256 ≤ bs.length) (hn : bs.length ≤ 1048576) :
    Calls Try.prog 40 #[.pointer (some ⟨p, 0, none⟩), .int .i64 (i : Nat), .int .i64 0] w fun e w' => ∃ a c, e = .returned (.slice (some a) 256 c) ∧ 256 ≤ c ∧ Rd w (some a) ((bs.drop (i * 256)).take 256) ∧ w' = w := by
  obtain ⟨e1, hcap, _⟩ := own_rd hrow
  have hpart := own_part hrow (i * 256) 256 (by omega)
  obtain ⟨lo, hlo⟩ : ∃ lo : Nat, lo = i * 256 := ⟨_, rfl⟩
  obtain ⟨i1, hi1⟩ : ∃ i1 : Nat, i1 = i + 1 := ⟨_, rfl⟩
  obtain ⟨h1, hh1⟩ : ∃ h1 : Nat, h1 = lo + 256 := ⟨_, rfl⟩
  have wr1 : wrap64 ((i : Int) * 256) = (lo : Int) := by unfold wrap64; omega
  have wr2 : wrap64 ((i : Int) + 1) = (i1 : Int) := by unfold wrap64; omega
  have wr3 : wrap64 ((i1 : Int) * 256) = (h1 : Int) := by unfold wrap64; omega
  have q1 : (0 : Int) ≤ (lo : Int) := by omega
  have q2 : (lo : Int) ≤ (h1 : Int) := by omega
  have q3 : (h1 : Int) ≤ (c : Int) := by omega
  have q4 : (0 : Int) ≤ (h1 : Int) := by omega
  rw [← hlo] at hpart ⊢
  have HR := Aside0.mk hpart
  have hc : 256 ≤ c - lo := by omega
  have h256 : h1 - lo = 256 := by omega
  have HC := Aside0.mk hc
  clear hrow hpart hi hn hcap hlo hi1 hh1 hc e1
  go_enter Try.func40, Try.ntmps40
  go_wp2
  go_ret
  exact ⟨_, _, rfl, HC.out, HR.out, rfl⟩
set_option maxHeartbeats 1000000 in
/-- A value that was written since. -/
theorem value1_calls {w : World} {p k b c mf : Nat} {i : Nat} {s : Sec} (c1 : w.cell? ⟨p, 1, none⟩ = some (.map (some mf))) (h0 : k ≠ 0)
    (hl : (Instr.lookup 50 (.map (some mf)) (.agg #[.int .i64 (i : Nat), .int .i64 (k : Nat)]) false).run Try.prog w = .ok (.slice (some ⟨b, 0, none⟩) 256 c) w) (hs : s.length = 256) (hO : w.ownsRow 0 5 1 (.slice (some ⟨b, 0, none⟩) 256 c) 256 (bytes s)) :
    Calls Try.prog 40 #[.pointer (some ⟨p, 0, none⟩), .int .i64 (i : Nat), .int .i64 (k : Nat)] w fun e w' => ∃ a c, e = .returned (.slice (some a) 256 c) ∧ 256 ≤ c ∧ Rd w (some a) s ∧ w' = w := by
  have b0 : ((k : Int) == 0) = false := by simpa using h0
  obtain ⟨hc, hR⟩ := own_256 hs hO
  have HR := Aside0.mk hR
  clear hs hO hR
  go_enter Try.func40, Try.ntmps40
  go_wp2
  go_ret
  exact ⟨_, _, rfl, hc, HR.out, rfl⟩
theorem DiskIs.value {x : DX} (h : DiskIs w p d x) {i k : Nat} (hi : i < d.vals.length) (hk : k < (d.vals.getD i []).length) (hb : k ≤ 9223372036854775807) :
    Calls Try.prog 40 #[.pointer (some ⟨p, 0, none⟩), .int .i64 (i : Nat), .int .i64 (k : Nat)] w fun e w' => ∃ a c, e = .returned (.slice (some a) 256 c) ∧ 256 ≤ c ∧ Rd w (some a) ((d.vals.getD i []).getD k []) ∧ w' = w := by
  have hF := h.atF.toAt
  have hn := h.ok.n2
  have hs := h.ok.sec _ (h.ok.get hi)
  have hl := h.ok.sure_len
  by_cases h0 : k = 0
  · subst h0
    have e0 : (d.vals.getD i []).getD 0 [] = headOf (d.vals.getD i []) := (headOf_get _).symm
    have e1 : (d.sure.drop (i * 256)).take 256 = headOf (d.vals.getD i []) := flat_part i h.ok.head hi
    rw [e0, ← e1]
    exact value0_calls hF.c0 h.sureRow (by omega) (by omega)
  · obtain ⟨b, c, hlk, hO⟩ := h.fresh hi (by omega) hk hb
    have hg : ((d.vals.getD i []).getD k []).length = 256 := by
      rw [List.getD_eq_getElem?_getD, List.getElem?_eq_getElem hk]; exact (hs _ (List.getElem_mem hk)).1
    exact value1_calls hF.c1 h0 hlk hg hO
theorem St.sure (H : St w0 w (rDisk p d :: L)) : Calls Try.prog 16 #[.pointer (some ⟨p, 0, none⟩)] w fun e w' => ∃ v, e = .returned v ∧ w'.ownsRow w.heap.size 5 1 v d.sure.length (bytes d.sure) ∧ Below w.heap.size w w' := by
  have hi := H.is
  obtain ⟨x, H⟩ := H.disk
  have h := H.diskIs
  have hn := h.ok.n2
  obtain ⟨e1, e2, hR⟩ := own_rd h.sureRow
  have hl : d.sure.length ≤ 140737488355328 := by rw [h.ok.sure_len]; omega
  have hc := clone_calls (c := x.cap) hR hl (by simp)
  rw [← e1] at hc
  obtain ⟨c0, c1, c2, c3, c4, c5⟩ := h.atF.toAt
  have E1 := Aside0.mk e1
  clear H h hn hR hl e1
  go_enter Try.func16, Try.ntmps16
  go_wp2_with fail
  refine hi.mono ?_
  rintro e w1 ⟨rfl, rfl⟩
  go_wp2_with fail
  refine hc.mono ?_
  rintro e w2 ⟨v, rfl, h1, h2, h3⟩
  rw [E1.out] at h1
  go_wp2
  go_ret
  exact ⟨v, rfl, h1, h2⟩
theorem St.written (H : St w0 w (rDisk p d :: L)) : ∃ x, St w0 w (rDiskX p d x ++ L) ∧ Calls Try.prog 39 #[.pointer (some ⟨p, 0, none⟩)] w fun e w' => e = .returned (.map (some x.mm)) ∧ w' = w := by
  have hi := H.is
  obtain ⟨x, H⟩ := H.disk
  refine ⟨x, H, ?_⟩
  obtain ⟨c0, c1, c2, c3, c4, c5⟩ := H.diskIs.atF.toAt
  clear H
  go_enter Try.func39, Try.ntmps39
  go_wp2_with fail
  refine hi.mono ?_
  rintro e w1 ⟨rfl, rfl⟩
  go_wp2
  go_ret
  exact ⟨rfl, rfl⟩
theorem St.pending (H : St w0 w (rDisk p d :: L)) : Calls Try.prog 18 #[.pointer (some ⟨p, 0, none⟩)] w fun e w' => e = .returned (.int .i64 (d.pending : Nat)) ∧ w' = w := by
  have hi := H.is
  obtain ⟨x, H⟩ := H.disk
  have h := H.diskIs
  have hl := fun ty => h.mm.len (t := 51) Try.underlying51 ty
  rw [h.many.size (h.mm.entries K3), pend_pending] at hl
  obtain ⟨c0, c1, c2, c3, c4, c5⟩ := h.atF.toAt
  clear H h
  go_enter Try.func18, Try.ntmps18
  go_wp2_with fail
  refine hi.mono ?_
  rintro e w1 ⟨rfl, rfl⟩
  go_wp2
  go_ret
  exact ⟨rfl, rfl⟩
theorem St.read (H : St w0 w (rDisk p d :: L)) (i : Int) : Calls Try.prog 20 #[.pointer (some ⟨p, 0, none⟩), .int .i64 i] w fun e w' => ∃ v, e = .returned (.tuple #[v, .int .i64 (d.read i).2]) ∧ w'.ownsRow w.heap.size 5 1 v (d.read i).1.length (bytes (d.read i).1) ∧ Below w.heap.size w w' := by
  have hk := H.look i
  obtain ⟨x, H⟩ := H.disk
  have h := H.diskIs
  have hn := h.ok.n2
  obtain ⟨c0, c1, c2, c3, c4, c5⟩ := h.atF.toAt
  by_cases h1 : i < 0 ∨ (d.vals.length : Int) ≤ i
  · have e : d.read i = ([], 2) := by simp only [Dsk.read, if_pos h1]
    rw [if_pos h1] at hk
    rw [e]
    clear H h
    go_enter Try.func20, Try.ntmps20
    go_wp2_with fail
    refine hk.mono ?_
    rintro e w1 ⟨rfl, rfl⟩
    go_wp2
    go_ret2
    exact ⟨_, rfl, World.ownsRow_nil _ _ _ _, Below.refl _ _⟩
  · rw [if_neg h1] at hk
    obtain ⟨j, rfl⟩ : ∃ j : Nat, i = j := ⟨i.toNat, by omega⟩
    have hj : j < d.vals.length := by omega
    cases ho : d.off with
    | true =>
      have e : d.read j = ([], 10) := by simp only [Dsk.read, if_neg h1, if_pos ho]
      rw [e]
      rw [ho] at c4
      clear H h
      go_enter Try.func20, Try.ntmps20
      go_wp2_with fail
      refine hk.mono ?_
      rintro e w1 ⟨rfl, rfl⟩
      go_wp2
      go_ret2
      exact ⟨_, rfl, World.ownsRow_nil _ _ _ _, Below.refl _ _⟩
    | false =>
      have e : d.read j = (lastOf (d.vals.getD j []), 0) := by simp only [Dsk.read, if_neg h1, ho, Bool.false_eq_true, if_false, Int.toNat_natCast]
      rw [e]
      rw [ho] at c4
      obtain ⟨hof, hb⟩ := h.often hj
      have hp := h.ok.pos hj
      have hs := h.ok.sec _ (h.ok.get hj)
      have hg : ((d.vals.getD j []).getD ((d.vals.getD j []).length - 1) []).length = 256 := by
        rw [← lastOf_get]; exact (hs _ (lastOf_mem (h.ok.ne _ (h.ok.get hj)))).1
      rw [lastOf_get]
      obtain ⟨m, hm⟩ : ∃ m : Nat, m = (d.vals.getD j []).length - 1 := ⟨_, rfl⟩
      rw [← hm] at hof hb hg ⊢
      have hv := h.value (k := m) hj (by omega) hb
      have hC : ∀ a c, Rd w (some a) ((d.vals.getD j []).getD m []) → Calls Try.prog 45 #[.slice (some a) 256 c] w fun e w' => ∃ v, e = .returned v ∧ w'.ownsRow w.heap.size 5 1 v 256 (bytes ((d.vals.getD j []).getD m [])) ∧ Below w.heap.size w w' := fun a c hr => by
        have := clone_calls (c := c) hr (by omega) (by simp)
        rw [hg] at this
        refine this.mono ?_
        rintro e w' ⟨v, h1, h2, h3, _⟩
        exact ⟨v, h1, h2, h3⟩
      rw [hg]
      generalize (d.vals.getD j []).getD m [] = bs at *
      clear hs hg hp h1 hm
      clear H h
      go_enter Try.func20, Try.ntmps20
      go_wp2_with fail
      refine hk.mono ?_
      rintro e w1 ⟨rfl, rfl⟩
      go_wp2_with fail
      refine hv.mono ?_
      rintro e w2 ⟨a, c, rfl, _, hr, rfl⟩
      go_wp2_with fail
      refine (hC a c hr).mono ?_
      rintro e w2 ⟨v, rfl, h1, h2⟩
      go_wp2
      go_ret2
      exact ⟨v, rfl, h1, h2⟩
end
end Go.Proofs.Ytoojcgmdcbcenaa
