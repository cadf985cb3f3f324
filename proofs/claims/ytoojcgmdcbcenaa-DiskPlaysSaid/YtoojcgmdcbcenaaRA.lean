/- The reference's disk in memory, and what DiskPlays needs of it. -/
import Derived.Test.YtoojcgmdcbcenaaL4b
namespace Go.Proofs.Ytoojcgmdcbcenaa
open Go.RowKit Go.Maps Go.Proofs.YtoojcgmdcbcenaaW.PrintWords
set_option linter.unusedVariables false
set_option linter.unusedSimpArgs false
set_option maxRecDepth 100000

/-- One sector's values: a list that nobody writes. -/
def ListAt (w : World) (T : Foot) (u : Value) (vs : List Sec) : Prop :=
  ∃ (g c : Nat) (hs : List Value), u = .slice (some ⟨g, 0, none⟩) vs.length c ∧ T g ∧ w.ownsRow 0 31 1 u vs.length hs ∧ hs.length = vs.length ∧
    ∀ (k : Nat) (h : Value) (s : Sec), hs[k]? = some h → vs[k]? = some s → ∃ b c, h = .slice (some ⟨b, 0, none⟩) 256 c ∧ ValAt w T b c s
theorem ownsRow_kept {w w' : World} {g e size n c : Nat} {m : Nat} {xs : List Value} (h : w.ownsRow 0 e size (.slice (some ⟨g, 0, none⟩) m c) n xs) (hk : w'.heap[g]? = w.heap[g]?) : w'.ownsRow 0 e size (.slice (some ⟨g, 0, none⟩) m c) n xs := by
  obtain ⟨h1, h2⟩ := h
  refine ⟨h1, ?_⟩
  rcases h2 with ⟨h, _⟩ | ⟨g', cap, cur, e, hb, hg, r⟩
  · cases h
  · have : g = g' := by injection e with e _ _; injection e with e; injection e
    subst this
    exact .inr ⟨g, cap, cur, e, hb, hk.trans hg, r⟩
theorem ListAt.kept {w w' : World} {T T' : Foot} {u : Value} {vs : List Sec} (h : ListAt w T u vs) (hk : ∀ i, T i → w'.heap[i]? = w.heap[i]?) (hT : ∀ i, T i → T' i) : ListAt w' T' u vs := by
  obtain ⟨g, c, hs, rfl, h1, h2, h3, h4⟩ := h
  refine ⟨g, c, hs, rfl, hT g h1, ownsRow_kept h2 (hk g h1), h3, fun k h s e1 e2 => ?_⟩
  obtain ⟨b, c, e3, e4⟩ := h4 k h s e1 e2
  exact ⟨b, c, e3, e4.kept hk hT⟩
def rLists (us : List Value) (vals : List (List Sec)) : Res :=
  ⟨fun w T S => (us.length = vals.length ∧ ∀ (i : Nat) (u : Value) (vs : List Sec), us[i]? = some u → vals[i]? = some vs → ListAt w T u vs) ∧ ∀ i, ¬ S i, fun h i hi => absurd hi (h.2 i),
   fun h _ hk hT => ⟨⟨h.1.1, fun i u vs h1 h2 => (h.1.2 i u vs h1 h2).kept (fun j hj => hk j (.inr hj)) hT⟩, h.2⟩⟩
def rObj (u : Value) (d : Dsk) : Obj := .cells #[u, .int .i64 d.left, .bool d.off, .int .i64 (d.taken : Nat)] 65
def rRefX (q : Nat) (d : Dsk) (u : Value) (us : List Value) : List Res := [rAnd d.Ok (rBlk q (rObj u d)), rRow 40 1 u d.vals.length us, rLists us d.vals]
def rRef (q : Nat) (d : Dsk) : Res := rEx fun x : Value × List Value => rAll (rRefX q d x.1 x.2)
section
variable {w0 w : World} {q : Nat} {d : Dsk} {L : List Res}
theorem St.ref (H : St w0 w (rRef q d :: L)) : ∃ u us, St w0 w (rRefX q d u us ++ L) := by
  obtain ⟨x, H⟩ := H.ex1
  exact ⟨x.1, x.2, H.opn⟩
theorem St.mkRef (u : Value) (us : List Value) (H : St w0 w (rRefX q d u us ++ L)) : St w0 w (rRef q d :: L) := H.cls.in1 (u, us)
structure RefIs (w : World) (q : Nat) (d : Dsk) (u : Value) (us : List Value) : Prop where
  ok : d.Ok
  blk : w.heap[q]? = some (rObj u d)
  row : w.ownsRow 0 40 1 u d.vals.length us
  len : us.length = d.vals.length
  lists : ∀ (i : Nat) (u : Value) (vs : List Sec), us[i]? = some u → d.vals[i]? = some vs → ∃ (g c : Nat) (hs : List Value), u = .slice (some ⟨g, 0, none⟩) vs.length c ∧ w.ownsRow 0 31 1 u vs.length hs ∧ hs.length = vs.length ∧
    ∀ (k : Nat) (h : Value) (s : Sec), hs[k]? = some h → vs[k]? = some s → ∃ b c, h = .slice (some ⟨b, 0, none⟩) 256 c ∧ w.ownsRow 0 5 1 (.slice (some ⟨b, 0, none⟩) 256 c) 256 (bytes s)
theorem St.refIs {u : Value} {us : List Value} (H : St w0 w (rRefX q d u us ++ L)) : RefIs w q d u us := by
  obtain ⟨h1, H1⟩ := St.fact H
  obtain ⟨T, S, h, _⟩ := H1.drop.drop.fst
  refine ⟨h1, H1.blk, H1.drop.row, h.1.1, fun i u vs e1 e2 => ?_⟩
  obtain ⟨g, c, hs, rfl, _, h2, h3, h4⟩ := h.1.2 i u vs e1 e2
  refine ⟨g, c, hs, rfl, h2, h3, fun k h s e1 e2 => ?_⟩
  obtain ⟨b, c, e3, e4⟩ := h4 k h s e1 e2
  exact ⟨b, c, e3, e4.2⟩
theorem St.refOk (H : St w0 w (rRef q d :: L)) : d.Ok := by
  obtain ⟨u, us, H⟩ := H.ref
  exact H.refIs.ok
theorem RefIs.cells {u : Value} {us : List Value} (h : RefIs w q d u us) : w.cell? ⟨q, 0, none⟩ = some u ∧ w.cell? ⟨q, 1, none⟩ = some (.int .i64 d.left) ∧ w.cell? ⟨q, 2, none⟩ = some (.bool d.off) ∧ w.cell? ⟨q, 3, none⟩ = some (.int .i64 (d.taken : Nat)) ∧ ∀ k, w.frozen? ⟨q, k, none⟩ = false := by
  have hb := h.blk
  unfold rObj at hb
  exact ⟨(cell_of_blk hb 0).trans rfl, (cell_of_blk hb 1).trans rfl, (cell_of_blk hb 2).trans rfl, (cell_of_blk hb 3).trans rfl, free_of_blk hb⟩
theorem St.setR {u : Value} {us : List Value} (H : St w0 w (rRefX q d u us ++ L)) {w' : World} (d' : Dsk) (hv : d'.vals = d.vals) (hok : d'.Ok) (hb : w'.heap[q]? = some (rObj u d')) (m : Moved w w' fun i => i = q) : St w0 w' (rRef q d' :: L) := by
  obtain ⟨h1, H⟩ := St.fact H
  have H2 := H.setBlk hb m
  have H3 : St w0 w' (rRefX q d' u us ++ L) := by
    unfold rRefX
    rw [hv]
    exact St.infact hok H2
  exact H3.mkRef u us
set_option maxHeartbeats 1000000 in
theorem St.rTake (H : St w0 w (rRef q d :: L)) (ht : d.taken < maxTaken) : Calls Try.prog 51 #[.pointer (some ⟨q, 0, none⟩)] w fun e w' => e = .returned (.bool d.take.1) ∧ St w0 w' (rRef q d.take.2 :: L) := by
  obtain ⟨u, us, H⟩ := H.ref
  have h := H.refIs
  have hb := h.blk
  have hk := h.ok.take
  have hl1 := h.ok.left1
  have hl2 := h.ok.left2
  obtain ⟨c0, c1, c2, c3, fz⟩ := h.cells
  have f1 := fz 1
  have f2 := fz 2
  have f3 := fz 3
  unfold maxTaken at ht
  by_cases ho : d.off = true ∨ d.left = 0
  · have e : d.take = (false, { d with off := true }) := by simp only [Dsk.take, if_pos ho]
    rw [e] at hk ⊢
    have hE : Calls Try.prog 51 #[.pointer (some ⟨q, 0, none⟩)] w fun e w' => e = .returned (.bool false) ∧ w' = w.setCell ⟨q, 2, none⟩ (.bool true) := by
      clear H h hb hk e fz
      rcases ho with ho | ho
      · rw [ho] at c2
        go_enter Try.func51, Try.ntmps51
        go_wp2
        go_ret
        exact ⟨rfl, rfl⟩
      · rw [ho] at c1
        cases hof : d.off
        all_goals
          rw [hof] at c2
          go_enter Try.func51, Try.ntmps51
          go_wp2
          go_ret
          exact ⟨rfl, rfl⟩
    refine hE.mono ?_
    rintro _ w' ⟨rfl, rfl⟩
    refine ⟨rfl, H.setR _ rfl hk ?_ (Moved.cell0 _ _ _ _)⟩
    unfold rObj at hb
    rw [heap_setCell_self hb]
    rfl
  · have e : d.take = (true, { d with left := max (-1) (d.left - 1), taken := d.taken + 1 }) := by simp only [Dsk.take, if_neg ho]
    have hof : d.off = false := by cases h1 : d.off with | false => rfl | true => exact absurd (.inl h1) ho
    have hl0 : d.left ≠ 0 := fun h => ho (.inr h)
    rw [e] at hk ⊢
    rw [hof] at c2
    have b0 : (d.left == 0) = false := by simpa using hl0
    by_cases hp : 0 < d.left
    · have em : max (-1) (d.left - 1) = d.left - 1 := by omega
      have hE : Calls Try.prog 51 #[.pointer (some ⟨q, 0, none⟩)] w fun e w' => e = .returned (.bool true) ∧ w' = (w.setCell ⟨q, 1, none⟩ (.int .i64 (d.left - 1))).setCell ⟨q, 3, none⟩ (.int .i64 ((d.taken : Int) + 1)) := by
        clear H h hb hk e fz
        go_enter Try.func51, Try.ntmps51
        go_wp2
        go_ret
        exact ⟨rfl, rfl⟩
      refine hE.mono ?_
      rintro _ w' ⟨rfl, rfl⟩
      refine ⟨rfl, H.setR _ rfl hk ?_ ((Moved.cell0 _ _ _ _).cell _ _)⟩
      unfold rObj at hb
      rw [heap_setCell_self (heap_setCell_self hb _)]
      simp only [rObj, em]
      rfl
    · have el : d.left = -1 := by omega
      have em : max (-1 : Int) (-1 - 1) = -1 := by omega
      have hE : Calls Try.prog 51 #[.pointer (some ⟨q, 0, none⟩)] w fun e w' => e = .returned (.bool true) ∧ w' = w.setCell ⟨q, 3, none⟩ (.int .i64 ((d.taken : Int) + 1)) := by
        rw [el] at c1
        clear H h hb hk e fz
        go_enter Try.func51, Try.ntmps51
        go_wp2
        go_ret
        exact ⟨rfl, rfl⟩
      refine hE.mono ?_
      rintro _ w' ⟨rfl, rfl⟩
      refine ⟨rfl, H.setR _ rfl hk ?_ (Moved.cell0 _ _ _ _)⟩
      unfold rObj at hb
      rw [heap_setCell_self hb]
      simp only [rObj, el, em]
      rfl
end
end Go.Proofs.Ytoojcgmdcbcenaa
namespace Go.Proofs.Ytoojcgmdcbcenaa
open Go.RowKit Go.Maps Go.Proofs.YtoojcgmdcbcenaaW.PrintWords
set_option linter.unusedVariables false
set_option linter.unusedSimpArgs false
set_option maxRecDepth 100000

set_option maxHeartbeats 1000000 in
theorem sector_calls {w : World} {ad : Addr} {c : Nat} {l : List Int} {n : Nat} (hr : Rd w (some ad) l) (hn : l.length = n) (hl : l.length ≤ 140737488355328) :
    Calls Try.prog 50 #[.slice (some ad) n c] w fun e w' => ∃ v, e = .returned v ∧ w'.ownsRow w.heap.size 5 1 v n (bytes l) ∧ Below w.heap.size w w' := by
  subst hn
  have HR := Aside0.mk hr
  have HL := Aside0.mk hl
  have hO : (w.alloc (.cells #[] 5)).ownsRow w.heap.size 5 1 (.slice (some ⟨w.heap.size, 0, none⟩) 0 0) ([] : List Int).length (bytes []) := World.ownsRow_made w #[] 0 (Nat.le_refl _) (by simp [maxLen]) rfl
  have HO := Aside0.mk hO
  have HB := Aside0.mk ((Below.refl w.heap.size w).alloc (Nat.le_refl _) (.cells #[] 5))
  clear hr hl hO
  go_enter Try.func50, Try.ntmps50
  go_wp2_with (at_builtin; refine wpl_app w.heap.size rfl (.tmp 3) (.tmp 4) rfl (.slice (some ⟨w.heap.size, 0, none⟩) 0 0) [] l ad l.length c rfl rfl rfl HO.out (Rd.below HR.out HB.out) (by simp) (by simpa using HL.out) ?_; intro v1 w1 h1 h2 h3 h4; have H1 := Aside0.mk h1; have H2 := Aside0.mk h2; have H4 := Aside0.mk h4; clear h1 h2 h3 h4)
  go_ret
  exact ⟨v1, rfl, by simpa using H1.out, HB.out.grown H2.out (by simp) (by simp [Value.ownBlock])⟩
section
variable {w0 w : World} {q : Nat} {d : Dsk} {L : List Res}
theorem RefIs.form {u : Value} {us : List Value} (h : RefIs w q d u us) : ∃ og oc, u = .slice (some ⟨og, 0, none⟩) d.vals.length oc := by
  obtain ⟨og, oc, rfl, _, _⟩ := h.row.form (by have := h.ok.n1; omega)
  exact ⟨og, oc, rfl⟩
/-- What lies at sector i. -/
theorem RefIs.at_ {og oc : Nat} {us : List Value} (h : RefIs w q d (.slice (some ⟨og, 0, none⟩) d.vals.length oc) us) {i : Nat} (hi : i < d.vals.length) : ∃ g c, w.cell? ⟨og, i, none⟩ = some (.slice (some ⟨g, 0, none⟩) (d.vals.getD i []).length c) ∧ (d.vals.getD i []).length ≤ 9223372036854775807 ∧
    ∀ k, k < (d.vals.getD i []).length → ∃ b c, w.cell? ⟨g, k, none⟩ = some (.slice (some ⟨b, 0, none⟩) 256 c) ∧ Rd w (some ⟨b, 0, none⟩) ((d.vals.getD i []).getD k []) := by
  have hl := h.len
  have hg : d.vals.getD i [] = d.vals[i] := by rw [List.getD_eq_getElem?_getD, List.getElem?_eq_getElem hi]; rfl
  rw [hg]
  obtain ⟨g, c, hs, e, h2, h3, h4⟩ := h.lists i us[i] d.vals[i] (List.getElem?_eq_getElem (by omega)) (List.getElem?_eq_getElem hi)
  have hc := h.row.cells (g := og) rfl i us[i] (List.getElem?_eq_getElem (by omega))
  rw [addr_add, Nat.zero_add, e] at hc
  have hml : d.vals[i].length ≤ 9223372036854775807 := by
    have h2' := h2
    rw [e] at h2'
    rcases h2'.2 with ⟨h, _⟩ | ⟨g', cap, cur, _, _, _, r1, r2, _⟩
    · cases h
    · simp only [maxLen] at r2; omega
  refine ⟨g, c, hc, hml, fun k hk => ?_⟩
  obtain ⟨b, c', e1, h5⟩ := h4 k hs[k] d.vals[i][k] (List.getElem?_eq_getElem (by omega)) (List.getElem?_eq_getElem hk)
  rw [e] at h2
  have hc2 := h2.cells (g := g) rfl k hs[k] (List.getElem?_eq_getElem (by omega))
  rw [addr_add, Nat.zero_add, e1] at hc2
  have hs256 := (h.ok.sec _ (List.getElem_mem hi) _ (List.getElem_mem hk)).1
  obtain ⟨_, hR⟩ := own_256 hs256 h5
  refine ⟨b, c', hc2, ?_⟩
  rw [List.getD_eq_getElem?_getD, List.getElem?_eq_getElem hk]
  exact hR
theorem St.rLimit (H : St w0 w (rRef q d :: L)) (n : Int) (hn : n ≤ 9223372036854775807) : Calls Try.prog 33 #[.pointer (some ⟨q, 0, none⟩), .int .i64 n] w fun e w' => e = .returned (.tuple #[]) ∧ St w0 w' (rRef q (d.limit n) :: L) := by
  obtain ⟨u, us, H⟩ := H.ref
  have h := H.refIs
  have hb := h.blk
  obtain ⟨c0, c1, c2, c3, fz⟩ := h.cells
  have f1 := fz 1
  have hE : Calls Try.prog 33 #[.pointer (some ⟨q, 0, none⟩), .int .i64 n] w fun e w' => e = .returned (.tuple #[]) ∧ w' = w.setCell ⟨q, 1, none⟩ (.int .i64 (max (-1) n)) := by
    clear H h hb fz
    go_enter Try.func33, Try.ntmps33
    go_wp2
    all_goals (go_end0; refine ⟨rfl, ?_⟩)
    all_goals (first | rfl | (rw [show max (-1) n = n by omega]) | (rw [show max (-1) n = -1 by omega]))
  refine hE.mono ?_
  rintro _ w' ⟨rfl, rfl⟩
  refine ⟨rfl, H.setR _ rfl (h.ok.limit hn) ?_ (Moved.cell0 _ _ _ _)⟩
  unfold rObj at hb
  rw [heap_setCell_self hb]
  rfl
set_option maxHeartbeats 1000000 in
theorem St.rRead (H : St w0 w (rRef q d :: L)) (i : Int) : Calls Try.prog 32 #[.pointer (some ⟨q, 0, none⟩), .int .i64 i] w fun e w' => ∃ v, e = .returned (.tuple #[v, .int .i64 (d.read i).2]) ∧ w'.ownsRow w.heap.size 5 1 v (d.read i).1.length (bytes (d.read i).1) ∧ Below w.heap.size w w' := by
  obtain ⟨u, us, H⟩ := H.ref
  have h := H.refIs
  have hn := h.ok.n2
  obtain ⟨c0, c1, c2, c3, fz⟩ := h.cells
  obtain ⟨og, oc, rfl⟩ := h.form
  by_cases h1 : i < 0
  · have e : d.read i = ([], 2) := by simp only [Dsk.read, if_pos (Or.inl h1 : i < 0 ∨ (d.vals.length : Int) ≤ i)]
    have b1 : decide (i < 0) = true := decide_eq_true h1
    rw [e]
    clear H h fz
    go_enter Try.func32, Try.ntmps32
    go_wp2
    go_ret2
    exact ⟨_, rfl, World.ownsRow_nil _ _ _ _, Below.refl _ _⟩
  · have b1 : decide (i < 0) = false := decide_eq_false h1
    by_cases h2 : (d.vals.length : Int) ≤ i
    · have e : d.read i = ([], 2) := by simp only [Dsk.read, if_pos (Or.inr h2 : i < 0 ∨ (d.vals.length : Int) ≤ i)]
      have b2 : decide ((d.vals.length : Int) ≤ i) = true := decide_eq_true h2
      rw [e]
      clear H h fz
      go_enter Try.func32, Try.ntmps32
      go_wp2
      go_ret2
      exact ⟨_, rfl, World.ownsRow_nil _ _ _ _, Below.refl _ _⟩
    · obtain ⟨j, rfl⟩ : ∃ j : Nat, i = j := ⟨i.toNat, by omega⟩
      have hj : j < d.vals.length := by omega
      have b2 : decide ((d.vals.length : Int) ≤ (j : Int)) = false := decide_eq_false (by omega)
      have h12 : ¬ ((j : Int) < 0 ∨ (d.vals.length : Int) ≤ (j : Int)) := by omega
      cases ho : d.off with
      | true =>
        have e : d.read j = ([], 10) := by simp only [Dsk.read, if_neg h12, if_pos ho]
        rw [e]
        rw [ho] at c2
        clear H h fz
        go_enter Try.func32, Try.ntmps32
        go_wp2
        go_ret2
        exact ⟨_, rfl, World.ownsRow_nil _ _ _ _, Below.refl _ _⟩
      | false =>
        have e : d.read j = (lastOf (d.vals.getD j []), 0) := by simp only [Dsk.read, if_neg h12, ho, Bool.false_eq_true, if_false, Int.toNat_natCast]
        rw [e]
        rw [ho] at c2
        obtain ⟨g, c, hc, hml, hk⟩ := h.at_ hj
        have hp := h.ok.pos hj
        have hs := h.ok.sec _ (h.ok.get hj)
        have hg : (lastOf (d.vals.getD j [])).length = 256 := (hs _ (lastOf_mem (h.ok.ne _ (h.ok.get hj)))).1
        obtain ⟨m, hm⟩ : ∃ m : Nat, m = (d.vals.getD j []).length - 1 := ⟨_, rfl⟩
        obtain ⟨b, c', hc2, hR⟩ := hk m (by omega)
        have hlm := h.ok.many _ (h.ok.get hj)
        rw [hm, ← lastOf_get] at hR
        obtain ⟨N, hN⟩ : ∃ N, N = (d.vals.getD j []).length := ⟨_, rfl⟩
        rw [← hN] at hc hm hml
        obtain ⟨V, hV⟩ : ∃ V, V = d.vals.length := ⟨_, rfl⟩
        rw [← hV] at c0 b2
        have q1 : (0 : Int) ≤ (m : Int) := by omega
        have q2 : (m : Int) < (N : Int) := by omega
        have q3 : (j : Int) < (V : Int) := by omega
        have wm : wrap64 ((N : Int) - 1) = (m : Int) := by unfold wrap64; omega
        have hS := sector_calls (c := c') hR hg (by omega)
        have HS := Aside0.mk hS
        rw [hg]
        clear H h fz hk hs hp hlm hS hR hg e hN hV hm h12 h2 h1 hn hml
        go_enter Try.func32, Try.ntmps32
        go_wp2_with fail
        refine HS.out.mono ?_
        rintro e w2 ⟨v, rfl, h1, h2⟩
        go_wp2
        go_ret2
        exact ⟨v, rfl, h1, h2⟩
end
end Go.Proofs.Ytoojcgmdcbcenaa
namespace Go.Proofs.Ytoojcgmdcbcenaa
open Go.RowKit Go.Maps Go.Proofs.YtoojcgmdcbcenaaW.PrintWords
set_option linter.unusedVariables false
set_option linter.unusedSimpArgs false
set_option maxRecDepth 100000

theorem pending_rank (d : Dsk) : d.pending = rank d.vals d.vals.length := by simp [Dsk.pending, rank]
theorem flat_succ (h : List Sec → Sec) (vals : List (List Sec)) {I : Nat} (hI : I < vals.length) : (vals.take (I + 1)).flatMap h = (vals.take I).flatMap h ++ h (vals.getD I []) := by
  rw [List.take_succ_eq_append_getElem hI, List.flatMap_append, List.getD_eq_getElem?_getD, List.getElem?_eq_getElem hI]
  simp
theorem flat_lenT (h : List Sec → Sec) (vals : List (List Sec)) (h256 : ∀ l ∈ vals, (h l).length = 256) : ∀ I, I ≤ vals.length → ((vals.take I).flatMap h).length = I * 256
  | 0, _ => by simp
  | I + 1, hI => by
    rw [flat_succ h vals (by omega), List.length_append, flat_lenT h vals h256 I (by omega), h256 _ (by rw [List.getD_eq_getElem?_getD, List.getElem?_eq_getElem (by omega)]; exact List.getElem_mem _)]
    omega
section
variable {w0 w : World} {q : Nat} {d : Dsk} {L : List Res}
set_option maxHeartbeats 1000000 in
theorem St.rPending (H : St w0 w (rRef q d :: L)) : Calls Try.prog 36 #[.pointer (some ⟨q, 0, none⟩)] w fun e w' => e = .returned (.int .i64 (d.pending : Nat)) ∧ w' = w := by
  obtain ⟨u, us, H⟩ := H.ref
  have h := H.refIs
  have hn := h.ok.n2
  obtain ⟨c0, c1, c2, c3, fz⟩ := h.cells
  obtain ⟨og, oc, rfl⟩ := h.form
  rw [pending_rank]
  have hrs := fun I hI => rank_succ d.vals (I := I) hI
  have hrl := rank_le d.vals
  have hat := fun i (hi : i < d.vals.length) => h.at_ hi
  generalize rank d.vals = rk at *
  obtain ⟨V, hV⟩ : ∃ V, V = d.vals.length := ⟨_, rfl⟩
  rw [← hV] at c0 hn ⊢
  have HRS := Aside0.mk hrs
  have HAT := Aside0.mk hat
  have HV := Aside0.mk hV
  have H0 : rk 0 = 0 := by have := hrl 0; omega
  have HRL := Aside0.mk hrl
  clear hrs hat hV H h fz hrl
  go_enter Try.func36, Try.ntmps36
  go_wp2_with fail
  go_loopw [3, 4] (fun r i W => ∃ I : Nat, i = .int .i64 (I : Int) ∧ I ≤ V ∧ r = .int .i64 (rk I : Nat) ∧ W = w) (fun _ i _ => V - (RowKit.intOf i).toNat)
  case atStart => exact ⟨0, rfl, Nat.zero_le _, by rw [H0]; rfl, rfl⟩
  case round =>
    obtain ⟨I, rfl, hI, rfl, rfl⟩ := hrel
    by_cases hIV : I < V
    · have u1 : decide ((I : Int) < (V : Int)) = true := decide_eq_true (by omega)
      have u2 : (0 : Int) ≤ (I : Int) := by omega
      have u3 : (I : Int) < (V : Int) := by omega
      obtain ⟨g, c, hc, _, _⟩ := HAT.out I (by rw [← HV.out]; exact hIV)
      have hr1 := HRS.out I (by rw [← HV.out]; exact hIV)
      have hr2 := HRL.out I
      obtain ⟨r, hr⟩ : ∃ r, r = rk I := ⟨_, rfl⟩
      rw [← hr] at hr1 hr2 ⊢
      obtain ⟨N, hN⟩ : ∃ N, N = (d.vals.getD I []).length := ⟨_, rfl⟩
      rw [← hN] at hc hr1
      have hr3 : r ≤ 4096 := by omega
      clear hr hN hr2
      by_cases h1 : 1 < N
      · have v1 : decide ((1 : Int) < (N : Int)) = true := decide_eq_true (by omega)
        rw [if_pos h1] at hr1
        have hr1 := Aside0.mk hr1
        go_wp2
        go_roundw
        case rel => exact ⟨I + 1, by go_num, hIV, by rw [hr1.out]; go_num, trivial⟩
        case measure => simp only [RowKit.intOf]; omega
      · have v1 : decide ((1 : Int) < (N : Int)) = false := decide_eq_false (by omega)
        rw [if_neg h1] at hr1
        have hr1 := Aside0.mk hr1
        go_wp2
        go_roundw
        case rel => exact ⟨I + 1, by go_num, hIV, by rw [hr1.out]; rfl, trivial⟩
        case measure => simp only [RowKit.intOf]; omega
    · have hIe : I = V := by omega
      subst hIe
      have u1 : decide ((I : Int) < (I : Int)) = false := decide_eq_false (by omega)
      go_wp2
      go_ret
      exact ⟨rfl, rfl⟩
set_option maxHeartbeats 1000000 in
theorem St.rSure (H : St w0 w (rRef q d :: L)) : Calls Try.prog 38 #[.pointer (some ⟨q, 0, none⟩)] w fun e w' => ∃ v, e = .returned v ∧ w'.ownsRow w.heap.size 5 1 v d.sure.length (bytes d.sure) ∧ Below w.heap.size w w' := by
  obtain ⟨u, us, H⟩ := H.ref
  have h := H.refIs
  have hn := h.ok.n2
  obtain ⟨c0, c1, c2, c3, fz⟩ := h.cells
  obtain ⟨og, oc, rfl⟩ := h.form
  have hat := fun i (hi : i < d.vals.length) => h.at_ hi
  have hpo := fun i (hi : i < d.vals.length) => h.ok.pos hi
  have hfl := flat_lenT headOf d.vals h.ok.head
  have hfs := fun I hI => flat_succ headOf d.vals (I := I) hI
  have hsu : d.sure = (d.vals.take d.vals.length).flatMap headOf := by rw [List.take_length]; rfl
  have hgl : ∀ i, i < d.vals.length → (headOf (d.vals.getD i [])).length = 256 := fun i hi => h.ok.head _ (h.ok.get hi)
  rw [hsu]
  obtain ⟨V, hV⟩ : ∃ V, V = d.vals.length := ⟨_, rfl⟩
  rw [← hV] at c0 hn hat hpo hfl hfs hgl ⊢
  have HFS := Aside0.mk hfs
  have HAT := Aside0.mk hat
  have HFL := Aside0.mk hfl
  have HPO := Aside0.mk hpo
  have HGL := Aside0.mk hgl
  have HO : Aside0 ((w.alloc (.cells #[] 5)).ownsRow w.heap.size 5 1 (.slice (some ⟨w.heap.size, 0, none⟩) 0 0) ([] : List Int).length (bytes [])) := ⟨World.ownsRow_made w #[] 0 (Nat.le_refl _) (by simp [maxLen]) rfl⟩
  have HB := Aside0.mk ((Below.refl w.heap.size w).alloc (Nat.le_refl _) (.cells #[] 5))
  have HC0 := Aside0.mk c0
  clear hfs hat hV H h fz hfl hpo hgl hsu c0 c1 c2 c3
  go_enter Try.func38, Try.ntmps38
  go_wp2_with fail
  go_loopw [3, 4] (fun v i W => ∃ I : Nat, i = .int .i64 (I : Int) ∧ I ≤ V ∧ Aside0 (W.ownsRow w.heap.size 5 1 v ((d.vals.take I).flatMap headOf).length (bytes ((d.vals.take I).flatMap headOf))) ∧ Aside0 (Below w.heap.size w W)) (fun _ i _ => V - (RowKit.intOf i).toNat)
  case atStart => exact ⟨0, rfl, Nat.zero_le _, ⟨by simpa using HO.out⟩, HB⟩
  case round =>
    clear HO HB
    obtain ⟨I, rfl, hI, HO, HB⟩ := hrel
    have c0 := pw_cell_below HB.out HC0.out
    by_cases hIV : I < V
    · have u1 : decide ((I : Int) < (V : Int)) = true := decide_eq_true (by omega)
      have u2 : (0 : Int) ≤ (I : Int) := by omega
      have u3 : (I : Int) < (V : Int) := by omega
      obtain ⟨g, c, hc, _, hk⟩ := HAT.out I hIV
      have hp := HPO.out I hIV
      obtain ⟨b, c', hc2, hR⟩ := hk 0 hp
      rw [← headOf_get] at hR
      replace hc := pw_cell_below HB.out hc
      replace hc2 := pw_cell_below HB.out hc2
      have hR2 := Rd.below hR HB.out
      have hl1 := HFL.out I (by omega)
      have hl2 := HGL.out I hIV
      have hrs := HFS.out I hIV
      generalize headOf (d.vals.getD I []) = hd at *
      generalize (d.vals.take I).flatMap headOf = acc at *
      obtain ⟨N, hN⟩ : ∃ N, N = (d.vals.getD I []).length := ⟨_, rfl⟩
      rw [← hN] at hc hp
      have hp2 : (0 : Int) < (N : Int) := by omega
      have HR2 := Aside0.mk hR2
      have HRS := Aside0.mk hrs
      have HL1 := Aside0.mk hl1
      have HL2 := Aside0.mk hl2
      have hbd : Aside0 (acc.length + hd.length ≤ 140737488355328) := ⟨by omega⟩
      have hws := Aside0.mk HB.out.size
      clear hk hR hR2 hrs hl1 hl2 hN
      go_wp2_with (at_builtin; refine wpl_app w.heap.size rfl (.tmp 15) (.tmp 24) rfl _ acc hd ⟨b, 0, none⟩ 256 c' rfl rfl HL2.out HO.out HR2.out hws.out hbd.out ?_; intro v1 w1 h1 h2 h3 h4; have H1 := Aside0.mk h1; have H2 := Aside0.mk (HB.out.grown h2 hws.out (fun k hk => HO.out.lt k hk |>.1)); clear h1 h2 h3 h4)
      go_roundw
      case rel => exact ⟨I + 1, by go_num, hIV, ⟨by rw [HRS.out]; exact H1.out⟩, H2⟩
      case measure => simp only [RowKit.intOf]; omega
    · have hIe : I = V := by omega
      subst hIe
      have u1 : decide ((I : Int) < (I : Int)) = false := decide_eq_false (by omega)
      go_wp2
      go_ret
      exact ⟨_, rfl, HO.out, HB.out⟩
set_option maxHeartbeats 1000000 in
theorem St.rImage (H : St w0 w (rRef q d :: L)) : Calls Try.prog 37 #[.pointer (some ⟨q, 0, none⟩)] w fun e w' => ∃ v, e = .returned v ∧ w'.ownsRow w.heap.size 5 1 v d.image.length (bytes d.image) ∧ Below w.heap.size w w' := by
  obtain ⟨u, us, H⟩ := H.ref
  have h := H.refIs
  have hn := h.ok.n2
  obtain ⟨c0, c1, c2, c3, fz⟩ := h.cells
  obtain ⟨og, oc, rfl⟩ := h.form
  have hat := fun i (hi : i < d.vals.length) => h.at_ hi
  have hpo := fun i (hi : i < d.vals.length) => h.ok.pos hi
  have hfl := flat_lenT lastOf d.vals h.ok.last
  have hfs := fun I hI => flat_succ lastOf d.vals (I := I) hI
  have hsu : d.image = (d.vals.take d.vals.length).flatMap lastOf := by rw [List.take_length]; rfl
  have hgl : ∀ i, i < d.vals.length → (lastOf (d.vals.getD i [])).length = 256 := fun i hi => h.ok.last _ (h.ok.get hi)
  rw [hsu]
  obtain ⟨V, hV⟩ : ∃ V, V = d.vals.length := ⟨_, rfl⟩
  rw [← hV] at c0 hn hat hpo hfl hfs hgl ⊢
  have HFS := Aside0.mk hfs
  have HAT := Aside0.mk hat
  have HFL := Aside0.mk hfl
  have HPO := Aside0.mk hpo
  have HGL := Aside0.mk hgl
  have HO : Aside0 ((w.alloc (.cells #[] 5)).ownsRow w.heap.size 5 1 (.slice (some ⟨w.heap.size, 0, none⟩) 0 0) ([] : List Int).length (bytes [])) := ⟨World.ownsRow_made w #[] 0 (Nat.le_refl _) (by simp [maxLen]) rfl⟩
  have HB := Aside0.mk ((Below.refl w.heap.size w).alloc (Nat.le_refl _) (.cells #[] 5))
  have HC0 := Aside0.mk c0
  clear hfs hat hV H h fz hfl hpo hgl hsu c0 c1 c2 c3
  go_enter Try.func37, Try.ntmps37
  go_wp2_with fail
  go_loopw [3, 4] (fun v i W => ∃ I : Nat, i = .int .i64 (I : Int) ∧ I ≤ V ∧ Aside0 (W.ownsRow w.heap.size 5 1 v ((d.vals.take I).flatMap lastOf).length (bytes ((d.vals.take I).flatMap lastOf))) ∧ Aside0 (Below w.heap.size w W)) (fun _ i _ => V - (RowKit.intOf i).toNat)
  case atStart => exact ⟨0, rfl, Nat.zero_le _, ⟨by simpa using HO.out⟩, HB⟩
  case round =>
    clear HO HB
    obtain ⟨I, rfl, hI, HO, HB⟩ := hrel
    have c0 := pw_cell_below HB.out HC0.out
    by_cases hIV : I < V
    · have u1 : decide ((I : Int) < (V : Int)) = true := decide_eq_true (by omega)
      have u2 : (0 : Int) ≤ (I : Int) := by omega
      have u3 : (I : Int) < (V : Int) := by omega
      obtain ⟨g, c, hc, hml, hk⟩ := HAT.out I hIV
      have hp := HPO.out I hIV
      obtain ⟨m, hm⟩ : ∃ m : Nat, m = (d.vals.getD I []).length - 1 := ⟨_, rfl⟩
      obtain ⟨b, c', hc2, hR⟩ := hk m (by omega)
      rw [hm, ← lastOf_get] at hR
      replace hc := pw_cell_below HB.out hc
      replace hc2 := pw_cell_below HB.out hc2
      have hR2 := Rd.below hR HB.out
      have hl1 := HFL.out I (by omega)
      have hl2 := HGL.out I hIV
      have hrs := HFS.out I hIV
      generalize lastOf (d.vals.getD I []) = hd at *
      generalize (d.vals.take I).flatMap lastOf = acc at *
      obtain ⟨N, hN⟩ : ∃ N, N = (d.vals.getD I []).length := ⟨_, rfl⟩
      rw [← hN] at hc hp hm hml
      have q1 : (0 : Int) ≤ (m : Int) := by omega
      have q2 : (m : Int) < (N : Int) := by omega
      have wm : wrap64 ((N : Int) - 1) = (m : Int) := by unfold wrap64; omega
      have HR2 := Aside0.mk hR2
      have HRS := Aside0.mk hrs
      have HL1 := Aside0.mk hl1
      have HL2 := Aside0.mk hl2
      have hbd : Aside0 (acc.length + hd.length ≤ 140737488355328) := ⟨by omega⟩
      have hws := Aside0.mk HB.out.size
      clear hk hR hR2 hrs hl1 hl2 hN hm hml hp
      go_wp2_with (at_builtin; refine wpl_app w.heap.size rfl (.tmp 23) (.tmp 29) rfl _ acc hd ⟨b, 0, none⟩ 256 c' rfl rfl HL2.out HO.out HR2.out hws.out hbd.out ?_; intro v1 w1 h1 h2 h3 h4; have H1 := Aside0.mk h1; have H2 := Aside0.mk (HB.out.grown h2 hws.out (fun k hk => HO.out.lt k hk |>.1)); clear h1 h2 h3 h4)
      go_roundw
      case rel => exact ⟨I + 1, by go_num, hIV, ⟨by rw [HRS.out]; exact H1.out⟩, H2⟩
      case measure => simp only [RowKit.intOf]; omega
    · have hIe : I = V := by omega
      subst hIe
      have u1 : decide ((I : Int) < (I : Int)) = false := decide_eq_false (by omega)
      go_wp2
      go_ret
      exact ⟨_, rfl, HO.out, HB.out⟩
end
end Go.Proofs.Ytoojcgmdcbcenaa
namespace Go.Proofs.Ytoojcgmdcbcenaa
open Go.RowKit Go.Maps Go.Proofs.YtoojcgmdcbcenaaW.PrintWords
set_option linter.unusedVariables false
set_option linter.unusedSimpArgs false
set_option maxRecDepth 100000

theorem ownsRow_set {w : World} {g n c : Nat} {e : TypeId} {xs : List Value} (h : w.ownsRow 0 e 1 (.slice (some ⟨g, 0, none⟩) n c) n xs) (i : Nat) (u : Value) : (w.setCell ⟨g, i, none⟩ u).ownsRow 0 e 1 (.slice (some ⟨g, 0, none⟩) n c) n (xs.set i u) := by
  obtain ⟨h1, h2⟩ := h
  refine ⟨by rw [List.length_set]; exact h1, ?_⟩
  rcases h2 with ⟨h, _⟩ | ⟨g', cap, cur, e1, hb, hg, r1, r2, r3, r4⟩
  · cases h
  · have : g = g' := by injection e1 with e1 _; injection e1 with e1; injection e1
    subst this
    refine .inr ⟨g, cap, cur.setIfInBounds i u, e1, hb, heap_setCell_self hg u, r1, r2, by simpa using r3, ?_⟩
    rw [Array.toList_setIfInBounds, List.take_set, r4]
section
variable {w0 w : World} {q : Nat} {d : Dsk} {L : List Res}
theorem St.also {α : Type} {A : Res} {B : α → Res} (H : St w0 w (A :: L)) (h : ∀ T S, A.has w T S → ∃ x, (B x).has w T fun _ => False) : ∃ x, St w0 w (B x :: A :: L) := by
  obtain ⟨⟨T, S, ⟨S1, S2, h1, h2, h3, h4⟩, hT, hS, h0⟩, hb⟩ := H
  obtain ⟨x, hx⟩ := h T S1 h1
  exact ⟨x, ⟨⟨T, S, ⟨fun _ => False, S, hx, ⟨S1, S2, h1, h2, h3, h4⟩, fun _ h => h.elim, fun i => by simp⟩, hT, hS, h0⟩, hb⟩⟩
/-- A list that nobody writes. -/
def rLst (v : Value) (vs : List Sec) : Res :=
  ⟨fun w T S => ListAt w T v vs ∧ ∀ i, ¬ S i, fun h i hi => absurd hi (h.2 i), fun h _ hk hT => ⟨h.1.kept (fun i hi => hk i (.inr hi)) hT, h.2⟩⟩
/-- An own list is written no more. -/
theorem St.lstOf {v : Value} {vs : List Sec} (hp : 0 < vs.length) (H : St w0 w (rList v vs :: L)) : St w0 w (rLst v vs :: L) := by
  obtain ⟨us, H⟩ := H.list
  refine (H.join.upd (B := rLst v vs) fun T S h hS hT => ?_)
  obtain ⟨S1, S2, h1, h2, h3, h4⟩ := h
  obtain ⟨g, c, rfl, _, _⟩ := h1.1.form hp
  have e2 : ∀ i, ¬ S2 i := h2.2
  refine ⟨fun i => T i ∨ S i, fun _ => False, ⟨⟨g, c, us, rfl, .inr ((h4 g).2 (.inl ((h1.2 g).2 rfl))), h1.1, h2.1.1, fun k h s a1 a2 => ?_⟩, fun _ h => h⟩, fun _ h => .inl h, fun i hi => ?_, fun _ h => h.elim, fun _ h => h.elim, Moved.refl _ _⟩
  · obtain ⟨b, c', b1, b2⟩ := h2.1.2 k h s a1 a2
    exact ⟨b, c', b1, b2.kept (fun _ _ => rfl) fun _ h => .inl h⟩
  · rcases hi with hi | hi
    · exact ⟨hT i hi, .inl hi⟩
    · have hi1 : S1 i := ((h4 i).1 hi).elim id fun h => absurd h (e2 i)
      exact ⟨(h1.1.lt i ((h1.2 i).1 hi1)).2, .inr (.inl hi)⟩
/-- The list of sector i. -/
theorem St.refLst {i : Nat} (H : St w0 w (rRef q d :: L)) (hi : i < d.vals.length) : ∃ v, St w0 w (rLst v (d.vals.getD i []) :: rRef q d :: L) := by
  refine H.also fun T S h => ?_
  obtain ⟨⟨u, us⟩, h⟩ := h
  obtain ⟨S1, S2, h1, h2, h3, h4⟩ := h
  obtain ⟨S3, S4, h5, h6, _⟩ := h2
  obtain ⟨S5, S6, h7, h8, _⟩ := h6
  have hl := h7.1.1
  have hg : d.vals.getD i [] = d.vals[i] := by rw [List.getD_eq_getElem?_getD, List.getElem?_eq_getElem hi]; rfl
  rw [hg]
  exact ⟨us[i], h7.1.2 i us[i] d.vals[i] (List.getElem?_eq_getElem (by omega)) (List.getElem?_eq_getElem hi), fun _ h => h⟩
/-- The k-th value of a list. -/
theorem St.lstVal {v : Value} {vs : List Sec} {k : Nat} (H : St w0 w (rLst v vs :: L)) (hk : k < vs.length) : ∃ x : Nat × Nat, St w0 w (rVal x.1 x.2 (vs.getD k []) :: rLst v vs :: L) := by
  refine H.also fun T S h => ?_
  obtain ⟨⟨g, c, hs, rfl, h1, h2, h3, h4⟩, _⟩ := h
  obtain ⟨b, c', e1, h5⟩ := h4 k hs[k] vs[k] (List.getElem?_eq_getElem (by omega)) (List.getElem?_eq_getElem hk)
  rw [List.getD_eq_getElem?_getD, List.getElem?_eq_getElem hk]
  exact ⟨(b, c'), h5, fun _ h => h⟩
/-- A list is put in at sector i. -/
theorem St.refPut {u : Value} {us : List Value} {v : Value} {vs : List Sec} {i og oc : Nat} (H : St w0 w (rRefX q d u us ++ (rLst v vs :: L))) (hu : u = .slice (some ⟨og, 0, none⟩) d.vals.length oc) (hok : ({ d with vals := d.vals.set i vs } : Dsk).Ok) :
    St w0 (w.setCell ⟨og, i, none⟩ v) (rRef q { d with vals := d.vals.set i vs } :: L) := by
  subst hu
  obtain ⟨h1, H⟩ := St.fact H
  -- blk, row, lists, lst
  have H2 : St w0 w (rLists us d.vals :: rLst v vs :: rBlk q (rObj (.slice (some ⟨og, 0, none⟩) d.vals.length oc) d) :: rRow 40 1 (.slice (some ⟨og, 0, none⟩) d.vals.length oc) d.vals.length us :: L) := H.rot3.rot4.swap
  have H3 : St w0 w (rLists (us.set i v) (d.vals.set i vs) :: rBlk q (rObj (.slice (some ⟨og, 0, none⟩) d.vals.length oc) d) :: rRow 40 1 (.slice (some ⟨og, 0, none⟩) d.vals.length oc) d.vals.length us :: L) := by
    refine H2.join.imp fun T S h hS hT => ?_
    obtain ⟨S1, S2, a1, a2, a3, a4⟩ := h
    refine ⟨⟨by simp [a1.1.1], fun j u' vs' e1 e2 => ?_⟩, fun p hp => ((a4 p).1 hp).elim (a1.2 p) (a2.2 p)⟩
    rw [List.getElem?_set] at e1 e2
    have hl := a1.1.1
    by_cases hij : i = j
    · rw [if_pos hij] at e1 e2
      by_cases hlt : i < us.length
      · rw [if_pos hlt] at e1
        rw [if_pos (by omega)] at e2
        cases e1; cases e2
        exact a2.1
      · rw [if_neg hlt] at e1; cases e1
    · rw [if_neg hij] at e1 e2
      exact a1.1.2 j u' vs' e1 e2
  have H4 := (St.rot3 H3).setRow (ownsRow_set (H3.drop.drop.row) i v) ⟨rfl, rfl, rfl, by simp [World.setCell], fun p hp hne => Below.heap_setCell _ _ _ _ fun e => hne (by rw [e]; rfl)⟩ (.inl rfl)
  -- row, lists, blk
  have H5 : St w0 (w.setCell ⟨og, i, none⟩ v) (rBlk q (rObj (.slice (some ⟨og, 0, none⟩) d.vals.length oc) d) :: rRow 40 1 (.slice (some ⟨og, 0, none⟩) d.vals.length oc) d.vals.length (us.set i v) :: rLists (us.set i v) (d.vals.set i vs) :: L) := H4.rot3
  refine St.mkRef (.slice (some ⟨og, 0, none⟩) d.vals.length oc) (us.set i v) ?_
  unfold rRefX
  simp only [List.length_set]
  exact St.infact hok H5
end
end Go.Proofs.Ytoojcgmdcbcenaa
namespace Go.Proofs.Ytoojcgmdcbcenaa
open Go.RowKit Go.Maps Go.Proofs.YtoojcgmdcbcenaaW.PrintWords
set_option linter.unusedVariables false
set_option linter.unusedSimpArgs false
set_option maxRecDepth 100000

theorem ownsRow_ty {w : World} {g m n c size : Nat} {e : TypeId} {xs : List Value} (h : w.ownsRow 0 e size (.slice (some ⟨g, 0, none⟩) m c) n xs) : ∃ cur, w.heap[g]? = some (.cells cur e (0, 0)) := by
  rcases h.2 with ⟨h, _⟩ | ⟨g', cap, cur, e1, _, hg, _⟩
  · cases h
  · have : g = g' := by injection e1 with e1 _; injection e1 with e1; injection e1
    subst this
    exact ⟨cur, hg⟩
section
variable {w0 w : World} {q : Nat} {d : Dsk} {L : List Res}
/-- What a round reads. -/
def OneAt (W : World) (q og n oc i : Nat) (U : Value) (g k : Nat) (h : Value) : Prop := W.cell? ⟨q, 0, none⟩ = some (.slice (some ⟨og, 0, none⟩) n oc) ∧ W.cell? ⟨og, i, none⟩ = some U ∧ W.cell? ⟨g, k, none⟩ = some h ∧ W.frozen? ⟨og, i, none⟩ = false
theorem St.rOne {W : World} (H : St w0 W (rRef q d :: L)) {i k : Nat} (hi : i < d.vals.length) (hk : k < (d.vals.getD i []).length) (hok : ({ d with vals := d.vals.set i [(d.vals.getD i []).getD k []] } : Dsk).Ok) : ∃ og oc g c b c', OneAt W q og d.vals.length oc i (.slice (some ⟨g, 0, none⟩) (d.vals.getD i []).length c) g k (.slice (some ⟨b, 0, none⟩) 256 c') ∧ (d.vals.getD i []).length ≤ 9223372036854775807 ∧
    OneAt (W.alloc (.cells #[.slice (some ⟨b, 0, none⟩) 256 c'] 31)) q og d.vals.length oc i (.slice (some ⟨g, 0, none⟩) (d.vals.getD i []).length c) g k (.slice (some ⟨b, 0, none⟩) 256 c') ∧
    OneAt ((W.alloc (.cells #[.slice (some ⟨b, 0, none⟩) 256 c'] 31)).setCell ⟨og, i, none⟩ (.slice (some ⟨W.heap.size, 0, none⟩) 1 1)) q og d.vals.length oc i (.slice (some ⟨W.heap.size, 0, none⟩) 1 1) g k (.slice (some ⟨b, 0, none⟩) 256 c') ∧
    St w0 ((W.alloc (.cells #[.slice (some ⟨b, 0, none⟩) 256 c'] 31)).setCell ⟨og, i, none⟩ (.slice (some ⟨W.heap.size, 0, none⟩) 1 1)) (rRef q { d with vals := d.vals.set i [(d.vals.getD i []).getD k []] } :: L) := by
  have hsp : ∃ x : (Nat × Nat) × (Nat × Nat) × (Nat × Nat), St w0 W (rAnd ((W.cell? ⟨q, 0, none⟩ = some (.slice (some ⟨x.1.1, 0, none⟩) d.vals.length x.1.2) ∧ W.cell? ⟨x.1.1, i, none⟩ = some (.slice (some ⟨x.2.1.1, 0, none⟩) (d.vals.getD i []).length x.2.1.2) ∧
      W.cell? ⟨x.2.1.1, k, none⟩ = some (.slice (some ⟨x.2.2.1, 0, none⟩) 256 x.2.2.2)) ∧ (d.vals.getD i []).length ≤ 9223372036854775807 ∧ x.1.1 ≠ q ∧ x.1.1 ≠ x.2.1.1 ∧ W.frozen? ⟨x.1.1, i, none⟩ = false) (rVal x.2.2.1 x.2.2.2 ((d.vals.getD i []).getD k [])) :: rRef q d :: L) := by
    refine H.also fun T S h => ?_
    obtain ⟨⟨u, us⟩, S1, S2, h1, ⟨S3, S4, h5, ⟨S5, S6, h7, h8, _⟩, _⟩, _⟩ := h
    have hok := h1.1
    have hblk := h1.2.1
    have hl : us.length = d.vals.length := h7.1.1
    have hll : ∀ (i : Nat) (u : Value) (vs : List Sec), us[i]? = some u → d.vals[i]? = some vs → ListAt W T u vs := h7.1.2
    have h5o : W.ownsRow 0 40 1 u d.vals.length us := h5.1
    have hi2 : i < us.length := by omega
    obtain ⟨og, oc, e0, _, _⟩ := h5o.form (by have := hok.n1; omega)
    have e0 : u = .slice (some ⟨og, 0, none⟩) d.vals.length oc := e0
    subst e0
    have hg : d.vals.getD i [] = d.vals[i] := by rw [List.getD_eq_getElem?_getD, List.getElem?_eq_getElem hi]; rfl
    rw [hg] at hk ⊢
    obtain ⟨g, c, hs, e, _, h2, h3, h4⟩ := hll i us[i] d.vals[i] (List.getElem?_eq_getElem (by omega)) (List.getElem?_eq_getElem hi)
    have hc := h5o.cells (g := og) rfl i us[i] (List.getElem?_eq_getElem (by omega))
    rw [addr_add, Nat.zero_add, e] at hc
    obtain ⟨b, c', e1, hv⟩ := h4 k hs[k] d.vals[i][k] (List.getElem?_eq_getElem (by omega)) (List.getElem?_eq_getElem hk)
    rw [e] at h2
    have hc2 := h2.cells (g := g) rfl k hs[k] (List.getElem?_eq_getElem (by omega))
    rw [addr_add, Nat.zero_add, e1] at hc2
    have hml : d.vals[i].length ≤ 9223372036854775807 := by
      rcases h2.2 with ⟨h, _⟩ | ⟨g', cap, cur, _, _, _, r1, r2, _⟩
      · cases h
      · simp only [maxLen] at r2; omega
    obtain ⟨cur1, t1⟩ := ownsRow_ty h5o
    obtain ⟨cur2, t2⟩ := ownsRow_ty h2
    unfold rObj at hblk
    refine ⟨((og, oc), (g, c), (b, c')), ⟨⟨(cell_of_blk hblk 0).trans rfl, hc, hc2⟩, hml, fun eq => ?_, fun eq => ?_, free_of_blk t1 i⟩, ?_, fun _ h => h⟩
    · have eq : og = q := eq
      rw [eq, hblk] at t1
      injection t1 with t1
      injection t1 with _ t1 _
      exact absurd t1 (by decide)
    · have eq : og = g := eq
      rw [eq, t2] at t1
      injection t1 with t1
      injection t1 with _ t1 _
      exact absurd t1 (by decide)
    · rw [List.getD_eq_getElem?_getD, List.getElem?_eq_getElem hk]
      exact hv
  obtain ⟨⟨⟨og, oc⟩, ⟨g, c⟩, ⟨b, c'⟩⟩, H⟩ := hsp
  obtain ⟨⟨⟨k0, k1, k2⟩, hml, n1, n2, fz⟩, H⟩ := H.fact
  have l0 := World.block_lt_of_cell? _ _ k0
  have l1 := World.block_lt_of_cell? _ _ k1
  have l2 := World.block_lt_of_cell? _ _ k2
  have hB := (Below.refl W.heap.size W).alloc (Nat.le_refl _) (.cells #[.slice (some ⟨b, 0, none⟩) 256 c'] 31)
  have b0 := pw_cell_below hB k0
  have b1 := pw_cell_below hB k1
  have b2 := pw_cell_below hB k2
  have H1 := ((H.alloc (.cells #[.slice (some ⟨b, 0, none⟩) 256 c'] 31)).listOne.lstOf (by simp)).swap
  obtain ⟨u, us, H1⟩ := H1.ref
  have hR := H1.refIs
  obtain ⟨og', oc', rfl⟩ := hR.form
  have c0 := hR.cells.1
  rw [b0] at c0
  cases c0
  have H2 := H1.refPut (i := i) rfl hok
  have fz2 : (W.alloc (.cells #[.slice (some ⟨b, 0, none⟩) 256 c'] 31)).frozen? ⟨og, i, none⟩ = false := by
    obtain ⟨cur, t⟩ := ownsRow_ty hR.row
    exact free_of_blk t i
  refine ⟨og, oc, g, c, b, c', ⟨k0, k1, k2, fz⟩, hml, ⟨b0, b1, b2, fz2⟩, ⟨(cell_far (Ne.symm n1)).trans b0, ?_, (cell_far (Ne.symm n2)).trans b2, ?_⟩, H2⟩
  · have hh := hR.row
    obtain ⟨cur, t⟩ := ownsRow_ty hh
    have hsz : i < cur.size := by
      have := (cell_of_blk t i).symm.trans b1
      exact (Array.getElem?_eq_some_iff.1 this).1
    rw [cell_of_blk (heap_setCell_self t _)]
    simp [Array.getElem?_setIfInBounds, hsz]
  · obtain ⟨cur, t⟩ := ownsRow_ty hR.row
    exact free_of_blk (heap_setCell_self t _) i
end
end Go.Proofs.Ytoojcgmdcbcenaa
namespace Go.Proofs.Ytoojcgmdcbcenaa
open Go.RowKit Go.Maps Go.Proofs.YtoojcgmdcbcenaaW.PrintWords
attribute [local go_sem ↓] Go.wp_at_zero Go.wp_at_succ
set_option linter.unusedVariables false
set_option linter.unusedSimpArgs false
set_option maxRecDepth 100000

/-- The first I sectors settled. -/
def setI (vals : List (List Sec)) (I : Nat) : List (List Sec) := (vals.take I).map (fun l => [lastOf l]) ++ vals.drop I
theorem setI_len (vals : List (List Sec)) {I : Nat} (h : I ≤ vals.length) : (setI vals I).length = vals.length := by
  simp [setI]; omega
theorem setI_get (vals : List (List Sec)) {I : Nat} (h : I < vals.length) : (setI vals I).getD I [] = vals.getD I [] := by
  rw [List.getD_eq_getElem?_getD, List.getD_eq_getElem?_getD, setI, List.getElem?_append_right (by simp; omega)]
  simp
  rw [show I - min I vals.length = 0 by omega, Nat.add_zero]
theorem setI_succ (vals : List (List Sec)) {I : Nat} (h : I < vals.length) : (setI vals I).set I [lastOf (vals.getD I [])] = setI vals (I + 1) := by
  have hd : vals.drop I = vals[I] :: vals.drop (I + 1) := by rw [List.drop_eq_getElem_cons h]
  have hg : vals.getD I [] = vals[I] := by rw [List.getD_eq_getElem?_getD, List.getElem?_eq_getElem h]; rfl
  have hm : ((vals.take I).map fun l => [lastOf l]).length = I := by simp; omega
  rw [setI, setI, hd, hg, List.set_append_right _ _ (by omega), hm, Nat.sub_self, List.set_cons_zero, List.take_succ_eq_append_getElem h, List.map_append]
  simp
theorem setI_end (vals : List (List Sec)) : setI vals vals.length = vals.map fun l => [lastOf l] := by simp [setI]
theorem setI_ok {d : Dsk} (h : d.Ok) {I : Nat} (hI : I ≤ d.vals.length) : ({ d with vals := setI d.vals I } : Dsk).Ok := by
  have hmem : ∀ l ∈ setI d.vals I, l ∈ d.vals ∨ ∃ m ∈ d.vals, l = [lastOf m] := fun l hl => by
    rcases List.mem_append.1 hl with hl | hl
    · obtain ⟨m, hm, rfl⟩ := List.mem_map.1 hl
      exact .inr ⟨m, List.mem_of_mem_take hm, rfl⟩
    · exact .inl (List.mem_of_mem_drop hl)
  refine ⟨by show 1 ≤ (setI d.vals I).length; rw [setI_len _ hI]; exact h.n1, by show (setI d.vals I).length ≤ 4096; rw [setI_len _ hI]; exact h.n2, fun l hl => ?_, fun l hl s hs => ?_, h.left1, h.left2, fun l hl => ?_⟩
  · rcases hmem l hl with hl | ⟨m, _, rfl⟩
    · exact h.ne l hl
    · simp
  · rcases hmem l hl with hl | ⟨m, hm, rfl⟩
    · exact h.sec l hl s hs
    · rw [List.mem_singleton.1 hs]; exact h.sec m hm _ (lastOf_mem (h.ne m hm))
  · rcases hmem l hl with hl | ⟨m, hm, rfl⟩
    · exact h.many l hl
    · simp
section
variable {w0 w : World} {q : Nat} {d : Dsk} {L : List Res}
set_option maxHeartbeats 2000000 in
theorem St.rSync (H : St w0 w (rRef q d :: L)) (ht : d.taken < maxTaken) : Calls Try.prog 31 #[.pointer (some ⟨q, 0, none⟩)] w fun e w' => e = .returned (.int .i64 d.sync.1) ∧ St w0 w' (rRef q d.sync.2 :: L) := by
  have htk := H.rTake ht
  have hok := H.refOk.take
  by_cases htr : d.take.1 = true
  · have e : d.sync = (0, d.take.2.settled) := by simp only [Dsk.sync, if_pos htr]
    rw [e]
    rw [htr] at htk
    have HTK := Aside0.mk htk
    generalize d.take.2 = d2 at *
    clear H htk e htr
    obtain ⟨V, hV⟩ : ∃ V, V = d2.vals.length := ⟨_, rfl⟩
    have hV2 := hok.n2
    rw [← hV] at hV2
    have HV := Aside0.mk hV
    have HOK := Aside0.mk hok
    clear hok hV
    go_enter Try.func31, Try.ntmps31
    go_wp2_with fail
    refine HTK.out.mono ?_
    rintro e W1 ⟨rfl, H1⟩
    have H1 : Aside0 (St w0 W1 (rRef q { d2 with vals := setI d2.vals 0 } :: L)) := ⟨by simpa [setI] using H1⟩
    clear HTK
    go_wp2_with fail
    go_loopw [3] (fun i W => ∃ I : Nat, i = .int .i64 (I : Int) ∧ I ≤ V ∧ Aside0 (St w0 W (rRef q { d2 with vals := setI d2.vals I } :: L))) (fun i _ => V - (RowKit.intOf i).toNat)
    case atStart => exact ⟨0, rfl, Nat.zero_le _, H1⟩
    case round =>
      clear H1
      obtain ⟨I, rfl, hI, HI⟩ := hrel
      have hlV : (setI d2.vals I).length = V := by rw [setI_len _ (by rw [← HV.out]; exact hI), HV.out]
      by_cases hIV : I < V
      · have u1 : decide ((I : Int) < (V : Int)) = true := decide_eq_true (by omega)
        have u2 : (0 : Int) ≤ (I : Int) := by omega
        have u3 : (I : Int) < (V : Int) := by omega
        have hIv : I < d2.vals.length := by rw [← HV.out]; exact hIV
        have hp := HOK.out.pos hIv
        obtain ⟨m, hm⟩ : ∃ m : Nat, m = (d2.vals.getD I []).length - 1 := ⟨_, rfl⟩
        have hget := setI_get d2.vals hIv
        have hlast : (d2.vals.getD I []).getD m [] = lastOf (d2.vals.getD I []) := by rw [hm, ← lastOf_get]
        have hsu := setI_succ d2.vals hIv
        have hok2 := setI_ok HOK.out (I := I + 1) (by omega)
        have hone := HI.out.drew.rOne (i := I) (k := m) (by show I < (setI d2.vals I).length; omega) (by show m < ((setI d2.vals I).getD I []).length; rw [hget]; omega) (by show ({ d2 with vals := (setI d2.vals I).set I [((setI d2.vals I).getD I []).getD m []] } : Dsk).Ok; rw [hget, hlast, hsu]; exact hok2)
        simp only [hget, hlast, hsu, hlV] at hone
        obtain ⟨og, oc, g, c, b, c', hS1, hml, hS2, hS3, hfin⟩ := hone
        obtain ⟨N, hN⟩ : ∃ N, N = (d2.vals.getD I []).length := ⟨_, rfl⟩
        rw [← hN] at hS1 hS2 hml hm hp
        have q1 : (0 : Int) ≤ (m : Int) := by omega
        have q2 : (m : Int) < (N : Int) := by omega
        have wm : wrap64 ((N : Int) - 1) = (m : Int) := by unfold wrap64; omega
        have wi : IntKind.i64.wrap ((N : Int) - 1) = (m : Int) := by rw [IntWalk.i64_in _ (by omega)]; omega
        have hw : wr.drew.alloc (.cells #[.slice (some ⟨b, 0, none⟩) 256 c'] 31) = (wr.alloc (.cells #[.slice (some ⟨b, 0, none⟩) 256 c'] 31)).drew := rfl
        have hz : wr.drew.heap.size = wr.heap.size := rfl
        rw [hw] at hS2
        rw [hw, hz] at hS3 hfin
        clear hw hz
        obtain ⟨a0, a1, a2, af⟩ := hS1
        have hA1 : Aside0 (wr.drew.cell? ⟨q, 0, none⟩ = some (.slice (some ⟨og, 0, none⟩) V oc) ∧ wr.drew.cell? ⟨og, I, none⟩ = some (.slice (some ⟨g, 0, none⟩) N c) ∧ wr.drew.cell? ⟨g, m, none⟩ = some (.slice (some ⟨b, 0, none⟩) 256 c') ∧ wr.drew.frozen? ⟨og, I, none⟩ = false) := ⟨⟨a0, a1, a2, af⟩⟩
        replace a0 : wr.cell? ⟨q, 0, none⟩ = some (.slice (some ⟨og, 0, none⟩) V oc) := a0
        replace a1 : wr.cell? ⟨og, I, none⟩ = some (.slice (some ⟨g, 0, none⟩) N c) := a1
        have S1 : Aside0 (wr.drew.cell? ⟨q, 0, none⟩ = some (.slice (some ⟨og, 0, none⟩) V oc) ∧ wr.drew.cell? ⟨g, m, none⟩ = some (.slice (some ⟨b, 0, none⟩) 256 c')) := ⟨⟨hA1.out.1, hA1.out.2.2.1⟩⟩
        have hSx : ∀ (W : World) (U : Value), OneAt W q og V oc I U g m (.slice (some ⟨b, 0, none⟩) 256 c') → W.cell? ⟨q, 0, none⟩ = some (.slice (some ⟨og, 0, none⟩) V oc) ∧ W.cell? ⟨g, m, none⟩ = some (.slice (some ⟨b, 0, none⟩) 256 c') := fun W U h => ⟨h.1, h.2.2.1⟩
        have S2 := Aside0.mk (hSx _ _ hS2)
        obtain ⟨_, kS, _, kF⟩ := hS2
        have S3 := Aside0.mk (hSx _ _ hS3)
        clear hSx
        have HF := Aside0.mk hfin
        clear hp hm hget hlast hsu hok2 hS3 hfin hN hml a2 af hA1 hIv hlV
        go_wp2_with fail
        go_region_held3 (fun W => W.cell? ⟨q, 0, none⟩ = some (.slice (some ⟨og, 0, none⟩) V oc) ∧ W.cell? ⟨g, m, none⟩ = some (.slice (some ⟨b, 0, none⟩) 256 c'))
          ((first | exact S1.out | exact S2.out | exact S3.out)) (fail)
        all_goals (
          go_wp2
          go_roundw
          case rel => exact ⟨I + 1, by go_num, hIV, HF⟩
          case measure => simp only [RowKit.intOf]; omega)
      · have hIe : I = V := by omega
        subst hIe
        have u1 : decide ((I : Int) < (I : Int)) = false := decide_eq_false (by omega)
        have hff : { d2 with vals := setI d2.vals I } = d2.settled := by rw [HV.out, setI_end]; rfl
        have HF := Aside0.mk (hff ▸ HI.out)
        obtain ⟨u, us, HR⟩ := HI.out.ref
        have hR := HR.refIs
        have c0 := hR.cells.1
        obtain ⟨og, oc, hu⟩ := hR.form
        rw [hu] at c0
        replace c0 : wr.cell? ⟨q, 0, none⟩ = some (.slice (some ⟨og, 0, none⟩) (setI d2.vals I).length oc) := c0
        rw [hlV] at c0
        clear hff HR hR hu hlV
        go_wp2
        go_ret
        exact ⟨rfl, HF.out⟩
  · have htf : d.take.1 = false := by simpa using htr
    have e : d.sync = (10, d.take.2) := by simp only [Dsk.sync, if_neg htr]
    rw [e]
    rw [htf] at htk
    have HTK := Aside0.mk htk
    clear H htk
    go_enter Try.func31, Try.ntmps31
    go_wp2_with fail
    refine HTK.out.mono ?_
    rintro e W1 ⟨rfl, H1⟩
    replace H1 := Aside0.mk H1
    go_wp2
    go_ret
    exact ⟨rfl, H1.out⟩
end
end Go.Proofs.Ytoojcgmdcbcenaa
namespace Go.Proofs.Ytoojcgmdcbcenaa
set_option linter.unusedVariables false
set_option linter.unusedSimpArgs false
set_option maxRecDepth 100000

theorem crashed_cons (picks : List Int) (j : Nat) (l : List Sec) (r : List (List Sec)) : Dsk.crashed picks j (l :: r) = if l.length < 2 then l :: Dsk.crashed picks j r else [l.getD (Dsk.pick picks j l.length) []] :: Dsk.crashed picks (j + 1) r := by
  rw [Dsk.crashed]
theorem crashed_append (picks : List Int) : ∀ (a b : List (List Sec)) (j : Nat), Dsk.crashed picks j (a ++ b) = Dsk.crashed picks j a ++ Dsk.crashed picks (j + rank a a.length) b
  | [], b, j => by simp [Dsk.crashed, rank]
  | x :: r, b, j => by
    have hr : rank (x :: r) (x :: r).length = (if 1 < x.length then 1 else 0) + rank r r.length := by
      simp only [rank, List.take_length, List.filter_cons]
      by_cases h : 1 < x.length
      · simp [h]; omega
      · simp [h]
    rw [List.cons_append, hr]
    rw [crashed_cons, crashed_cons]
    by_cases h : x.length < 2
    · rw [if_pos h, if_pos h, crashed_append picks r b j, if_neg (by omega), Nat.zero_add]; rfl
    · rw [if_neg h, if_neg h, crashed_append picks r b (j + 1), if_pos (by omega), ← Nat.add_assoc]; rfl
/-- The first I sectors crashed. -/
def crI (picks : List Int) (vals : List (List Sec)) (I : Nat) : List (List Sec) := Dsk.crashed picks 0 (vals.take I) ++ vals.drop I
theorem crI_zero (picks : List Int) (vals : List (List Sec)) : crI picks vals 0 = vals := by simp [crI, Dsk.crashed]
theorem crI_end (picks : List Int) (vals : List (List Sec)) : crI picks vals vals.length = Dsk.crashed picks 0 vals := by simp [crI]
theorem crI_len (picks : List Int) (vals : List (List Sec)) {I : Nat} (h : I ≤ vals.length) : (crI picks vals I).length = vals.length := by
  rw [crI, List.length_append, crashed_length]
  simp; omega
theorem crI_get (picks : List Int) (vals : List (List Sec)) {I : Nat} (h : I < vals.length) : (crI picks vals I).getD I [] = vals.getD I [] := by
  have hl : (Dsk.crashed picks 0 (vals.take I)).length = I := by rw [crashed_length]; simp; omega
  rw [List.getD_eq_getElem?_getD, List.getD_eq_getElem?_getD, crI, List.getElem?_append_right (by omega), hl]
  simp
theorem crI_step (picks : List Int) (vals : List (List Sec)) {I : Nat} (h : I < vals.length) : crI picks vals (I + 1) = (crI picks vals I).set I (if (vals.getD I []).length < 2 then vals.getD I [] else [(vals.getD I []).getD (Dsk.pick picks (rank vals I) (vals.getD I []).length) []]) := by
  have hl : (Dsk.crashed picks 0 (vals.take I)).length = I := by rw [crashed_length]; simp; omega
  have hd : vals.drop I = vals[I] :: vals.drop (I + 1) := by rw [List.drop_eq_getElem_cons h]
  have hg : vals.getD I [] = vals[I] := by rw [List.getD_eq_getElem?_getD, List.getElem?_eq_getElem h]; rfl
  have hr : rank (vals.take I) (vals.take I).length = rank vals I := by unfold rank; rw [List.take_length]
  rw [crI, crI, List.take_succ_eq_append_getElem h, crashed_append, hr, Nat.zero_add, hd, List.set_append_right _ _ (by omega), hl, Nat.sub_self, List.set_cons_zero, hg]
  rw [crashed_cons]
  by_cases h2 : vals[I].length < 2
  · rw [if_pos h2, if_pos h2]; simp [Dsk.crashed]
  · rw [if_neg h2, if_neg h2]; simp [Dsk.crashed]
theorem crI_short (picks : List Int) (vals : List (List Sec)) {I : Nat} (h : I < vals.length) (h2 : (vals.getD I []).length < 2) : crI picks vals (I + 1) = crI picks vals I := by
  rw [crI_step picks vals h, if_pos h2]
  have hl := crI_len picks vals (I := I) (by omega)
  have hg := crI_get picks vals h
  apply List.ext_getElem?
  intro j
  rw [List.getElem?_set]
  split
  · rename_i e
    subst e
    rw [if_pos (by omega), ← hg, List.getD_eq_getElem?_getD, List.getElem?_eq_getElem (by omega)]
    rfl
  · rfl
theorem crI_long (picks : List Int) (vals : List (List Sec)) {I : Nat} (h : I < vals.length) (h2 : ¬ (vals.getD I []).length < 2) : (crI picks vals I).set I [(vals.getD I []).getD (Dsk.pick picks (rank vals I) (vals.getD I []).length) []] = crI picks vals (I + 1) := by
  rw [crI_step picks vals h, if_neg h2]
theorem crI_ok {d : Dsk} (h : d.Ok) (picks : List Int) : ∀ {I : Nat}, I ≤ d.vals.length → ({ d with vals := crI picks d.vals I } : Dsk).Ok
  | 0, _ => by rw [crI_zero]; exact h
  | I + 1, hI => by
    have ih := crI_ok h picks (I := I) (by omega)
    by_cases h2 : (d.vals.getD I []).length < 2
    · rw [crI_short picks d.vals (by omega) h2]; exact ih
    · have hl := crI_len picks d.vals (I := I) (by omega)
      have hgm := h.get (i := I) (by omega)
      rw [← crI_long picks d.vals (by omega) h2]
      have hpk := pick_lt picks (rank d.vals I) (d.vals.getD I []).length (by omega)
      refine ⟨by show 1 ≤ (List.set _ _ _).length; rw [List.length_set]; exact ih.n1, by show (List.set _ _ _).length ≤ 4096; rw [List.length_set]; exact ih.n2, fun l hl => ?_, fun l hl s hs => ?_, h.left1, h.left2, fun l hl => ?_⟩
      · rcases List.mem_or_eq_of_mem_set hl with hl | rfl
        · exact ih.ne l hl
        · simp
      · rcases List.mem_or_eq_of_mem_set hl with hl | rfl
        · exact ih.sec l hl s hs
        · rw [List.mem_singleton.1 hs, List.getD_eq_getElem?_getD, List.getElem?_eq_getElem hpk]
          exact h.sec _ hgm _ (List.getElem_mem _)
      · rcases List.mem_or_eq_of_mem_set hl with hl | rfl
        · exact ih.many l hl
        · simp
end Go.Proofs.Ytoojcgmdcbcenaa
