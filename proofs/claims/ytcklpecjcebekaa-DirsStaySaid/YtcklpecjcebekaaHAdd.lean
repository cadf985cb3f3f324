/- dirs.Add: entries with one more. -/
import Derived.Test.YtcklpecjcebekaaHInsert
import Derived.Test.YtcklpecjcebekaaHClone
import Derived.Test.YtcklpecjcebekaaHPlace
import Derived.Test.YtcklpecjcebekaaPAllx6
namespace Go.Proofs.Ytcklpecjcebekaa.PAll
open Go.RowKit Go.Shelf Go.Lib Go.Proofs.YtcklpecjcebekaaW.PrintWords Go.Proofs.YtcklpecjcebekaaW.PrintLast Go.Proofs.YtcklpecjcebekaaW.PrintMore Go.Proofs.Ytcklpecjcebekaa.Sp
attribute [local go_sem] Oper.semAt_some
attribute [local go_sem] Go.Proofs.Ytcklpecjcebekaa.str_leq Go.Proofs.Ytcklpecjcebekaa.str_gtr Go.Proofs.Ytcklpecjcebekaa.str_geq
set_option linter.unusedVariables false
set_option linter.unusedSimpArgs false

/-- The closure in Add: does that entry's name come behind? -/
theorem behind_gives (b : Nat) (s : ByteArray) (x : S37) (W : World) (hb : W.cell? ⟨b, 0, none⟩ = some (.string s)) :
    Calls Try.prog 29 (#[.agg #[.string x.f0, .int .i64 x.f1]] ++ #[.pointer (some ⟨b, 0, none⟩)]) W fun e w' => e = .returned (.bool (Op.bytesLess s.toList x.f0.toList)) ∧ Below W.heap.size W w' := by
  have hu37 := Try.underlying37
  have hB := (Below.refl W.heap.size W).alloc (Nat.le_refl _) (.cells #[Value.string x.f0, Value.int IntKind.i64 x.f1] 37)
  have hb2 := (hB.cell (World.block_lt_of_cell? W _ hb)).trans hb
  go_enter Try.func29, Try.ntmps29
  go_wp2
  go_ret
  exact ⟨rfl, hB⟩

/-- Where a name is put. -/
def slot (l : List S37) (s : ByteArray) : Nat := let i := idxL (fun x => Op.bytesLess s.toList x.f0.toList) l; if i < 0 then l.length else i.toNat
def dirs_Add.f (l0 : List S37) (a1 : ByteArray) (a2 : Int) : Option (List S37 × Int) :=
  if isName a1.data.toList = false then some ([], 71) else
  if ¬ (0 ≤ a2 ∧ a2 ≤ 65535) then some ([], 2) else
  if ¬ idxL (fun x => x.f0.toList == a1.toList) l0 < 0 then some ([], 6) else
  if 256 ≤ l0.length then some ([], 4) else
  some (l0.take (slot l0 a1) ++ ⟨a1, a2⟩ :: l0.drop (slot l0 a1), 0)
theorem idxL_range (p : S37 → Bool) (l : List S37) : -1 ≤ idxL p l ∧ idxL p l < l.length + 1 ∧ (0 ≤ idxL p l → idxL p l < l.length) := by
  unfold idxL
  cases h : l.findIdx? p with
  | none => simp; omega
  | some i =>
    have hi := (List.findIdx?_eq_some_iff_getElem.1 h).1
    simp; omega
theorem slot_le (l : List S37) (s : ByteArray) : slot l s ≤ l.length := by
  unfold slot
  have := idxL_range (fun x => Op.bytesLess s.toList x.f0.toList) l
  dsimp only
  split <;> omega

set_option maxHeartbeats 4000000 in
set_option maxRecDepth 100000 in
theorem dirs_Add.calls (A0 : Option Addr) (c0 : Nat) (l0 : List (S37)) (a1 : ByteArray) (a2 : Int) (r1 : List (S37)) (r2 : Int) (w : World) (hr0 : Kd.C k37 w A0 l0.length l0) (hc0 : l0.length ≤ c0) (h : dirs_Add.f l0 a1 a2 = some (r1, r2)) :
    Calls Try.prog 10 #[.slice A0 l0.length c0, .string a1, .int .i64 a2] w fun e w' => ∃ v0_ : Value, e = .returned (.tuple #[v0_, .int .i64 r2]) ∧ Kd.R k37 37 w' w.heap.size (fun _ => True) v0_ r1 ∧ Below w.heap.size w w' := by
  have hB := (Below.refl w.heap.size w).alloc (Nat.le_refl _) (.cells #[Value.string a1] 9)
  have hbx : (w.alloc (.cells #[Value.string a1] 9)).cell? ⟨w.heap.size, 0, none⟩ = some (.string a1) := by simp
  obtain ⟨W1, hW1⟩ : ∃ W1, W1 = w.alloc (.cells #[Value.string a1] 9) := ⟨_, rfl⟩
  have hB1 : Below w.heap.size w W1 := by rw [hW1]; exact hB
  have hbx1 : W1.cell? ⟨w.heap.size, 0, none⟩ = some (.string a1) := by rw [hW1]; exact hbx
  obtain ⟨pi, pe, hpl⟩ : ∃ pi pe, dirs_place.f l0 a1 = some (pi, pe) := by
    unfold dirs_place.f; dsimp only; split; exact ⟨_, _, rfl⟩; split <;> exact ⟨_, _, rfl⟩
  have cP : ∀ W, Below w.heap.size w W → Calls Try.prog 26 #[.slice A0 l0.length c0, .string a1] W fun e w' => e = .returned (.tuple #[.int .i64 pi, .int .i64 pe]) ∧ Below W.heap.size W w' := fun W hW => dirs_place.calls A0 c0 l0 a1 pi pe W (Kd.C_below hr0 hW) hc0 hpl
  have cN : ∀ W, Calls Try.prog 27 #[.int .i64 a2] W fun e w' => e = .returned (.bool (decide (0 ≤ a2 ∧ a2 ≤ 65535))) ∧ Below W.heap.size W w' := fun W => by
    refine (dirs_numbered.calls a2 _ W ?_).mono fun _ _ ⟨a, b⟩ => ⟨a, b.below⟩
    unfold dirs_numbered.f
    by_cases h0 : a2 ≥ 0
    · rw [if_pos h0]; simp [h0]
    · rw [if_neg h0]; simp [show ¬ 0 ≤ a2 from h0]
  -- what is so of place
  have hcase : (pe = 71 ∧ r1 = [] ∧ r2 = 71) ∨ (pe ≠ 71 ∧ ¬ (0 ≤ a2 ∧ a2 ≤ 65535) ∧ r1 = [] ∧ r2 = 2) ∨ (pe = 0 ∧ (0 ≤ a2 ∧ a2 ≤ 65535) ∧ r1 = [] ∧ r2 = 6) ∨
      (pe = 5 ∧ (0 ≤ a2 ∧ a2 ≤ 65535) ∧ 256 ≤ l0.length ∧ r1 = [] ∧ r2 = 4) ∨ (pe = 5 ∧ (0 ≤ a2 ∧ a2 ≤ 65535) ∧ l0.length < 256 ∧ r1 = l0.take (slot l0 a1) ++ ⟨a1, a2⟩ :: l0.drop (slot l0 a1) ∧ r2 = 0) := by
    unfold dirs_Add.f at h
    unfold dirs_place.f at hpl
    dsimp only at hpl
    by_cases c1 : isName a1.data.toList = false
    · rw [if_pos c1] at h hpl; simp at h hpl; exact .inl ⟨hpl.2.symm, h.1, h.2.symm⟩
    · rw [if_neg c1] at h hpl
      have hpe : (idxL (fun x => x.f0.toList == a1.toList) l0 < 0 ∧ pe = 5) ∨ (¬ idxL (fun x => x.f0.toList == a1.toList) l0 < 0 ∧ pe = 0) := by
        by_cases c : idxL (fun x => x.f0.toList == a1.toList) l0 < 0
        · rw [if_pos c] at hpl; simp at hpl; exact .inl ⟨c, hpl.2.symm⟩
        · rw [if_neg c] at hpl; simp at hpl; exact .inr ⟨c, hpl.2.symm⟩
      by_cases c2 : ¬ (0 ≤ a2 ∧ a2 ≤ 65535)
      · rw [if_pos c2] at h; simp only [Option.some.injEq, Prod.mk.injEq] at h
        exact .inr (.inl ⟨by rcases hpe with ⟨_, e⟩ | ⟨_, e⟩ <;> rw [e] <;> decide, c2, h.1.symm, h.2.symm⟩)
      · rw [if_neg c2] at h
        have c2' := Decidable.not_not.1 c2
        rcases hpe with ⟨c, e⟩ | ⟨c, e⟩
        · rw [if_neg (by simpa using c)] at h
          by_cases c3 : 256 ≤ l0.length
          · rw [if_pos c3] at h; simp only [Option.some.injEq, Prod.mk.injEq] at h
            exact .inr (.inr (.inr (.inl ⟨e, c2', c3, h.1.symm, h.2.symm⟩)))
          · rw [if_neg c3] at h; simp only [Option.some.injEq, Prod.mk.injEq] at h
            exact .inr (.inr (.inr (.inr ⟨e, c2', by omega, h.1.symm, h.2.symm⟩)))
        · rw [if_pos c] at h; simp only [Option.some.injEq, Prod.mk.injEq] at h
          exact .inr (.inr (.inl ⟨e, c2', h.1.symm, h.2.symm⟩))
  have HR0 := Aside0.mk hr0
  have HB1 := Aside0.mk hB1
  clear h hpl hr0 hB hB1
  rcases hcase with ⟨rfl, rfl, rfl⟩ | ⟨hne, hbad, rfl, rfl⟩ | ⟨rfl, hok, rfl, rfl⟩ | ⟨rfl, hok, hfull, rfl, rfl⟩ | ⟨rfl, hok, hsp, hr1, rfl⟩
  · go_enter Try.func10, Try.ntmps10
    go_wp2_with fail
    rw [← hW1]
    refine (cP _ HB1.out).mono ?_
    rintro e w2 ⟨rfl, hb⟩
    have HB2 := HB1.out.trans (hb.mono HB1.out.size)
    go_wp2
    go_ret2
    exact ⟨_, rfl, Kd.R_nil _ _ _ _ _, HB2⟩
  · have b1 : (pe == (71 : Int)) = false := by simpa using hne
    have b2 : decide (0 ≤ a2 ∧ a2 ≤ 65535) = false := decide_eq_false hbad
    rw [b2] at cN
    clear hne hbad b2
    go_enter Try.func10, Try.ntmps10
    go_wp2_with fail
    rw [← hW1]
    refine (cP _ HB1.out).mono ?_
    rintro e w2 ⟨rfl, hb⟩
    have HB2 := HB1.out.trans (hb.mono HB1.out.size)
    go_wp2_with fail
    refine (cN _).mono ?_
    rintro e w3 ⟨rfl, hb3⟩
    have HB3 := HB2.trans (hb3.mono HB2.size)
    go_wp2
    go_ret2
    exact ⟨_, rfl, Kd.R_nil _ _ _ _ _, HB3⟩
  · rw [decide_eq_true hok] at cN
    clear hok
    go_enter Try.func10, Try.ntmps10
    go_wp2_with fail
    rw [← hW1]
    refine (cP _ HB1.out).mono ?_
    rintro e w2 ⟨rfl, hb⟩
    have HB2 := HB1.out.trans (hb.mono HB1.out.size)
    have hbx2 := (hb.cell (World.block_lt_of_cell? W1 _ hbx1)).trans hbx1
    go_wp2_with fail
    refine (cN _).mono ?_
    rintro e w3 ⟨rfl, hb3⟩
    have HB3 := HB2.trans (hb3.mono HB2.size)
    have hbx3 := (hb3.cell (World.block_lt_of_cell? w2 _ hbx2)).trans hbx2
    go_wp2
    go_ret2
    exact ⟨_, rfl, Kd.R_nil _ _ _ _ _, HB3⟩
  · have t256 : decide (256 ≤ (l0.length : Int)) = true := decide_eq_true (by omega)
    clear hfull
    rw [decide_eq_true hok] at cN
    clear hok
    go_enter Try.func10, Try.ntmps10
    go_wp2_with fail
    rw [← hW1]
    refine (cP _ HB1.out).mono ?_
    rintro e w2 ⟨rfl, hb⟩
    have HB2 := HB1.out.trans (hb.mono HB1.out.size)
    have hbx2 := (hb.cell (World.block_lt_of_cell? W1 _ hbx1)).trans hbx1
    go_wp2_with fail
    refine (cN _).mono ?_
    rintro e w3 ⟨rfl, hb3⟩
    have HB3 := HB2.trans (hb3.mono HB2.size)
    have hbx3 := (hb3.cell (World.block_lt_of_cell? w2 _ hbx2)).trans hbx2
    go_wp2
    go_ret2
    exact ⟨_, rfl, Kd.R_nil _ _ _ _ _, HB3⟩
  · have hJ : (idxL (fun x => Op.bytesLess a1.toList x.f0.toList) l0 < 0 ∧ slot l0 a1 = l0.length) ∨ (¬ idxL (fun x => Op.bytesLess a1.toList x.f0.toList) l0 < 0 ∧ idxL (fun x => Op.bytesLess a1.toList x.f0.toList) l0 = (slot l0 a1 : Int)) := by
      unfold slot; dsimp only
      by_cases c : idxL (fun x => Op.bytesLess a1.toList x.f0.toList) l0 < 0
      · exact .inl ⟨c, by rw [if_pos c]⟩
      · exact .inr ⟨c, by rw [if_neg c]; omega⟩
    have hKl := slot_le l0 a1
    obtain ⟨K, hK⟩ : ∃ K, slot l0 a1 = K := ⟨_, rfl⟩
    rw [hK] at hJ hr1 hKl
    have cI : ∀ W, Below W1.heap.size W1 W → Calls Try.prog 28 #[.slice A0 l0.length c0, .func (.func 29) #[] #[.pointer (some ⟨w.heap.size, 0, none⟩)]] W fun e w' => e = .returned (.int .i64 (idxL (fun x => Op.bytesLess a1.toList x.f0.toList) l0)) ∧ Below W.heap.size W w' := fun W hW => by
      refine idx_calls 29 _ (enters_of Try.func29 (by kernel_rfl) rfl) _ A0 c0 l0 W (Kd.C_below HR0.out (HB1.out.trans (hW.mono HB1.out.size))) ?_
      intro W' x hW'
      refine behind_gives _ _ x W' ?_
      have hW2 := hW.trans (hW'.mono hW.size)
      exact (hW2.cell (World.block_lt_of_cell? _ _ hbx1)).trans hbx1
    obtain ⟨J, hJe⟩ : ∃ J, idxL (fun x => Op.bytesLess a1.toList x.f0.toList) l0 = J := ⟨_, rfl⟩
    simp only [hJe] at cI hJ
    clear hJe hK
    have t256 : decide (256 ≤ (l0.length : Int)) = false := decide_eq_false (by omega)
    have HSP := Aside0.mk hsp
    have HR1 := Aside0.mk hr1
    clear hsp hr1
    have ins : ∀ (W5 : World) (v : Value) (vb : Nat), Below w.heap.size w W5 → Kd.R k37 37 W5 w.heap.size (fun _ => True) v l0 → W5.heap[vb]? = some (.cells #[Value.string a1, Value.int .i64 a2] 37 (0, 0)) → v.ownBlock ≠ some vb → Calls Try.prog 30 #[v, .int .i64 (K : Int), .slice (some ⟨vb, 0, none⟩) 1 1] W5 fun e w' =>
        ∃ v1, e = .returned v1 ∧ Kd.R k37 37 w' w.heap.size (fun _ => True) v1 r1 ∧ Below w.heap.size w w' := fun W5 v vb hb hR hx hne => by
      rw [HR1.out]
      exact insert_calls w _ v l0 K ⟨a1, a2⟩ vb 1 hb hR hKl (by have := HSP.out; omega) hx hne
    have mixed : Try.prog.follows .mixedOrders = true := by kernel_rfl
    rw [decide_eq_true hok] at cN
    clear hok
    rcases hJ with ⟨hJ0, hJ1⟩ | ⟨hJ0, hJ1⟩
    · have tJ : decide (J < 0) = true := decide_eq_true hJ0
      rw [hJ1] at ins
      clear hJ0 hJ1 hKl
      go_enter Try.func10, Try.ntmps10
      go_wp2_with fail
      rw [← hW1]
      refine (cP _ HB1.out).mono ?_
      rintro e w2 ⟨rfl, hb⟩
      have HB2 := HB1.out.trans (hb.mono HB1.out.size)
      have hbx2 := (hb.cell (World.block_lt_of_cell? W1 _ hbx1)).trans hbx1
      go_wp2_with fail
      refine (cN _).mono ?_
      rintro e w3 ⟨rfl, hb3⟩
      have HB3 := HB2.trans (hb3.mono HB2.size)
      have HB13 := bl_trans hb hb3
      go_wp2_with fail
      refine (cI _ HB13).mono ?_
      rintro e w4 ⟨rfl, hb4⟩
      have HB4 := HB3.trans (hb4.mono HB3.size)
      have HB14 := bl_trans HB13 hb4
      have hbx4 := (HB14.cell (World.block_lt_of_cell? W1 _ hbx1)).trans hbx1
      have hbx4d : w4.drew.cell? ⟨w.heap.size, 0, none⟩ = some (.string a1) := hbx4
      have HB4d : Below w.heap.size w w4.drew := below_drew1 HB4
      have HB4a : Below w.heap.size w (w4.drew.alloc (.cells #[Value.string a1, Value.int .i64 a2] 37)) := HB4d.alloc HB4d.size _
      have hbx4a : (w4.drew.alloc (.cells #[Value.string a1, Value.int .i64 a2] 37)).cell? ⟨w.heap.size, 0, none⟩ = some (.string a1) := (((Below.refl w4.drew.heap.size w4.drew).alloc (Nat.le_refl _) _).cell (World.block_lt_of_cell? _ _ hbx4d)).trans hbx4d
      go_wp2_with fail
      go_region_with (first
        | (go_at_call 31; refine (clone_calls A0 c0 l0 _ (Kd.C_below HR0.out (by first | exact HB4d | exact HB4a)) hc0 (by have := HSP.out; omega)).mono ?_; rintro e w5 ⟨v, rfl, hv, hb5⟩; have HB5 : Below w.heap.size w w5 := (by first | exact HB4d.trans (hb5.mono HB4d.size) | exact HB4a.trans (hb5.mono HB4a.size)); have HV : Kd.R k37 37 w5 w.heap.size (fun _ => True) v l0 := Kd.R_lower hv (by first | exact HB4d.size | exact HB4a.size); have HOV := own_of_R hv; have hbx5 : w5.cell? ⟨w.heap.size, 0, none⟩ = some (.string a1) := (by first | exact (hb5.cell (World.block_lt_of_cell? _ _ hbx4d)).trans hbx4d | exact (hb5.cell (World.block_lt_of_cell? _ _ hbx4a)).trans hbx4a))
        | (go_at_call 30; refine (ins _ _ _ (by first | exact HB5.alloc HB5.size _ | exact HB5) (by first | exact Kd.R_alloc HV _ | exact HV) (by first | exact heap_alloc_new _ _ | exact (hb5.block _ (by simp)).trans (heap_alloc_new _ _)) (by intro e; have := HOV.lt _ e; first | omega | (simp at this; omega))).mono ?_; rintro e w6 ⟨v1, rfl, ho, hb6⟩))
      all_goals go_wp2
      all_goals go_ret2
      all_goals exact ⟨_, rfl, ho, hb6⟩
    · have tJ : decide (J < 0) = false := decide_eq_false hJ0
      rw [← hJ1] at ins
      clear hJ0 hJ1 hKl
      go_enter Try.func10, Try.ntmps10
      go_wp2_with fail
      rw [← hW1]
      refine (cP _ HB1.out).mono ?_
      rintro e w2 ⟨rfl, hb⟩
      have HB2 := HB1.out.trans (hb.mono HB1.out.size)
      have hbx2 := (hb.cell (World.block_lt_of_cell? W1 _ hbx1)).trans hbx1
      go_wp2_with fail
      refine (cN _).mono ?_
      rintro e w3 ⟨rfl, hb3⟩
      have HB3 := HB2.trans (hb3.mono HB2.size)
      have HB13 := bl_trans hb hb3
      go_wp2_with fail
      refine (cI _ HB13).mono ?_
      rintro e w4 ⟨rfl, hb4⟩
      have HB4 := HB3.trans (hb4.mono HB3.size)
      have HB14 := bl_trans HB13 hb4
      have hbx4 := (HB14.cell (World.block_lt_of_cell? W1 _ hbx1)).trans hbx1
      have hbx4d : w4.drew.cell? ⟨w.heap.size, 0, none⟩ = some (.string a1) := hbx4
      have HB4d : Below w.heap.size w w4.drew := below_drew1 HB4
      have HB4a : Below w.heap.size w (w4.drew.alloc (.cells #[Value.string a1, Value.int .i64 a2] 37)) := HB4d.alloc HB4d.size _
      have hbx4a : (w4.drew.alloc (.cells #[Value.string a1, Value.int .i64 a2] 37)).cell? ⟨w.heap.size, 0, none⟩ = some (.string a1) := (((Below.refl w4.drew.heap.size w4.drew).alloc (Nat.le_refl _) _).cell (World.block_lt_of_cell? _ _ hbx4d)).trans hbx4d
      go_wp2_with fail
      go_region_with (first
        | (go_at_call 31; refine (clone_calls A0 c0 l0 _ (Kd.C_below HR0.out (by first | exact HB4d | exact HB4a)) hc0 (by have := HSP.out; omega)).mono ?_; rintro e w5 ⟨v, rfl, hv, hb5⟩; have HB5 : Below w.heap.size w w5 := (by first | exact HB4d.trans (hb5.mono HB4d.size) | exact HB4a.trans (hb5.mono HB4a.size)); have HV : Kd.R k37 37 w5 w.heap.size (fun _ => True) v l0 := Kd.R_lower hv (by first | exact HB4d.size | exact HB4a.size); have HOV := own_of_R hv; have hbx5 : w5.cell? ⟨w.heap.size, 0, none⟩ = some (.string a1) := (by first | exact (hb5.cell (World.block_lt_of_cell? _ _ hbx4d)).trans hbx4d | exact (hb5.cell (World.block_lt_of_cell? _ _ hbx4a)).trans hbx4a))
        | (go_at_call 30; refine (ins _ _ _ (by first | exact HB5.alloc HB5.size _ | exact HB5) (by first | exact Kd.R_alloc HV _ | exact HV) (by first | exact heap_alloc_new _ _ | exact (hb5.block _ (by simp)).trans (heap_alloc_new _ _)) (by intro e; have := HOV.lt _ e; first | omega | (simp at this; omega))).mono ?_; rintro e w6 ⟨v1, rfl, ho, hb6⟩))
      all_goals go_wp2
      all_goals go_ret2
      all_goals exact ⟨_, rfl, ho, hb6⟩
end Go.Proofs.Ytcklpecjcebekaa.PAll
