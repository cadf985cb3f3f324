/- Texts of this claim, one behind the other: M4. -/
import Derived.Test.YtfhdiddlloiglaaDoorMA11
import Derived.Deep.RegionHeld3
import Derived.Deep.DrawnRows
section
/- The disk's Write. -/
namespace Go.Proofs.YtfhdiddlloiglaaDoor
open Go.RowKit Go.Maps Go.Proofs.YtfhdiddlloiglaaDoorW.PrintWords
attribute [local go_sem ↓] Go.wp_at_zero Go.wp_at_succ
set_option linter.unusedVariables false
set_option linter.unusedSimpArgs false
set_option maxRecDepth 100000

/-- A value that nobody writes any more. -/
def rVal (b c : Nat) (s : Sec) : Res :=
  ⟨fun w T S => ValAt w T b c s ∧ ∀ i, ¬ S i, fun h i hi => absurd hi (h.2 i), fun h _ hk hT => ⟨h.1.kept (fun i hi => hk i (.inr hi)) hT, h.2⟩⟩
section
variable {w0 w : World} {p : Nat} {d : Dsk} {L : List Res}
theorem St.rowVal {b c : Nat} {s : Sec} (H : St w0 w (rRow 5 1 (.slice (some ⟨b, 0, none⟩) 256 c) 256 (bytes s) :: L)) : St w0 w (rVal b c s :: L) :=
  H.rowT fun T hT h1 h2 => ⟨⟨h2 b rfl, h1⟩, fun _ h => h⟩
theorem vals_put {Df : DU} {vals : List (List Sec)} {b c i : Nat} {s : Sec} (hD : IsMap Df) (hi : i < vals.length) (hl : vals.length ≤ 4096) (hk : (vals.getD i []).length ≤ 2305843009213693952) (hall : ∀ j, (vals.getD j []).length ≤ 2305843009213693952)
    (H : St w0 w (rVals Df vals :: rVal b c s :: L)) : St w0 w (rVals (Df.put (spotK i ((vals.getD i []).length : Nat)) (hdr b 256 c)) (vals.modify i (· ++ [s])) :: L) := by
  refine H.join.imp fun T S h hS hT => ?_
  obtain ⟨S1, S2, h1, h2, h3, h4⟩ := h
  refine ⟨fun j k t hk1 ht => ?_, fun q hq => ((h4 q).1 hq).elim (h1.2 q) (h2.2 q)⟩
  rw [getD_modify] at ht
  have wfN : ∀ n : Nat, n ≤ 2305843009213693952 → (Lit.int .i64 (n : Nat)).wf = true := fun n hn => wf64 (by omega) (by omega)
  have hj : j < vals.length ∨ vals.getD j [] = [] := by
    by_cases hj : j < vals.length
    · exact .inl hj
    · exact .inr (by rw [List.getD_eq_getElem?_getD, List.getElem?_eq_none (by omega)]; rfl)
  by_cases e : i = j ∧ j < vals.length
  · rw [if_pos e] at ht
    obtain ⟨rfl, _⟩ := e
    by_cases ek : k = (vals.getD i []).length
    · subst ek
      have : t = s := by simpa using ht.symm
      subst this
      exact ⟨b, c, fun z => atKey_put_same hD (by trivial) _ _, h2.1⟩
    · have hkl : k < (vals.getD i []).length := by
        have := (List.getElem?_eq_some_iff.1 ht).1
        rw [List.length_append, List.length_singleton] at this
        omega
      rw [List.getElem?_append_left hkl] at ht
      obtain ⟨b', c', e1, e2⟩ := h1.1 i k t hk1 ht
      refine ⟨b', c', fun z => ?_, e2⟩
      rw [atKey_put_other (fun e => ek ?_), e1]
      have := (spotK_inj (wfN i (by omega)) (wfN k (by omega)) (wfN i (by omega)) (wfN _ hk) e).2
      omega
  · rw [if_neg e] at ht
    obtain ⟨b', c', e1, e2⟩ := h1.1 j k t hk1 ht
    refine ⟨b', c', fun z => ?_, e2⟩
    have hkl := (List.getElem?_eq_some_iff.1 ht).1
    have hall' := hall j
    have hjl : j < vals.length := by
      rcases hj with hj | hj
      · exact hj
      · rw [hj] at hkl; simp at hkl
    rw [atKey_put_other (fun e3 => e ?_), e1]
    have := (spotK_inj (wfN j (by omega)) (wfN k (by omega)) (wfN i (by omega)) (wfN _ hk) e3).1
    exact ⟨by omega, hjl⟩
theorem flat_mod {b : Sec} : ∀ {vals : List (List Sec)} (j : Nat), (∀ l ∈ vals, l ≠ []) → (vals.modify j (· ++ [b])).flatMap headOf = vals.flatMap headOf
  | [], j, _ => by simp
  | a :: r, 0, h => by
    have := h a (by simp)
    cases a with
    | nil => exact absurd rfl this
    | cons c t => simp [List.modify_zero_cons, headOf]
  | a :: r, j + 1, h => by
    simp only [List.modify_succ_cons, List.flatMap_cons]
    rw [flat_mod j (fun l hl => h l (by simp [hl]))]
theorem ownsMap_tight {H : Type} {P : Program} {k : TypeId} {R : Value → Option (DataW H × List MemPlace)} {w : World} {b n n' : Nat} {D : DataW H} (h : w.ownsMap P k R b n D) (hn : Maps.size D ≤ n') : w.ownsMap P k R b n' D := by
  obtain ⟨es, clock, hb, F, hs, rfl⟩ := h
  have e1 : Maps.size (DataW.map ((es.toList.map (WideElems.rg P k R)).foldr DataW.insert [])) = es.size := by simp [Maps.size, length_sorted]
  exact ⟨es, clock, hb, F, by rw [← e1]; exact hn, rfl⟩
/-- On the way through Write: the number is counted, the value may be there. -/
def WG (w0 : World) (p : Nat) (d1 : Dsk) (x : DX) (j k : Nat) (B : Res) (L : List Res) (W : World) : Prop :=
  ∃ Df : DU, Maps.size Df + (if Maps.has Df (spotK (j : Nat) (k : Nat)) then 0 else 1) ≤ d1.extra + 1 ∧
    St w0 W (rMap Tryd.prog 102 rdVal x.mf (d1.extra + 1) Df :: rMap Tryd.prog 3 (plainElem Tryd.prog 3) x.mm (d1.extra + 1) (x.Dm.put (.int .i64 (j : Nat)) (.lit (.int .i64 (k : Int)))) :: rBlk p (dObj x d1) ::
      rRow 5 1 (.slice (some ⟨x.a, 0, none⟩) (d1.vals.length * 256) x.cap) (d1.vals.length * 256) (bytes d1.sure) :: rVals Df d1.vals :: B :: L)
structure WriteFacts (w0 w1 wm : World) (p : Nat) (d1 : Dsk) (x : DX) (j m k : Nat) (A : Option Addr) (b : Sec) (B : Res) (L : List Res) : Prop where
  c2 : w1.cell? ⟨p, 2, none⟩ = some (.map (some x.mm))
  l1 : (Instr.lookup 81 (.map (some x.mm)) (.int .i64 (j : Nat)) false).run Tryd.prog w1 = .ok (.int .i64 (m : Nat)) w1
  wr : wrap64 ((m : Int) + 1) = (k : Int)
  up : (Instr.mapUpdate 81 (.map (some x.mm)) (.int .i64 (j : Nat)) (.int .i64 (k : Int))).run Tryd.prog w1 = .ok () wm
  g : WG w0 p d1 x j k B L wm
  cl : ∀ W, WG w0 p d1 x j k B L W → ∀ c, (A = none → c = 0) → Calls Tryd.prog 45 #[.slice A 256 c] W fun e W' => ∃ v W2, e = .returned v ∧ WG w0 p d1 x j k B L W' ∧
    (Instr.mapUpdate 80 (.map (some x.mf)) (.agg #[.int .i64 (j : Nat), .int .i64 (k : Int)]) v).run Tryd.prog W' = .ok () W2 ∧ WG w0 p d1 x j k B L W2 ∧ St w0 W2 (rDisk p (d1.put j b) :: B :: L)
  cs : ∀ W, WG w0 p d1 x j k B L W → W.cell? ⟨p, 1, none⟩ = some (.map (some x.mf)) ∧ W.cell? ⟨p, 2, none⟩ = some (.map (some x.mm)) ∧ (Instr.lookup 81 (.map (some x.mm)) (.int .i64 (j : Nat)) false).run Tryd.prog W = .ok (.int .i64 (k : Int)) W ∧ Aside0 (WG w0 p d1 x j k B L W)
theorem WG.drew {w0 W : World} {p : Nat} {d1 : Dsk} {x : DX} {j k : Nat} {B : Res} {L : List Res} (h : WG w0 p d1 x j k B L W) : WG w0 p d1 x j k B L W.drew := by
  obtain ⟨Df, h1, H⟩ := h
  exact ⟨Df, h1, H.drew⟩
set_option maxHeartbeats 1000000 in
theorem write_facts {w0 w1 : World} {p : Nat} {d1 : Dsk} {B : Res} {L : List Res} {A : Option Addr} {b : Sec} (H : St w0 w1 (rDisk p d1 :: B :: L)) (hB : ∀ {w : World} {T S : Foot}, B.has w T S → Rd w A b) {j : Nat} (hj : j < d1.vals.length)
    (ht : d1.taken ≤ maxTaken) (hb : b.length = 256) (hok : (d1.put j b).Ok) : ∃ x m k wm, WriteFacts w0 w1 wm p d1 x j m k A b B L := by
  obtain ⟨x, H⟩ := H.disk
  have h := H.diskIs
  have hn := h.ok.n2
  obtain ⟨hof, hb1⟩ := h.often hj
  have hpos := h.ok.pos hj
  have hmany := h.ok.many _ (h.ok.get hj)
  have hex := h.ok.extra_le
  unfold maxTaken at ht
  have hkey : keyOf Tryd.prog 3 (.int .i64 (j : Nat)) = some (.int .i64 (j : Nat)) := keyOf_int_mk Tryd.underlying3 (wf64 (by omega) (by omega))
  obtain ⟨m, hm⟩ : ∃ m : Nat, m = (d1.vals.getD j []).length - 1 := ⟨_, rfl⟩
  obtain ⟨k, hk⟩ : ∃ k : Nat, k = m + 1 := ⟨_, rfl⟩
  have hm1 : (d1.vals.getD j []).length = k := by omega
  rw [← hm] at hof
  have hmM := h.many.put (h.mm.isMap) h.ok.ne hj b
  rw [hm1] at hmM
  obtain ⟨wm, hup, hown, hg⟩ := h.mm.update (t := 81) (d := .lit (.int .i64 (k : Int))) (ps := []) (val := .int .i64 (k : Int)) K3 Tryd.underlying81 (by simp only [maxLen]; omega) hkey (plainElem_int Tryd.underlying3 (wf64 (by omega) (by omega)))
  have hall : ∀ j, (d1.vals.getD j []).length ≤ 2305843009213693952 := fun j => by
    by_cases hj : j < d1.vals.length
    · have := h.ok.many _ (h.ok.get hj); omega
    · rw [List.getD_eq_getElem?_getD, List.getElem?_eq_none (by omega)]; simp
  have ev : (d1.put j b).vals = d1.vals.modify j (· ++ [b]) := rfl
  have ex : (d1.put j b).extra = d1.extra + 1 := extra_mod b d1.vals j hj h.ok.ne
  have es : (d1.put j b).sure = d1.sure := by
    simp only [Dsk.sure, ev]
    exact flat_mod j h.ok.ne
  have el : (d1.vals.modify j (· ++ [b])).length = d1.vals.length := by simp
  have hc2 : ∀ y : DX, y.a = x.a → y.cap = x.cap → y.mf = x.mf → y.mm = x.mm → dObj y (d1.put j b) = dObj x d1 := fun y e1 e2 e3 e4 => by simp [dObj, Dsk.put, e1, e2, e3, e4]
  have hblk1 := h.blk
  have hsz := h.mf.size_le
  have hwf : ∀ n : Nat, n ≤ 2305843009213693952 → (Lit.int .i64 (n : Nat)).wf = true := fun n hn => wf64 (by omega) (by omega)
  obtain ⟨⟨h1, h3⟩, H⟩ := St.fact H
  have hD0 := h.mm.isMap
  have hgm : WG w0 p d1 x j k B L wm := by
    have Hm := (St.rot4 H).setMap hown hg
    refine ⟨x.Df, by split <;> omega, ?_⟩
    have H4 := St.rot4 Hm
    exact H4.mono fun T => Holds.cons_mono (fun _ h => ⟨h.1.mono (Nat.le_succ _), h.2⟩) fun _ h => h
  clear H hsz
  refine ⟨x, m, k, wm, ⟨by simp [World.cell?, hblk1, dObj], hof, by unfold wrap64; omega, hup, hgm, fun W hW c hc => ?_, fun W hW => ?_⟩⟩
  · obtain ⟨Df, e1, HW⟩ := hW
    have hRd : Rd W A b := by
      obtain ⟨T, S, hh, _⟩ := HW.drop.drop.drop.drop.drop.fst
      exact hB hh
    have hC := clone_calls (w := W) (c := c) hRd (by omega) hc
    rw [hb] at hC
    refine hC.mono ?_
    rintro e W' ⟨v, rfl, hv, hbl, _⟩
    obtain ⟨g, cap, rfl, _, _⟩ := hv.form (by omega)
    have hD := HW.map.isMap
    have hT := HW.map.tidy K73
    have HG := HW.go hbl
    have Hv := (HW.gainRow hbl hv).rowVal
    have ho := HG.map
    obtain ⟨W2, hup2, hown2, hg2⟩ := ho.update (t := 80) (d := hdr g 256 cap) (ps := []) (val := .slice (some ⟨g, 0, none⟩) 256 cap) K73 Tryd.underlying80 (by simp only [maxLen]; omega) (spot_key (a := (j : Nat)) (b := (k : Nat)) (hwf j (by omega)) (hwf k (by omega))) (rdVal_mk g 256 cap)
    have hsz2 : Maps.size (Df.put (spotK (j : Nat) (k : Nat)) (hdr g 256 cap)) ≤ d1.extra + 1 := by
      rw [size_put hT]
      split
      · rename_i hh
        rw [if_pos hh] at e1
        exact e1
      · rename_i hh
        rw [if_neg hh] at e1
        exact e1
    have hown3 := ownsMap_tight hown2 hsz2
    refine ⟨_, W2, rfl, ⟨Df, e1, HG⟩, hup2, ⟨Df.put (spotK (j : Nat) (k : Nat)) (hdr g 256 cap), ?_, ?_⟩, ?_⟩
    · rw [has_put_same hD (by trivial)]; simpa using hsz2
    · have H2 := HG.setMap hown3 hg2
      refine (St.back5 (St.imp (St.rot5 H2) fun T S hh hS hT => ?_))
      refine ⟨fun i q t hq ht => ?_, hh.2⟩
      obtain ⟨b', c', a1, a2⟩ := hh.1 i q t hq ht
      refine ⟨b', c', fun z => ?_, a2⟩
      have hql := (List.getElem?_eq_some_iff.1 ht).1
      have hi : i < d1.vals.length := by
        by_cases hi : i < d1.vals.length
        · exact hi
        · rw [List.getD_eq_getElem?_getD, List.getElem?_eq_none (by omega)] at hql; simp at hql
      have := hall i
      rw [atKey_put_other (fun e => ?_), a1]
      obtain ⟨a3, a4⟩ := spotK_inj (hwf i (by omega)) (hwf q (by omega)) (hwf j (by omega)) (hwf k (by omega)) e
      have a5 : i = j := by omega
      subst a5
      omega
    · have H2 := (St.swap Hv).setMap hown3 hg2
      -- mf', val, mm', blk, row, vals, B, L
      have H3 := St.swap (St.rot6 H2)
      have H4 : St w0 W2 (rVals Df d1.vals :: rVal g cap b :: rMap Tryd.prog 102 rdVal x.mf (d1.extra + 1) (Df.put (spotK (j : Nat) (k : Nat)) (hdr g 256 cap)) :: _) := (St.back3 H3)
      have H5 := vals_put hD hj hn (hall j) hall H4
      rw [hm1] at H5
      have H6 := St.rot5 (St.rot5 H5)
      refine St.mkDisk { x with Df := Df.put (spotK (j : Nat) (k : Nat)) (hdr g 256 cap), Dm := x.Dm.put (.int .i64 (j : Nat)) (.lit (.int .i64 (k : Int))) } ?_
      unfold rDiskX
      rw [ex, es, ev]
      refine St.infact ⟨hok, hmM⟩ ?_
      rw [el, hc2 { x with Df := Df.put (spotK (j : Nat) (k : Nat)) (hdr g 256 cap), Dm := x.Dm.put (.int .i64 (j : Nat)) (.lit (.int .i64 (k : Int))) } rfl rfl rfl rfl]
      exact H6.perm (((List.perm_middle (l₁ := [_, _])).symm.cons _).cons _)
  · have hW0 := hW
    obtain ⟨Df, e1, HW⟩ := hW
    have blk := HW.drop.drop.blk
    refine ⟨by simp [World.cell?, blk, dObj], by simp [World.cell?, blk, dObj], ?_, ⟨hW0⟩⟩
    obtain ⟨c, hrun, hat, hw⟩ := HW.drop.map.lookup_int (t := 81) K3 Tryd.underlying81 Tryd.underlying3 (zero3 W) hkey
    rw [atKey_put_same hD0 (int_key _)] at hat
    injection hat with hat
    injection hat with _ hat
    subst hat
    exact hrun
theorem Dsk.take_true {d : Dsk} (h : d.take.1 = true) : d.take.2.vals = d.vals ∧ d.take.2.taken = d.taken + 1 := by
  unfold Dsk.take at h ⊢
  split
  · rename_i h1; rw [if_pos h1] at h; cases h
  · exact ⟨rfl, rfl⟩
set_option maxHeartbeats 4000000 in
theorem St.write {B : Res} {A : Option Addr} {b : Sec} (H : St w0 w (rDisk p d :: B :: L)) (hB : ∀ {w : World} {T S : Foot}, B.has w T S → Rd w A b) (ht : d.taken < maxTaken) (hby : ∀ x ∈ b, 0 ≤ x ∧ x ≤ 255) (i : Int) (c : Nat) (hA : A = none → c = 0) :
    Calls Tryd.prog 41 #[.pointer (some ⟨p, 0, none⟩), .int .i64 i, .slice A b.length c] w fun e w' => e = .returned (.int .i64 (d.write i b).1) ∧ St w0 w' (rDisk p (d.write i b).2 :: B :: L) := by
  have hk := H.look i
  have htk := H.take ht
  have hok := H.diskOk
  have hokw := hok.write hby i
  by_cases h1 : i < 0 ∨ (d.vals.length : Int) ≤ i
  · have e : d.write i b = (2, d) := by simp only [Dsk.write, if_pos h1]
    rw [if_pos h1] at hk
    rw [e]
    have HH := Aside0.mk H
    clear H htk hok hokw
    go_enter Tryd.func41, Tryd.ntmps41
    go_wp2_with fail
    refine hk.mono ?_
    rintro e w1 ⟨rfl, rfl⟩
    go_wp2
    go_ret
    exact ⟨rfl, HH.out⟩
  · rw [if_neg h1] at hk
    by_cases h2 : b.length ≠ 256
    · have e : d.write i b = (2, d) := by simp only [Dsk.write, if_neg h1, if_pos h2]
      have hq : (((b.length : Nat) : Int) == 256) = false := by simpa using (by omega : ((b.length : Nat) : Int) ≠ 256)
      rw [e]
      have HH := Aside0.mk H
      clear H htk hok hokw
      go_enter Tryd.func41, Tryd.ntmps41
      go_wp2_with fail
      refine hk.mono ?_
      rintro e w1 ⟨rfl, rfl⟩
      go_wp2
      go_ret
      exact ⟨rfl, HH.out⟩
    · have h3 : b.length = 256 := by simpa using h2
      rw [h3]
      cases htb : d.take.1 with
      | false =>
        have e : d.write i b = (10, d.take.2) := by simp only [Dsk.write, if_neg h1, if_neg h2, htb, Bool.false_eq_true, if_false]
        rw [htb] at htk
        rw [e]
        clear H hok hokw
        go_enter Tryd.func41, Tryd.ntmps41
        go_wp2_with fail
        refine hk.mono ?_
        rintro e w1 ⟨rfl, rfl⟩
        go_wp2_with fail
        refine htk.mono ?_
        rintro e w2 ⟨rfl, H2⟩
        have HH := Aside0.mk H2
        clear H2
        go_wp2
        go_ret
        exact ⟨rfl, HH.out⟩
      | true =>
        have e : d.write i b = (0, d.take.2.put i.toNat b) := by simp only [Dsk.write, if_neg h1, if_neg h2, htb, if_true]
        obtain ⟨ev, et⟩ := Dsk.take_true htb
        rw [htb] at htk
        rw [e] at hokw ⊢
        obtain ⟨j, rfl⟩ : ∃ j : Nat, i = j := ⟨i.toNat, by omega⟩
        have hj : j < d.vals.length := by omega
        simp only [Int.toNat_natCast] at hokw ⊢
        generalize d.take.2 = d1 at *
        have hF := fun w1 (H1 : St w0 w1 (rDisk p d1 :: B :: L)) => write_facts H1 hB (j := j) (by rw [ev]; exact hj) (by rw [et]; exact ht) h3 hokw
        clear H hok hokw
        go_enter Tryd.func41, Tryd.ntmps41
        go_wp2_with fail
        refine hk.mono ?_
        rintro e w1 ⟨rfl, rfl⟩
        go_wp2_with fail
        refine htk.mono ?_
        rintro e w2 ⟨rfl, H2⟩
        obtain ⟨x, m, k, wm, F⟩ := hF w2 H2
        obtain ⟨c2, l1, wr, up, g, cl, cs⟩ := F
        have CL := Aside0.mk cl
        have CS := Aside0.mk cs
        have G0 := Aside0.mk g
        clear hF H2 cl cs g
        have FC : ∀ W, (W.cell? ⟨p, 1, none⟩ = some (.map (some x.mf)) ∧ W.cell? ⟨p, 2, none⟩ = some (.map (some x.mm)) ∧ (Instr.lookup 81 (.map (some x.mm)) (.int .i64 (j : Nat)) false).run Tryd.prog W = .ok (.int .i64 (k : Int)) W ∧ Aside0 (WG w0 p d1 x j k B L W)) → Calls Tryd.prog 45 #[.slice A 256 c] W fun e W' => ∃ v W2, e = .returned v ∧ Aside0 (WG w0 p d1 x j k B L W') ∧
            (Instr.mapUpdate 80 (.map (some x.mf)) (.agg #[.int .i64 (j : Nat), .int .i64 (k : Int)]) v).run Tryd.prog W' = .ok () W2 ∧ Aside0 (WG w0 p d1 x j k B L W2) ∧ Aside0 (St w0 W2 (rDisk p (d1.put j b) :: B :: L)) := fun W hW =>
          (CL.out W hW.2.2.2.out c hA).mono fun e W' ⟨v, W2, e1, e2, e3, e4, e5⟩ => ⟨v, W2, e1, ⟨e2⟩, e3, ⟨e4⟩, ⟨e5⟩⟩
        obtain ⟨h1', h2', h3', _⟩ := CS.out _ G0.out
        go_wp2_with fail
        go_region_held3 (fun W => W.cell? ⟨p, 1, none⟩ = some (.map (some x.mf)) ∧ W.cell? ⟨p, 2, none⟩ = some (.map (some x.mm)) ∧ (Instr.lookup 81 (.map (some x.mm)) (.int .i64 (j : Nat)) false).run Tryd.prog W = .ok (.int .i64 (k : Int)) W ∧ Aside0 (WG w0 p d1 x j k B L W)) ((first
          | exact CS.out _ (WG.drew G0.out)
          | exact CS.out _ h6.out
          | exact CS.out _ h7.out)) ((go_at_call 45; refine (FC _ (by assumption)).mono ?_; rintro e W ⟨v, W2, rfl, h6, hu, h7, hfin⟩))
        all_goals (go_wp2; go_ret; exact ⟨rfl, hfin.out⟩)
end
end Go.Proofs.YtfhdiddlloiglaaDoor
end
