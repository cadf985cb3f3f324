/- Texts of this claim, one behind the other: M5, M6, M7, M8, Ba, Wk, Fd. -/
import Derived.Test.YtfhdiddlloiglaaDoorMA12
import Derived.Test.YtfhdiddlloiglaaDoorMA11
import Derived.Laws.CopyRow
import Derived.Laws.IdiomRangeMap
import Derived.Deep.RegionHeld3
import Derived.Deep.DrawnRows
section
/- The disk's settle: one value of each sector that was written becomes sure. -/
namespace Go.Proofs.YtfhdiddlloiglaaDoor
open Go.RowKit Go.Maps Go.Proofs.YtfhdiddlloiglaaDoorW.PrintWords
attribute [local go_sem ↓] Go.wp_at_zero Go.wp_at_succ
set_option linter.unusedVariables false
set_option linter.unusedSimpArgs false
set_option maxRecDepth 100000

theorem info5map : (Tryd.prog.info? 5).map (·.size) = some 1 := by
  obtain ⟨i, hi, hz, hs, hb⟩ := info5
  rw [hi]; simp [hs]
/-- copy into a row of bytes. -/
theorem row_copy {w : World} {g n cap off dLen dCap sLen sCap : Nat} {ad : Addr} {bs s : List Int} (h : w.ownsRow 0 5 1 (.slice (some ⟨g, 0, none⟩) n cap) bs.length (bytes bs)) (hR : Rd w (some ad) s) (hs : s.length = min sLen dLen) (hf : off + s.length ≤ bs.length) :
    ∃ w', (∀ ty, (Builtin.copy_ #[44, 44] ty #[.slice (some ⟨g, off, none⟩) dLen dCap, .slice (some ad) sLen sCap]).run Tryd.prog w = .ok (goInt s.length) w') ∧
      w'.ownsRow 0 5 1 (.slice (some ⟨g, 0, none⟩) n cap) (bs.take off ++ s ++ bs.drop (off + s.length)).length (bytes (bs.take off ++ s ++ bs.drop (off + s.length))) ∧ w.grownBy w' (some g) := by
  have h0 := h
  obtain ⟨h1, h2⟩ := h
  rcases h2 with ⟨e, _⟩ | ⟨g', cap', cur, e, hb, hg, h3, h4, h5, h6⟩
  · cases e
  · injection e with e1 e2 e3
    injection e1 with e1
    injection e1 with e1
    subst e1 e2 e3
    have hfit : off + s.length ≤ cur.size := by omega
    refine ⟨w.setRow g (cur.toList.take off ++ bytes s ++ cur.toList.drop (off + (bytes s).length)).toArray, fun ty => ?_, ?_, ?_⟩
    · have := run_copy_row (P := Tryd.prog) w 44 44 ty 5 g off dLen dCap ad sLen sCap cur 5 (bytes s) Tryd.underlying44 info5map hg (by simp [hs]) hR.cells (by simpa using hfit) (by intro u hu; simp [bytes] at hu; obtain ⟨z, _, rfl⟩ := hu; rfl)
      simpa using this
    · have hlen : (bs.take off ++ s ++ bs.drop (off + s.length)).length = bs.length := by simp; omega
      rw [hlen]
      refine ⟨by simp; omega, .inr ⟨g, cap, _, rfl, hb, setRow_heap w g _ _ 5 _ hg, h3, h4, ?_, ?_⟩⟩
      · simp; omega
      · have hc : cur.toList = bytes bs ++ cur.toList.drop bs.length := by
          rw [Nat.mul_one] at h6
          rw [← h6]; simp
        have hbl : (bytes bs).length = bs.length := by simp
        simp only [bytes, List.map_append, List.map_take, List.map_drop]
        rw [Nat.mul_one]
        rw [hc]
        have e1 : (bytes bs ++ cur.toList.drop bs.length).take off = (bytes bs).take off := List.take_append_of_le_length (by omega)
        have e2 : (bytes bs ++ cur.toList.drop bs.length).drop (off + (bytes s).length) = (bytes bs).drop (off + s.length) ++ cur.toList.drop bs.length := by
          rw [List.drop_append_of_le_length (by simp; omega)]; simp
        rw [e1, e2, ← List.append_assoc, List.take_left' (by simp; omega)]
    · exact ⟨rfl, rfl, rfl, by simp [World.setRow], fun k hk hne => setRow_other w g k _ (fun e => hne (by rw [e]))⟩
abbrev ints (l : List Nat) : List Value := l.map fun i => Value.int .i64 (i : Nat)
section
variable {w0 w : World} {p : Nat} {d : Dsk} {L : List Res}
/-- On the way through settle: the row of sure bytes is bs. -/
def SL (p : Nat) (d : Dsk) (x : DX) (kv : Value) (bs : List Int) (J : Res) (L : List Res) : List Res :=
  rRow 3 1 kv (pend d.vals).length (ints (pend d.vals)) :: rRow 5 1 (.slice (some ⟨x.a, 0, none⟩) (d.vals.length * 256) x.cap) bs.length (bytes bs) :: rBlk p (dObj x d) ::
    rMap Tryd.prog 102 rdVal x.mf d.extra x.Df :: rMap Tryd.prog 3 (plainElem Tryd.prog 3) x.mm d.extra x.Dm :: rVals x.Df d.vals :: J :: L
/-- What loads read on the way through settle. -/
def SC (p : Nat) (d : Dsk) (x : DX) (i m : Nat) (W : World) : Prop :=
  W.cell? ⟨p, 0, none⟩ = some (.slice (some ⟨x.a, 0, none⟩) (d.vals.length * 256) x.cap) ∧ W.cell? ⟨p, 2, none⟩ = some (.map (some x.mm)) ∧ (Instr.lookup 81 (.map (some x.mm)) (.int .i64 (i : Nat)) false).run Tryd.prog W = .ok (.int .i64 (m : Nat)) W
theorem SL.cells {kv : Value} {x : DX} {bs : List Int} {J : Res} (H : St w0 w (SL p d x kv bs J L)) (hM : Many x.Dm d.vals) (hn : d.vals.length ≤ 4096) {i : Nat} (hi : i < d.vals.length) : SC p d x i ((d.vals.getD i []).length - 1) w := by
  have blk := H.drop.drop.blk
  refine ⟨by simp [World.cell?, blk, dObj], by simp [World.cell?, blk, dObj], ?_⟩
  obtain ⟨c, hrun, hat, hw⟩ := H.drop.drop.drop.drop.map.lookup_int (t := 81) K3 Tryd.underlying81 Tryd.underlying3 (zero3 w) (keyOf_int_mk Tryd.underlying3 (wf64 (x := (i : Nat)) (by omega) (by omega)))
  rw [hM.at_ i hi] at hat
  injection hat with hat
  injection hat with _ hat
  subst hat
  exact hrun
theorem SL.value {kv : Value} {x : DX} {bs : List Int} {J : Res} (H : St w0 w (SL p d x kv bs J L)) (hok : d.Ok) (ht : d.taken ≤ maxTaken) (hbl : bs.length = d.vals.length * 256) {i k : Nat} (hi : i < d.vals.length) (hk : k < (d.vals.getD i []).length) (hb : (bs.drop (i * 256)).take 256 = headOf (d.vals.getD i [])) :
    Calls Tryd.prog 46 #[.pointer (some ⟨p, 0, none⟩), .int .i64 (i : Nat), .int .i64 (k : Nat)] w fun e w' => ∃ a c, e = .returned (.slice (some a) 256 c) ∧ 256 ≤ c ∧ Rd w (some a) ((d.vals.getD i []).getD k []) ∧ w' = w := by
  have blk := H.drop.drop.blk
  have hn := hok.n2
  have hs := hok.sec _ (hok.get hi)
  have hmany := hok.many _ (hok.get hi)
  unfold maxTaken at ht
  by_cases h0 : k = 0
  · subst h0
    have e0 : (d.vals.getD i []).getD 0 [] = headOf (d.vals.getD i []) := (headOf_get _).symm
    rw [e0, ← hb]
    exact value0_calls (n := d.vals.length * 256) (c := x.cap) (g := x.a) (by simp [World.cell?, blk, dObj]) H.drop.row (by omega) (by omega)
  · obtain ⟨T, S, hv, _⟩ := H.drop.drop.drop.drop.drop.fst
    obtain ⟨b, c, h3, h4⟩ := hv.1 i k _ (by omega) (List.getElem?_eq_getElem hk)
    obtain ⟨v, ps, hrun, hv2⟩ := H.drop.drop.drop.map.lookup (t := 80) K73 Tryd.underlying80 (zero31 w) rdVal_nil (spot_key (a := (i : Nat)) (b := (k : Nat)) (wf64 (by omega) (by omega)) (wf64 (by omega) (by omega)))
    rw [h3] at hv2
    obtain rfl := rdVal_inv hv2
    rw [List.getD_eq_getElem?_getD, List.getElem?_eq_getElem hk]
    exact value1_calls (mf := x.mf) (by simp [World.cell?, blk, dObj]) h0 hrun (hs _ (List.getElem_mem hk)).1 h4.2
theorem SL.copy {kv : Value} {x : DX} {bs s : List Int} {J : Res} (H : St w0 w (SL p d x kv bs J L)) {a : Addr} {c lo : Nat} (hR : Rd w (some a) s) (hs : s.length = 256) (hf : lo + 256 ≤ bs.length) (hbl : bs.length = d.vals.length * 256) :
    ∃ w', (∀ ty, (Builtin.copy_ #[44, 44] ty #[.slice (some ⟨x.a, lo, none⟩) (d.vals.length * 256 - lo) (x.cap - lo), .slice (some a) 256 c]).run Tryd.prog w = .ok (goInt 256) w') ∧ St w0 w' (SL p d x kv (bs.take lo ++ s ++ bs.drop (lo + 256)) J L) := by
  obtain ⟨w', h1, h2, h3⟩ := row_copy (dLen := d.vals.length * 256 - lo) (dCap := x.cap - lo) (sLen := 256) (sCap := c) (off := lo) H.drop.row hR (by omega) (by omega)
  rw [hs] at h1 h2
  exact ⟨w', h1, St.swap ((St.swap H).setRow h2 h3 (.inl rfl))⟩
/-- One round of settle, behind the draw. -/
theorem SL.round {pk : Nat → Nat → Nat} {WJ : Nat → Res} {fid : FuncId} {caps : Array Value} {kv : Value} {x : DX} (hpk : ∀ j m, pk j m ≤ m) {n0 : Nat}
    (hwh : ∀ {w : World} {L : List Res} (j i m : Nat), j ≤ 4096 → St w0 w (WJ j :: L) → m ≤ n0 → Calls Tryd.prog fid (#[.int .i64 (i : Nat), .int .i64 (m : Nat)] ++ caps) w fun e w' => e = .returned (.int .i64 (pk j m : Nat)) ∧ St w0 w' (WJ (j + 1) :: L))
    (hok : d.Ok) (ht : d.taken ≤ maxTaken) (hn0 : d.taken ≤ n0) (hM : Many x.Dm d.vals) {t : Nat} (htl : t < (pend d.vals).length) (H : St w0 w (SL p d x kv (chosen (upto pk t) 0 d.vals).flatten (WJ t) L)) {i m lo : Nat} (hi : i = (pend d.vals)[t]) (hm : m = (d.vals.getD i []).length - 1) (hlo : lo = i * 256) :
    Calls Tryd.prog fid (#[.int .i64 (i : Nat), .int .i64 (m : Nat)] ++ caps) w fun e W1 => e = .returned (.int .i64 (pk t m : Nat)) ∧ SC p d x i m W1 ∧
      Calls Tryd.prog 46 #[.pointer (some ⟨p, 0, none⟩), .int .i64 (i : Nat), .int .i64 (pk t m : Nat)] W1 fun e W2 => ∃ a c W3, e = .returned (.slice (some a) 256 c) ∧ W2 = W1 ∧
        (∀ ty, (Builtin.copy_ #[44, 44] ty #[.slice (some ⟨x.a, lo, none⟩) (d.vals.length * 256 - lo) (x.cap - lo), .slice (some a) 256 c]).run Tryd.prog W1 = .ok (goInt 256) W3) ∧ SC p d x i m W3 ∧
        Aside0 (St w0 W3 (SL p d x kv (chosen (upto pk (t + 1)) 0 d.vals).flatten (WJ (t + 1)) L)) := by
  have hn := hok.n2
  obtain ⟨hil, hi1⟩ := pend_mem.1 (hi ▸ List.getElem_mem htl)
  have hmany := hok.many _ (hok.get hil)
  have hup : ∀ t j m, upto pk t j m ≤ m := fun t j m => by unfold upto; split; exact hpk j m; omega
  have hsec : ∀ t, ∀ s ∈ chosen (upto pk t) 0 d.vals, s.length = 256 := fun t => chosen_mem (hup t) d.vals 0 fun l hl => ⟨hok.ne l hl, fun s hs => (hok.sec l hl s hs).1⟩
  have hbl : ∀ t, (chosen (upto pk t) 0 d.vals).flatten.length = d.vals.length * 256 := fun t => by
    rw [flatten_len (hsec t), chosen_length]
  have hkm := hpk t m
  have hst := chosen_step pk d.vals 0 t htl
  simp only [Nat.zero_add] at hst
  rw [← hi, ← hm] at hst
  have hv256 : ((d.vals.getD i []).getD (pk t m) []).length = 256 := by
    rw [List.getD_eq_getElem?_getD, List.getElem?_eq_getElem (show pk t m < (d.vals.getD i []).length by omega)]
    exact (hok.sec _ (hok.get hil) _ (List.getElem_mem _)).1
  have hfl := flatten_set hv256 (chosen (upto pk t) 0 d.vals) i (hsec t) (by rw [chosen_length]; exact hil)
  rw [← hst] at hfl
  have hpart : ((chosen (upto pk t) 0 d.vals).flatten.drop (i * 256)).take 256 = headOf (d.vals.getD i []) := by
    have := chosen_at pk d.vals 0 t htl
    rw [Nat.zero_add, ← hi] at this
    rw [flatten_part i (hsec t) (by rw [chosen_length]; exact hil), this]
  have H7 := St.rot7 H
  refine (hwh t i m (by have := pend_length d.vals; omega) H7 (by omega)).mono ?_
  rintro e W1 ⟨rfl, H1⟩
  have H2 : St w0 W1 (SL p d x kv (chosen (upto pk t) 0 d.vals).flatten (WJ (t + 1)) L) := St.back7 H1
  refine ⟨rfl, hm ▸ SL.cells H2 hM hn hil, ?_⟩
  refine (SL.value H2 hok ht (hbl t) hil (show pk t m < _ by omega) hpart).mono ?_
  rintro e W2 ⟨a, c, rfl, hc, hR, rfl⟩
  obtain ⟨W3, hcp, H3⟩ := SL.copy H2 (c := c) (lo := lo) hR hv256 (by rw [hbl]; omega) (hbl t)
  rw [hlo] at H3
  rw [← hfl] at H3
  exact ⟨a, c, W3, rfl, rfl, hcp, hm ▸ SL.cells H3 hM hn hil, ⟨H3⟩⟩
theorem wr_mul {i lo : Nat} (h : lo = i * 256) (hb : i ≤ 1048576) : wrap64 ((i : Int) * 256) = (lo : Int) := by unfold wrap64; omega
theorem wr_succ {t : Nat} (hb : t ≤ 1048576) : wrap64 ((t : Int) + 1) = ((t + 1 : Nat) : Int) := by unfold wrap64; omega
theorem wi_mul {i lo : Nat} (h : lo = i * 256) (hb : i ≤ 1048576) : IntKind.i64.wrap ((i : Int) * 256) = (lo : Int) := by rw [← wr_mul h hb]; unfold wrap64; exact IntKind.wrap_i64 _
/-- A disk of which one value of each sector is left. -/
def Dsk.only (d : Dsk) (l : List Sec) : Dsk := { d with vals := l.map fun s => [s] }
/-- Behind the loop: the maps are cleared. -/
theorem settle_fin {pk : Nat → Nat → Nat} {J : Res} {kv : Value} {x : DX} {wr : World} (hpk : ∀ j m, pk j m ≤ m) (hok : d.Ok) (HT1 : St w0 wr (SL p d x kv (chosen (upto pk (pend d.vals).length) 0 d.vals).flatten J L)) :
    ∃ W1 W2, wr.cell? ⟨p, 1, none⟩ = some (.map (some x.mf)) ∧ (∀ ty, (Builtin.clear_ #[80] ty #[.map (some x.mf)]).run Tryd.prog wr = .ok (.tuple #[]) W1) ∧ W1.cell? ⟨p, 2, none⟩ = some (.map (some x.mm)) ∧
      (∀ ty, (Builtin.clear_ #[81] ty #[.map (some x.mm)]).run Tryd.prog W1 = .ok (.tuple #[]) W2) ∧ St w0 W2 (rDisk p (d.only (chosen pk 0 d.vals)) :: J :: L) := by
  have HT2 := HT1.drop
  have hch : chosen (upto pk (pend d.vals).length) 0 d.vals = chosen pk 0 d.vals := by
    have := chosen_all pk d.vals 0
    rwa [Nat.zero_add] at this
  rw [hch] at HT2
  -- row, blk, mf, mm, vals, WJ, L
  have H3 := St.rot3 HT2
  obtain ⟨W1, hc1, ho1, hg1⟩ := ownsMap_clear H3.map Tryd.underlying80
  have H4 := H3.setMap ho1 hg1.grown
  -- mf', row, blk, mm, vals
  have H5 := St.rot4 H4
  obtain ⟨W2, hc2, ho2, hg2⟩ := ownsMap_clear H5.map Tryd.underlying81
  have H6 := H5.setMap ho2 hg2.grown
  -- mm', mf', row, blk, vals, WJ
  have blk0 := HT2.drop.blk
  have blk1 := H5.drop.drop.drop.blk
  have b1 : wr.cell? ⟨p, 1, none⟩ = some (.map (some x.mf)) := by simp [World.cell?, blk0, dObj]
  have b2 : W1.cell? ⟨p, 2, none⟩ = some (.map (some x.mm)) := by simp [World.cell?, blk1, dObj]
  have hfin : St w0 W2 (rDisk p (d.only (chosen pk 0 d.vals)) :: J :: L) := by
    have hmem : ∀ s ∈ chosen pk 0 d.vals, SecOk s := chosen_mem hpk d.vals 0 fun l hl => ⟨hok.ne l hl, hok.sec l hl⟩
    have hv : (d.only (chosen pk 0 d.vals)).vals = (chosen pk 0 d.vals).map fun s => [s] := rfl
    have hl : (d.only (chosen pk 0 d.vals)).vals.length = d.vals.length := by rw [hv, List.length_map, chosen_length]
    have hone : ∀ l ∈ (d.only (chosen pk 0 d.vals)).vals, l.length = 1 := fun l hl => by
      rw [hv] at hl; obtain ⟨s, _, rfl⟩ := List.mem_map.1 hl; rfl
    have hok2 : (d.only (chosen pk 0 d.vals)).Ok := by
      refine ⟨by rw [hl]; exact hok.n1, by rw [hl]; exact hok.n2, fun l hl => ?_, fun l hl s hs => ?_, hok.left1, hok.left2, fun l hl => ?_⟩
      · have := hone l hl; intro e; rw [e] at this; cases this
      · rw [hv] at hl; obtain ⟨s', hs', rfl⟩ := List.mem_map.1 hl
        rw [List.mem_singleton.1 hs]; exact hmem _ hs'
      · rw [hone l hl]; omega
    have hs : (d.only (chosen pk 0 d.vals)).sure = (chosen pk 0 d.vals).flatten := by
      rw [Dsk.sure, hv, List.flatMap_map, List.flatMap_def]
      congr 1
      simp [headOf]
    have hfl : (chosen pk 0 d.vals).flatten.length = d.vals.length * 256 := by
      rw [flatten_len fun s hs => (hmem s hs).1, chosen_length]
    refine St.mkDisk { x with Df := .map [], Dm := .map [] } ?_
    unfold rDiskX
    refine St.infact ⟨hok2, Many.empty hone⟩ ?_
    have ho : ∀ y : DX, y.a = x.a → y.cap = x.cap → y.mf = x.mf → y.mm = x.mm → dObj y (d.only (chosen pk 0 d.vals)) = dObj x d := fun y e1 e2 e3 e4 => by simp only [dObj, e1, e2, e3, e4, hl]; rfl
    rw [ho { x with Df := .map [], Dm := .map [] } rfl rfl rfl rfl, hs, hl]
    rw [hfl] at H6
    have hex : (d.only (chosen pk 0 d.vals)).extra = 0 := by
      have := sum_le (c := 0) (d.only (chosen pk 0 d.vals)).vals fun l hl => by rw [hone l hl]; omega
      unfold Dsk.extra
      omega
    rw [hex]
    have H6b : St w0 W2 (rVals (.map []) (d.only (chosen pk 0 d.vals)).vals :: _) := (St.rot5 H6).imp fun T S hh _ _ => ⟨fun i k s hk hs => by
      have hks := (List.getElem?_eq_some_iff.1 hs).1
      by_cases hi : i < (d.only (chosen pk 0 d.vals)).vals.length
      · have := hone ((d.only (chosen pk 0 d.vals)).vals.getD i []) (hok2.get hi)
        omega
      · rw [List.getD_eq_getElem?_getD, List.getElem?_eq_none (by omega)] at hks; simp at hks, hh.2⟩
    have H7 := St.rot4 (St.back5 H6b)
    exact H7.perm (List.Perm.cons _ ((List.perm_middle (l₁ := [_, _])).trans ((List.Perm.swap _ _ _).cons _)))
  exact ⟨W1, W2, b1, hc1, b2, hc2, hfin⟩
set_option maxHeartbeats 4000000 in
theorem settle_calls {pk : Nat → Nat → Nat} {WJ : Nat → Res} {fid : FuncId} {caps : Array Value} (hpk : ∀ j m, pk j m ≤ m) {n0 : Nat}
    (hwh : ∀ {w : World} {L : List Res} (j i m : Nat), j ≤ 4096 → St w0 w (WJ j :: L) → m ≤ n0 → Calls Tryd.prog fid (#[.int .i64 (i : Nat), .int .i64 (m : Nat)] ++ caps) w fun e w' => e = .returned (.int .i64 (pk j m : Nat)) ∧ St w0 w' (WJ (j + 1) :: L))
    (hen : ∀ args W, (callFunc fid args).run Tryd.prog W = .ok (.enter fid args) W)
    (H : St w0 w (rDisk p d :: WJ 0 :: L)) (ht : d.taken ≤ maxTaken) (hn0 : d.taken ≤ n0) :
    Calls Tryd.prog 48 #[.pointer (some ⟨p, 0, none⟩), .func (.func fid) #[] caps] w fun e w' => e = .returned (.tuple #[]) ∧ ∃ j, St w0 w' (rDisk p (d.only (chosen pk 0 d.vals)) :: WJ j :: L) := by
  obtain ⟨x, H⟩ := H.disk
  have h := H.diskIs
  have hok := h.ok
  have hn := hok.n2
  have hM := h.many
  have hent := h.mm.entries K3
  have hsz := hM.size hent
  have hpl := pend_length d.vals
  have ct2 := h.atF.toAt.c2
  have hkeys := keys_calls (some x.mm) w
  have hsort := sorted_calls h.mm (by rw [hsz]; simp only [maxLen]; omega) (by rw [hsz]; omega)
  have HH := Aside0.mk H
  have HN := Aside0.mk hn
  have HM := Aside0.mk hM
  have HE := Aside0.mk hent
  have HP := Aside0.mk hpl
  have HT := Aside0.mk ht
  clear H h hsz hn hM hent hpl ht
  go_enter Tryd.func48, Tryd.ntmps48
  go_wp2_with fail
  refine hkeys.mono ?_
  rintro e w1 ⟨rfl, rfl⟩
  go_wp2_with fail
  refine hsort.mono ?_
  rintro e w1 ⟨v, ss, rfl, hperm, hrow, hbl⟩
  have hsorted := HM.out.sorted HE.out hperm
  rw [hsorted] at hrow
  have hlen : ss.length = (pend d.vals).length := by
    have := hperm.length_eq
    rw [this, ← (HM.out.perm HE.out).length_eq, List.length_map]
  rw [hlen] at hrow
  have HW : St w0 w1 (SL p d x v (chosen (upto pk 0) 0 d.vals).flatten (WJ 0) L) := by
    have hb0 : Below w.heap.size w (w.alloc (.cells #[.map (some x.mm)] 81)) := (Below.refl _ w).alloc (Nat.le_refl _) _
    have e1 : (w.alloc (.cells #[.map (some x.mm)] 81)).heap.size = w.heap.size + 1 := by simp
    rw [← e1] at hrow hbl
    have H1 := (HH.out.go hb0).gainRow hbl hrow
    have H2 := (St.fact (St.swap H1)).2
    have ei : List.map (Value.int .i64) (List.map (fun i : Nat => (i : Int)) (pend d.vals)) = ints (pend d.vals) := by simp [ints]
    rw [ei] at H2
    unfold SL
    have ef : (chosen (upto pk 0) 0 d.vals).flatten = d.sure := by rw [chosen_zero, Dsk.sure, List.flatMap_def]
    rw [ef, hok.sure_len]
    exact St.back3 H2
  obtain ⟨A, cc, rfl⟩ := own_slice hrow
  have HS := Aside0.mk HW
  have HO := Aside0.mk hok
  clear hperm hrow hbl hsorted hlen HW HH ct2 hkeys hsort hok
  go_wp2_with fail
  go_loopw [13] (fun i W => ∃ t : Nat, i = .int .i64 (t : Int) ∧ t ≤ (pend d.vals).length ∧ Aside0 (St w0 W (SL p d x (.slice A (pend d.vals).length cc) (chosen (upto pk t) 0 d.vals).flatten (WJ t) L))) (fun i _ => (pend d.vals).length - (RowKit.intOf i).toNat)
  case atStart => exact ⟨0, rfl, Nat.zero_le _, HS⟩
  case round =>
    clear HS
    obtain ⟨t, rfl, htl, HT1⟩ := hrel
    by_cases hlt : t < (pend d.vals).length
    · have t1 : decide ((t : Int) < ((pend d.vals).length : Int)) = true := decide_eq_true (by omega)
      have t3 : (t : Int) < ((pend d.vals).length : Int) := by omega
      have t4 : (0 : Int) ≤ (t : Int) := by omega
      obtain ⟨i, hi⟩ : ∃ i, i = (pend d.vals)[t] := ⟨_, rfl⟩
      obtain ⟨m, hm⟩ : ∃ m, m = (d.vals.getD i []).length - 1 := ⟨_, rfl⟩
      obtain ⟨lo, hlo⟩ : ∃ lo, lo = i * 256 := ⟨_, rfl⟩
      have hil := (pend_mem.1 (hi ▸ List.getElem_mem hlt)).1
      have hR := SL.round hpk hwh HO.out HT.out hn0 HM.out hlt HT1.out.drew hi hm hlo
      have hS0 := SL.cells HT1.out HM.out HN.out hil
      have hS1 := SL.cells HT1.out.drew HM.out HN.out hil
      have hrow := HT1.out.row
      obtain ⟨g, cap, he, _, _⟩ := hrow.form (by omega)
      have hA : A = some ⟨g, 0, none⟩ := by injection he
      subst hA
      have hcell : wr.cell? ⟨g, t, none⟩ = some (.int .i64 (i : Nat)) := by
        have := hrow.cells (g := g) rfl t (.int .i64 (i : Nat)) (by simp [ints, hi, hlt])
        rwa [addr_add, Nat.zero_add] at this
      rw [← hm] at hS0 hS1
      obtain ⟨c0, c2, c3⟩ := hS0
      have hiN := HN.out
      have hcap : d.vals.length * 256 ≤ x.cap := by
        have := own_rd HT1.out.drop.row
        have e := this.1
        omega
      have q1 : (0 : Int) ≤ (lo : Int) := by omega
      have q2 : (lo : Int) ≤ ((d.vals.length * 256 : Nat) : Int) := by omega
      have q3 : ((d.vals.length * 256 : Nat) : Int) ≤ (x.cap : Int) := by omega
      have hne : ¬ (x.cap = lo) := by omega
      have hpT := HP.out
      have hb1 : i ≤ 1048576 := by omega
      have hb2 : t ≤ 1048576 := by omega
      obtain ⟨n, hnn⟩ : ∃ n, n = d.vals.length * 256 := ⟨_, rfl⟩
      have wi1 := wi_mul hlo hb1
      have wt : (t : Int) + 1 ≤ 1048577 := by omega
      clear hrow he hi hm hlo hil hiN hcap hpT
      simp only [SC, ← hnn] at hR hS1
      simp only [← hnn] at c0 q2 q3
      clear hnn
      have HR := Aside0.mk hR
      have HS1 := Aside0.mk hS1
      clear hR hS1
      go_wp2_with fail
      go_region_held3 (fun W => W.cell? ⟨p, 0, none⟩ = some (.slice (some ⟨x.a, 0, none⟩) n x.cap) ∧ W.cell? ⟨p, 2, none⟩ = some (.map (some x.mm)) ∧ (Instr.lookup 81 (.map (some x.mm)) (.int .i64 (i : Nat)) false).run Tryd.prog W = .ok (.int .i64 (m : Nat)) W)
        ((first | exact HS1.out | exact hS2.out | exact hS3.out)) ((first
          | (go_at_call 46; refine h40.out.mono ?_; rintro e W2 ⟨a, c, W3, rfl, rfl, hcp, hS3, hfin⟩; replace hS3 := Aside0.mk hS3)
          | (refine HR.out.mono ?_; rintro e W1 ⟨rfl, hS2, h40⟩; replace hS2 := Aside0.mk hS2; replace h40 := Aside0.mk h40)))
      all_goals (
        clear wi1 hb1 q1 q2 q3 hne
        go_wp2
        go_roundw
        case rel => exact ⟨t + 1, by go_num, hlt, hfin⟩
        case measure => simp only [RowKit.intOf]; omega)
    · have htT : t = (pend d.vals).length := by omega
      have t1 : decide ((t : Int) < ((pend d.vals).length : Int)) = false := decide_eq_false (by omega)
      have HT2 := HT1.out
      rw [htT] at HT2
      obtain ⟨W1, W2, b1, hc1, b2, hc2, hfin⟩ := settle_fin hpk HO.out HT2
      have HF := Aside0.mk hfin
      clear HT2 hfin
      go_wp2
      go_end0
      exact ⟨rfl, _, HF.out⟩
end
end Go.Proofs.YtfhdiddlloiglaaDoor
end
section
/- The disk's Sync and Crash. -/
namespace Go.Proofs.YtfhdiddlloiglaaDoor
open Go.RowKit Go.Maps Go.Proofs.YtfhdiddlloiglaaDoorW.PrintWords
set_option linter.unusedVariables false
set_option linter.unusedSimpArgs false
set_option maxRecDepth 100000

section
variable {w0 w : World} {p : Nat} {d : Dsk} {L : List Res}
theorem enters44 (args : Array Value) (W : World) : (callFunc 63 args).run Tryd.prog W = .ok (.enter 63 args) W := YtfhdiddlloiglaaDoorW.PrintLast.enters_ Tryd.func63 (by kernel_rfl) (by kernel_rfl) args W
theorem enters46 (args : Array Value) (W : World) : (callFunc 49 args).run Tryd.prog W = .ok (.enter 49 args) W := YtfhdiddlloiglaaDoorW.PrintLast.enters_ Tryd.func49 (by kernel_rfl) (by kernel_rfl) args W
theorem which44 (w : World) (i m : Nat) : Calls Tryd.prog 63 (#[.int .i64 (i : Nat), .int .i64 (m : Nat)] ++ #[]) w fun e w' => e = .returned (.int .i64 (m : Nat)) ∧ w' = w := by
  show Calls Tryd.prog 63 #[.int .i64 (i : Nat), .int .i64 (m : Nat)] w _
  go_enter Tryd.func63, Tryd.ntmps63
  go_wp2
  go_ret
  exact ⟨rfl, rfl⟩
theorem only_settled {d : Dsk} (h : d.Ok) : d.only (chosen (fun _ m => m) 0 d.vals) = d.settled := by
  unfold Dsk.only Dsk.settled
  rw [chosen_sync d.vals 0 h.ne, List.map_map]
  rfl
theorem only_crash {d : Dsk} (h : d.Ok) (picks : List Int) : { d.only (chosen (fun j m => Dsk.pick picks j (m + 1)) 0 d.vals) with off := false, left := -1 } = d.crash picks := by
  unfold Dsk.only Dsk.crash
  rw [chosen_crash picks d.vals 0 h.ne]
theorem take_taken {d : Dsk} : d.take.2.taken ≤ d.taken + 1 := by
  unfold Dsk.take
  split
  · exact Nat.le_succ _
  · exact Nat.le_refl _
theorem St.sync (H : St w0 w (rDisk p d :: L)) (ht : d.taken < maxTaken) : Calls Tryd.prog 42 #[.pointer (some ⟨p, 0, none⟩)] w fun e w' => e = .returned (.int .i64 d.sync.1) ∧ St w0 w' (rDisk p d.sync.2 :: L) := by
  have hi := H.is
  have htk := H.take ht
  have hok := H.diskOk
  cases htb : d.take.1 with
  | false =>
    have e : d.sync = (10, d.take.2) := by simp only [Dsk.sync, htb, Bool.false_eq_true, if_false]
    rw [htb] at htk
    rw [e]
    have HT := Aside0.mk htk
    clear H htk hok
    go_enter Tryd.func42, Tryd.ntmps42
    go_wp2_with fail
    refine hi.mono ?_
    rintro e w1 ⟨rfl, rfl⟩
    go_wp2_with fail
    refine HT.out.mono ?_
    rintro e w1 ⟨rfl, H1⟩
    have HH := Aside0.mk H1
    clear H1
    go_wp2
    go_ret
    exact ⟨rfl, HH.out⟩
  | true =>
    have e : d.sync = (0, d.take.2.settled) := by simp only [Dsk.sync, htb, if_true]
    obtain ⟨ev, et⟩ := Dsk.take_true htb
    rw [htb] at htk
    rw [e, ← only_settled hok.take]
    have hS : ∀ W, St w0 W (rDisk p d.take.2 :: L) → Calls Tryd.prog 48 #[.pointer (some ⟨p, 0, none⟩), .func (.func 63) #[] #[]] W fun e w' => e = .returned (.tuple #[]) ∧ Aside0 (St w0 w' (rDisk p (d.take.2.only (chosen (fun _ m => m) 0 d.take.2.vals)) :: L)) := fun W HW => by
      refine (settle_calls (pk := fun _ m => m) (WJ := fun _ => rEmp) (n0 := d.take.2.taken) (fun _ _ => Nat.le_refl _) (fun {w L} j i m hj hw hm => (which44 w i m).mono fun e w' ⟨h1, h2⟩ => ⟨h1, by rw [h2]; exact hw⟩) enters44 (St.swap HW.emp) (by rw [et]; omega) (Nat.le_refl _)).mono ?_
      rintro e w' ⟨rfl, j, h⟩
      exact ⟨rfl, ⟨(St.swap h).drop⟩⟩
    have HT := Aside0.mk htk
    clear H htk hok
    generalize d.take.2 = d1 at *
    go_enter Tryd.func42, Tryd.ntmps42
    go_wp2_with fail
    refine hi.mono ?_
    rintro e w1 ⟨rfl, rfl⟩
    go_wp2_with fail
    refine HT.out.mono ?_
    rintro e w1 ⟨rfl, H1⟩
    have hS1 := hS _ H1
    clear H1
    go_wp2_with fail
    refine hS1.mono ?_
    rintro e w2 ⟨rfl, H2⟩
    go_wp2
    go_ret
    exact ⟨rfl, H2.out⟩
theorem cell_of_blk {w : World} {b : Nat} {cs : Array Value} {e : TypeId} {fz : Nat × Nat} (h : w.heap[b]? = some (.cells cs e fz)) (k : Nat) : w.cell? ⟨b, k, none⟩ = cs[k]? := by
  unfold World.cell?
  rw [h]
  rfl
theorem free_of_blk {w : World} {b : Nat} {cs : Array Value} {e : TypeId} (h : w.heap[b]? = some (.cells cs e (0, 0))) (k : Nat) : w.frozen? ⟨b, k, none⟩ = false := by
  unfold World.frozen?
  rw [h]
  simp
/-- Numbers that are read. -/
abbrev RdI (w : World) (A : Option Addr) (l : List Int) : Prop := Kd.C (Kd.int .i64) w A l.length l
theorem RdI.at_ {w : World} {A : Option Addr} {l : List Int} (h : RdI w A l) {j : Nat} (hj : j < l.length) : ∃ ad, A = some ad ∧ w.cell? (ad.add j) = some (.int .i64 (l.getD j 0)) := by
  obtain ⟨ad, e, hc⟩ := h.2.2 (by omega)
  obtain ⟨c, hs, hr, hcell⟩ := hc j _ (List.getElem?_eq_getElem hj)
  have hr : c = [.int .i64 l[j]] := hr
  subst hr
  refine ⟨ad, e, ?_⟩
  have := hcell 0 _ rfl
  rw [List.getD_eq_getElem?_getD, List.getElem?_eq_getElem hj]
  simpa [Kd.int, Kd.scalar] using this
/-- What Crash's function holds: the counter, the picks. -/
def rPick (jb pb : Nat) (A : Option Addr) (n c : Nat) (B : Res) (j : Nat) : Res := rAll [rBlk jb (.cells #[.int .i64 ((j : Int) - 1)] 3), rBlk pb (.cells #[.slice A n c] 22), B]
theorem pick_val (picks : List Int) {j m : Nat} (hj : j < picks.length) (hm : m ≤ 1048576000000000000) : wrap64 ((IntKind.u64.wrap (picks.getD j 0)).tmod ((m : Int) + 1)) = ((Dsk.pick picks j (m + 1) : Nat) : Int) := by
  have e : IntKind.u64.wrap (picks.getD j 0) = picks.getD j 0 % 18446744073709551616 := by simp [IntKind.wrap, IntKind.signed, IntKind.bits]
  rw [e, Dsk.pick, if_pos hj, Int.tmod_eq_emod_of_nonneg (Int.emod_nonneg _ (by omega))]
  have h1 := Int.emod_nonneg (picks.getD j 0 % 18446744073709551616) (show ((m : Int) + 1) ≠ 0 by omega)
  have h2 := Int.emod_lt_of_pos (picks.getD j 0 % 18446744073709551616) (show (0 : Int) < (m : Int) + 1 by omega)
  have e2 : ((m + 1 : Nat) : Int) = (m : Int) + 1 := by omega
  rw [e2, Int.toNat_of_nonneg h1]
  unfold wrap64
  omega
set_option maxHeartbeats 1000000 in
theorem which46 {jb pb : Nat} {A : Option Addr} {c : Nat} {picks : List Int} {B : Res} (hB : ∀ {w : World} {T S : Foot}, B.has w T S → RdI w A picks) (j i m : Nat) (hj4 : j ≤ 4096) (H : St w0 w (rPick jb pb A picks.length c B j :: L)) (hm : m ≤ 1048576000000000000) :
    Calls Tryd.prog 49 (#[.int .i64 (i : Nat), .int .i64 (m : Nat)] ++ #[.pointer (some ⟨jb, 0, none⟩), .pointer (some ⟨pb, 0, none⟩)]) w fun e w' => e = .returned (.int .i64 (Dsk.pick picks j (m + 1) : Nat)) ∧ St w0 w' (rPick jb pb A picks.length c B (j + 1) :: L) := by
  show Calls Tryd.prog 49 #[.int .i64 (i : Nat), .int .i64 (m : Nat), .pointer (some ⟨jb, 0, none⟩), .pointer (some ⟨pb, 0, none⟩)] w _
  have H1 := H.opn
  have hj := H1.blk
  have hp := H1.drop.blk
  have hR : RdI w A picks := by
    obtain ⟨T, S, hh, _⟩ := H1.drop.drop.fst
    exact hB hh
  have c1 : w.cell? ⟨jb, 0, none⟩ = some (.int .i64 ((j : Int) - 1)) := by simp [World.cell?, hj]
  have f1 : w.frozen? ⟨jb, 0, none⟩ = false := by simp [World.frozen?, hj]
  have c2 : (w.setCell ⟨jb, 0, none⟩ (.int .i64 (j : Int))).cell? ⟨pb, 0, none⟩ = some (.slice A picks.length c) := by
    have := (H1.setCell 0 (.int .i64 (j : Int))).drop.blk
    simp [World.cell?, this]
  have c3 : (w.setCell ⟨jb, 0, none⟩ (.int .i64 (j : Int))).cell? ⟨jb, 0, none⟩ = some (.int .i64 (j : Int)) := by
    have := (H1.setCell 0 (.int .i64 (j : Int))).blk
    simp [World.cell?, this]
  have hfin : St w0 (w.setCell ⟨jb, 0, none⟩ (.int .i64 (j : Int))) (rPick jb pb A picks.length c B (j + 1) :: L) := by
    have h2 := H1.setCell 0 (.int .i64 (j : Int))
    refine St.cls (M := [_, _, _]) ?_
    have e : ((j + 1 : Nat) : Int) - 1 = (j : Int) := by omega
    rw [e]
    exact h2
  have HF := Aside0.mk hfin
  have wj : wrap64 ((j : Int) - 1 + 1) = (j : Int) := by unfold wrap64; omega
  clear hfin H1 hj hp
  by_cases hjp : j < picks.length
  · have b1 : decide ((picks.length : Int) ≤ (j : Int)) = false := decide_eq_false (by omega)
    have q0 : (0 : Int) ≤ (j : Int) := by omega
    have q1 : (j : Int) < (picks.length : Int) := by omega
    obtain ⟨ad, rfl, hc⟩ := hR.at_ hjp
    have c4 : (w.setCell ⟨jb, 0, none⟩ (.int .i64 (j : Int))).cell? (ad.add j) = some (.int .i64 (picks.getD j 0)) := by
      obtain ⟨T, S, hh, _⟩ := (St.opn HF.out).drop.drop.fst
      obtain ⟨ad', e, hc'⟩ := (hB hh).at_ hjp
      cases e
      exact hc'
    have wm : IntKind.i64.wrap ((m : Int) + 1) = ((m + 1 : Nat) : Int) := by rw [YtfhdiddlloiglaaDoorW.PrintLast.i64_w]; unfold wrap64; omega
    go_enter Tryd.func49, Tryd.ntmps49
    go_wp2
    go_ret
    have e := pick_val picks hjp (by omega : m ≤ 1048576000000000000)
    have eg : picks.getD j 0 = picks[j] := by rw [List.getD_eq_getElem?_getD, List.getElem?_eq_getElem hjp]; rfl
    rw [eg] at e
    exact ⟨by rw [← e]; rfl, HF.out⟩
  · have b1 : decide ((picks.length : Int) ≤ (j : Int)) = true := decide_eq_true (by omega)
    have e : Dsk.pick picks j (m + 1) = 0 := by simp only [Dsk.pick, if_neg hjp]
    rw [e]
    go_enter Tryd.func49, Tryd.ntmps49
    go_wp2
    go_ret
    exact ⟨rfl, HF.out⟩
set_option maxHeartbeats 2000000 in
/-- Crash. -/
theorem St.crash {B : Res} {A : Option Addr} {picks : List Int} {c : Nat} (H : St w0 w (rDisk p d :: B :: L)) (hB : ∀ {w : World} {T S : Foot}, B.has w T S → RdI w A picks) (ht : d.taken ≤ maxTaken) :
    Calls Tryd.prog 21 #[.pointer (some ⟨p, 0, none⟩), .slice A picks.length c] w fun e w' => e = .returned (.int .i64 0) ∧ St w0 w' (rDisk p (d.crash picks) :: B :: L) := by
  have hok := H.diskOk
  have H1 := H.alloc (.cells #[.slice A picks.length c] 22)
  have hi := (St.swap H1).is
  have H2 := H1.alloc (.cells #[.int .i64 0] 3)
  have H3 := H1.alloc (.cells #[.int .i64 (-1)] 3)
  have H4 : St w0 ((w.alloc (.cells #[.slice A picks.length c] 22)).alloc (.cells #[.int .i64 (-1)] 3)) (rDisk p d :: rPick (w.heap.size + 1) w.heap.size A picks.length c B 0 :: L) := by
    have e1 : (w.alloc (.cells #[.slice A picks.length c] 22)).heap.size = w.heap.size + 1 := by simp
    rw [e1] at H3
    have h5 := St.rot3 H3
    have h6 := St.back4 h5
    have h7 : St w0 _ (rPick (w.heap.size + 1) w.heap.size A picks.length c B 0 :: rDisk p d :: L) := St.cls (M := [_, _, _]) h6
    exact St.swap h7
  have hse := settle_calls (pk := fun j m => Dsk.pick picks j (m + 1)) (WJ := rPick (w.heap.size + 1) w.heap.size A picks.length c B) (n0 := 1048576000000000000) (fun j m => by have := pick_lt picks j (m + 1) (by omega); omega)
    (fun {w L} j i m hj hw hm => which46 hB j i m hj hw hm) enters46 H4 ht (by unfold maxTaken at ht; omega)
  have e1 : (w.alloc (.cells #[.slice A picks.length c] 22)).heap.size = w.heap.size + 1 := by simp
  have cJ : ((w.alloc (.cells #[.slice A picks.length c] 22)).alloc (.cells #[.int .i64 0] 3)).cell? ⟨w.heap.size + 1, 0, none⟩ = some (.int .i64 0) := by
    have := H2.blk
    rw [e1] at this
    exact (cell_of_blk this 0).trans rfl
  have fJ : ((w.alloc (.cells #[.slice A picks.length c] 22)).alloc (.cells #[.int .i64 0] 3)).frozen? ⟨w.heap.size + 1, 0, none⟩ = false := by
    have := H2.blk
    rw [e1] at this
    exact free_of_blk this 0
  have hF : ∀ W, St w0 W (rDisk p (d.only (chosen (fun j m => Dsk.pick picks j (m + 1)) 0 d.vals)) :: B :: L) → W.frozen? ⟨p, 4, none⟩ = false ∧ W.frozen? ⟨p, 3, none⟩ = false ∧ (∃ v, W.cell? ⟨p, 4, none⟩ = some v) ∧ (∃ v, W.cell? ⟨p, 3, none⟩ = some v) ∧ St w0 ((W.setCell ⟨p, 4, none⟩ (.bool false)).setCell ⟨p, 3, none⟩ (.int .i64 (-1))) (rDisk p (d.crash picks) :: B :: L) := fun W HW => by
    have hokc := HW.diskOk
    obtain ⟨x, HW⟩ := HW.disk
    have hF := HW.diskIs.atF
    refine ⟨hF.fz 4, hF.fz 3, ⟨_, hF.c4⟩, ⟨_, hF.c3⟩, ?_⟩
    rw [← only_crash hok]
    refine HW.setD _ rfl ?_ ?_ ((Moved.cell0 _ _ _ _).cell _ _)
    · rw [only_crash hok]; exact hok.crash picks
    · rw [heap_setCell_self (heap_setCell_self HW.diskIs.blk _)]
      rfl
  have HF := Aside0.mk hF
  clear H H1 H2 H3 H4 hF
  go_enter Tryd.func21, Tryd.ntmps21
  go_wp2_with fail
  refine hi.mono ?_
  rintro e w1 ⟨rfl, rfl⟩
  go_wp2_with fail
  refine hse.mono ?_
  rintro e w1 ⟨rfl, j, H5⟩
  have H6 : St w0 w1 (rDisk p (d.only (chosen (fun j m => Dsk.pick picks j (m + 1)) 0 d.vals)) :: B :: L) := St.swap (St.opn (St.swap H5)).drop.drop
  obtain ⟨f4, f3, ⟨v4, c4⟩, ⟨v3, c3⟩, hfin⟩ := HF.out w1 H6
  have HG := Aside0.mk hfin
  clear hfin H5 H6
  go_wp2
  go_ret
  exact ⟨rfl, HG.out⟩
end
end Go.Proofs.YtfhdiddlloiglaaDoor
end
section
/- The disk's Image. -/
namespace Go.Proofs.YtfhdiddlloiglaaDoor
open Go.RowKit Go.Maps Go.Proofs.YtfhdiddlloiglaaDoorW.PrintWords
attribute [local go_sem ↓] Go.wp_at_zero Go.wp_at_succ
set_option linter.unusedVariables false
set_option linter.unusedSimpArgs false
set_option maxRecDepth 100000

/-- A map that is ranged over. -/
def rRng {H : Type} (P : Program) (k : TypeId) (R : Value → Option (DataW H × List MemPlace)) (b r n : Nat) (D : DataW H) (left : Lit → Bool) (cnt : Nat) : Res :=
  ⟨fun w _ S => w.ranges P k R b r n D left cnt ∧ ∀ i, S i ↔ i = b ∨ i = r, fun h i hi => by
     rcases (h.2 i).1 hi with rfl | rfl
     · exact h.1.owns.lt
     · exact h.1.lt,
   fun {w T S w' T'} h _ hk _ => ⟨by
     obtain ⟨es, clock, since, seen, c0, h1, h2, h3, h4, h5, r⟩ := h.1
     exact ⟨es, clock, since, seen, c0, (hk b (.inl ((h.2 b).2 (.inl rfl)))).trans h1, h2, h3, h4, (hk _ (.inl ((h.2 _).2 (.inr rfl)))).trans h5, r⟩, h.2⟩⟩
theorem St.rng {w0 w : World} {H : Type} {P : Program} {k : TypeId} {R : Value → Option (DataW H × List MemPlace)} {b r n cnt : Nat} {D : DataW H} {left : Lit → Bool} {L : List Res} (h : St w0 w (rRng P k R b r n D left cnt :: L)) : w.ranges P k R b r n D left cnt := by
  obtain ⟨T, S, h, _⟩ := h.fst; exact h.1
theorem St.toRng {w0 w w' : World} {H : Type} {P : Program} {k : TypeId} {R : Value → Option (DataW H × List MemPlace)} {b n cnt : Nat} {D : DataW H} {left : Lit → Bool} {L : List Res} (h : St w0 w (rMap P k R b n D :: L)) (h' : w'.ranges P k R b w.heap.size n D left cnt) (g : w.grownBy w' none) : St w0 w' (rRng P k R b w.heap.size n D left cnt :: L) :=
  h.updS fun T S ha _ _ => ⟨fun i => i = b ∨ i = w.heap.size, ⟨h', fun _ => Iff.rfl⟩, fun i hi => by
    rcases hi with rfl | rfl
    · exact .inl ((ha.2 _).2 rfl)
    · exact .inr (Nat.le_refl _), Moved.grown g (by simp)⟩
theorem St.setRng {w0 w w' : World} {H : Type} {P : Program} {k : TypeId} {R : Value → Option (DataW H × List MemPlace)} {b r n cnt cnt' : Nat} {D : DataW H} {left left' : Lit → Bool} {L : List Res} (h : St w0 w (rRng P k R b r n D left cnt :: L)) (h' : w'.ranges P k R b r n D left' cnt') (g : w.grownBy w' (some r)) : St w0 w' (rRng P k R b r n D left' cnt' :: L) :=
  h.updS fun T S ha _ _ => ⟨S, ⟨h', ha.2⟩, fun _ h => .inl h, Moved.grown g fun k e => by cases e; exact (ha.2 _).2 (.inr rfl)⟩

/-- The bytes, some sectors still to be copied. -/
def some_ (left : Lit → Bool) (vals : List (List Sec)) : List Sec := (List.range vals.length).map fun i => if left (.int .i64 (i : Nat)) = true then headOf (vals.getD i []) else lastOf (vals.getD i [])
theorem some_len (left : Lit → Bool) (vals : List (List Sec)) : (some_ left vals).length = vals.length := by simp [some_]
theorem some_get (left : Lit → Bool) (vals : List (List Sec)) {i : Nat} (hi : i < vals.length) : (some_ left vals).getD i [] = if left (.int .i64 (i : Nat)) = true then headOf (vals.getD i []) else lastOf (vals.getD i []) := by
  rw [List.getD_eq_getElem?_getD, some_, List.getElem?_map, List.getElem?_range hi]; rfl
theorem map_range_getD {α β : Type} (z : α) (f : α → β) : ∀ l : List α, (List.range l.length).map (fun i => f (l.getD i z)) = l.map f
  | [] => rfl
  | a :: r => by
    rw [List.length_cons, List.range_succ_eq_map, List.map_cons, List.map_map, List.map_cons, List.getD_cons_zero]
    congr 1
    exact map_range_getD z f r
theorem some_start {D : DU} {vals : List (List Sec)} (hM : Many D vals) (hne : ∀ l ∈ vals, l ≠ []) : some_ (Maps.has D) vals = vals.map headOf := by
  rw [← map_range_getD [] headOf vals, some_]
  refine List.map_congr_left fun i hi => ?_
  have hi := List.mem_range.1 hi
  rw [hM.has i hi]
  split
  · rfl
  · rename_i h
    have h1 : (vals.getD i []).length ≤ 1 := by simpa using h
    have h2 : 0 < (vals.getD i []).length := by
      rw [List.getD_eq_getElem?_getD, List.getElem?_eq_getElem hi]
      exact List.length_pos_iff.2 (hne _ (List.getElem_mem hi))
    rw [headOf_get, lastOf_get, show (vals.getD i []).length - 1 = 0 by omega]
theorem some_end {left : Lit → Bool} (vals : List (List Sec)) (h : ∀ kl, left kl = false) : some_ left vals = vals.map lastOf := by
  rw [← map_range_getD [] lastOf vals, some_]
  refine List.map_congr_left fun i hi => ?_
  rw [h]; rfl
theorem some_step {left : Lit → Bool} {vals : List (List Sec)} {i : Nat} (hi : i < vals.length) : some_ (fun z => left z && !z.sameKey (.int .i64 (i : Nat))) vals = (some_ left vals).set i (lastOf (vals.getD i [])) := by
  refine List.ext_getElem? fun j => ?_
  rw [List.getElem?_set]
  by_cases hj : j < vals.length
  · simp only [some_, List.getElem?_map, List.getElem?_range hj, Option.map_some, List.length_map, List.length_range]
    by_cases e : i = j
    · subst e
      have hs := WideAt.sameKey_self (int_key (i : Nat))
      rw [if_pos rfl, if_pos hj]
      simp [hs]
    · have hs := sameKey_ne (a := .int .i64 (j : Nat)) (b := .int .i64 (i : Nat)) (fun h => e (by injection h with _ h; omega))
      rw [if_neg e]
      simp [hs]
  · have hl := some_len left vals
    have hl2 := some_len (fun z => left z && !z.sameKey (.int .i64 (i : Nat))) vals
    rw [List.getElem?_eq_none (by omega), if_neg (by omega), List.getElem?_eq_none (by omega)]
theorem some_256 {left : Lit → Bool} {d : Dsk} (hok : d.Ok) : ∀ s ∈ some_ left d.vals, s.length = 256 := fun s hs => by
  obtain ⟨i, hi, rfl⟩ := List.mem_map.1 hs
  have hi := List.mem_range.1 hi
  split
  · exact hok.head _ (hok.get hi)
  · exact hok.last _ (hok.get hi)
theorem some_flat {left : Lit → Bool} {d : Dsk} (hok : d.Ok) : (some_ left d.vals).flatten.length = d.vals.length * 256 := by rw [flatten_len (some_256 hok), some_len]

/-- On the way through Image. -/
def IL (p : Nat) (d : Dsk) (x : DX) (v : Value) (r : Nat) (left' left : Lit → Bool) (cnt : Nat) (L : List Res) : List Res :=
  rRng Tryd.prog 3 (plainElem Tryd.prog 3) x.mm r d.extra x.Dm left' cnt :: rRow 5 1 v (some_ left d.vals).flatten.length (bytes (some_ left d.vals).flatten) ::
    rBlk p (dObj x d) :: rRow 5 1 (.slice (some ⟨x.a, 0, none⟩) (d.vals.length * 256) x.cap) (d.vals.length * 256) (bytes d.sure) :: rMap Tryd.prog 102 rdVal x.mf d.extra x.Df :: rVals x.Df d.vals :: L
section
variable {w0 w : World} {p : Nat} {d : Dsk} {L : List Res}
theorem IL.diskIs {x : DX} {v : Value} {r cnt : Nat} {left' left : Lit → Bool} (H : St w0 w (IL p d x v r left' left cnt L)) (hok : d.Ok) (hM : Many x.Dm d.vals) : DiskIs w p d x := by
  obtain ⟨T, S, h, _⟩ := H.drop.drop.drop.drop.drop.fst
  exact ⟨hok, hM, H.drop.drop.blk, H.drop.drop.drop.row, H.drop.drop.drop.drop.map, H.rng.owns, fun i k s h1 h2 => by
    obtain ⟨b, c, h3, h4⟩ := h.1 i k s h1 h2
    exact ⟨b, c, h3, h4.2⟩⟩
/-- One round of Image. -/
theorem IL.round {x : DX} {g N cc r cnt : Nat} {left' left : Lit → Bool} (H : St w0 w (IL p d x (.slice (some ⟨g, 0, none⟩) N cc) r left' left cnt L)) (hok : d.Ok) (hM : Many x.Dm d.vals) {i lo : Nat} (hi : i < d.vals.length) (hlo : lo = i * 256) (hb : (d.vals.getD i []).length - 1 ≤ 9223372036854775807) :
    N = d.vals.length * 256 ∧ d.vals.length * 256 ≤ cc ∧ Calls Tryd.prog 46 #[.pointer (some ⟨p, 0, none⟩), .int .i64 (i : Nat), .int .i64 ((d.vals.getD i []).length - 1 : Nat)] w fun e w' => ∃ a c W3, e = .returned (.slice (some a) 256 c) ∧ w' = w ∧
      (∀ ty, (Builtin.copy_ #[44, 44] ty #[.slice (some ⟨g, lo, none⟩) (N - lo) (cc - lo), .slice (some a) 256 c]).run Tryd.prog w = .ok (goInt 256) W3) ∧
      Aside0 (St w0 W3 (IL p d x (.slice (some ⟨g, 0, none⟩) N cc) r left' (fun z => left z && !z.sameKey (.int .i64 (i : Nat))) cnt L)) := by
  have hrow := H.drop.row
  obtain ⟨e1, e2, _⟩ := own_rd hrow
  have e3 := some_flat (left := left) hok
  have hp := hok.pos hi
  have h256 : (lastOf (d.vals.getD i [])).length = 256 := hok.last _ (hok.get hi)
  refine ⟨by omega, by omega, ((IL.diskIs H hok hM).value hi (by omega) hb).mono ?_⟩
  rintro e w' ⟨a, c, rfl, hc, hR, rfl⟩
  rw [← lastOf_get] at hR
  obtain ⟨W3, h1, h2, h3⟩ := row_copy (dLen := N - lo) (dCap := cc - lo) (sLen := 256) (sCap := c) (off := lo) hrow hR (by omega) (by omega)
  rw [h256] at h1 h2
  have hf := flatten_set h256 (some_ left d.vals) i (some_256 hok) (by rw [some_len]; exact hi)
  rw [← some_step hi, ← hlo] at hf
  rw [← hf] at h2
  exact ⟨a, c, W3, rfl, rfl, h1, ⟨St.swap ((St.swap H).setRow h2 h3 (.inl rfl))⟩⟩
set_option maxHeartbeats 4000000 in
theorem St.image (H : St w0 w (rDisk p d :: L)) (ht : d.taken ≤ maxTaken) : Calls Tryd.prog 24 #[.pointer (some ⟨p, 0, none⟩)] w fun e w' => ∃ v, e = .returned v ∧ St w0 w' (rRow 5 1 v d.image.length (bytes d.image) :: rDisk p d :: L) := by
  have hsure := H.sure
  have hok := H.diskOk
  have hn := hok.n2
  have hsl := hok.sure_len
  have hn1 := hok.n1
  unfold maxTaken at ht
  have hw : ∀ W v, Below w.heap.size w W → W.ownsRow w.heap.size 5 1 v d.sure.length (bytes d.sure) → ∃ (x : DX) (g cc : Nat) (W2 : World) (cnt : Nat), v = .slice (some ⟨g, 0, none⟩) (d.vals.length * 256) cc ∧ (Calls Tryd.prog 51 #[.pointer (some ⟨p, 0, none⟩)] W fun e w' => e = .returned (.map (some x.mm)) ∧ w' = W) ∧
      (Instr.range 81 (.map (some x.mm))).run Tryd.prog W = .ok (.pointer (some ⟨W.heap.size, 0, none⟩)) W2 ∧ Many x.Dm d.vals ∧ Aside0 (St w0 W2 (IL p d x v W.heap.size (Maps.has x.Dm) (Maps.has x.Dm) cnt L)) := fun W v hb hv => by
    have H1 := H.gainRow hb hv
    obtain ⟨x, H2, hwr⟩ := (St.swap H1).written
    have hd := H2.diskIs
    obtain ⟨W2, hrun, hrg, hg, hsz⟩ := hd.mm.range (t := 81) K3 Tryd.underlying81
    obtain ⟨g, cc, rfl, _, _⟩ := hv.form (by omega)
    have H3 := (St.fact H2).2
    -- blk, row, mf, mm, vals, own, L
    have H4 := (St.rot4 H3).toRng hrg hg
    -- rng, blk, row, mf, vals, own
    have H5 := St.swap (St.rot6 H4)
    refine ⟨x, g, cc, W2, Maps.size x.Dm, by rw [hsl], hwr, hrun, hd.many, ⟨?_⟩⟩
    have ef : (some_ (Maps.has x.Dm) d.vals).flatten = d.sure := by rw [some_start hd.many hok.ne, Dsk.sure, List.flatMap_def]
    unfold IL
    rw [ef]
    exact H5
  have HW := Aside0.mk hw
  clear hw H
  go_enter Tryd.func24, Tryd.ntmps24
  go_wp2_with fail
  refine hsure.mono ?_
  rintro e w1 ⟨v, rfl, hv, hb⟩
  obtain ⟨x, g, cc, W2, cnt, rfl, hwr, hrun, hM, HI⟩ := HW.out w1 v hb hv
  have HM := Aside0.mk hM
  clear hv hb hM HW
  go_wp2_with fail
  refine hwr.mono ?_
  rintro e w2 ⟨rfl, rfl⟩
  obtain ⟨N, hN⟩ : ∃ N, N = d.vals.length * 256 := ⟨_, rfl⟩
  rw [← hN] at HI
  rw [← hN]
  obtain ⟨r, hr⟩ : ∃ r, r = w2.heap.size := ⟨_, rfl⟩
  rw [← hr] at HI hrun
  have HN := Aside0.mk hN
  have HO := Aside0.mk hok
  have HL := Aside0.mk hn
  clear hr hN hok hsure hsl hn1 hwr hn
  go_wp2_with fail
  go_loopg [] cnt (fun gk W => ∃ left, Aside0 (St w0 W (IL p d x (.slice (some ⟨g, 0, none⟩) N cc) r left left gk L)))
  case atStart => exact ⟨_, HI⟩
  case round =>
    clear HI hrun
    obtain ⟨left, HT⟩ := hrel
    rcases HT.out.rng.next K3 0 with ⟨h0, hno, hrun⟩ | ⟨key, v, kl, y, W1, cnt', hk1, hk2, hk3, hk4, hrun, hrg, hlt, hg1, hs1, hent⟩
    · have hfin : St w0 wr (rRow 5 1 (.slice (some ⟨g, 0, none⟩) N cc) d.image.length (bytes d.image) :: rDisk p d :: L) := by
        have H1 := HT.out
        have hd := IL.diskIs H1 HO.out HM.out
        have ei : (some_ left d.vals).flatten = d.image := by rw [some_end _ hno, Dsk.image, List.flatMap_def]
        unfold IL at H1
        rw [ei] at H1
        -- rng, own, blk, row, mf, vals, L
        have H2 : St w0 wr (rMap Tryd.prog 3 (plainElem Tryd.prog 3) x.mm d.extra x.Dm :: _) := H1.updS fun T S ha _ _ => ⟨fun i => i = x.mm, ⟨ha.1.owns, fun _ => Iff.rfl⟩, fun i hi => .inl ((ha.2 i).2 (.inl hi)), Moved.refl _ _⟩
        have H3 := St.back5 H2
        -- own, blk, row, mf, mm, vals
        have H4 := St.back6 H3
        refine St.swap (St.mkDisk x ?_)
        exact St.infact ⟨HO.out, HM.out⟩ H4
      have HF := Aside0.mk hfin
      clear hfin hno HT
      go_wp2
      go_ret
      exact ⟨_, rfl, HF.out⟩
    · have hhas := has_true_of_atKey hk4
      obtain ⟨i, hi, rfl⟩ := HM.out.only _ hhas
      obtain ⟨z, rfl, ez, _⟩ := keyOf_int_inv Tryd.underlying3 hk1
      have ezi : z = (i : Int) := by injection ez with _ ez; exact ez.symm
      subst ezi
      obtain ⟨m, rfl, rfl, hmw⟩ := plainElem_int_inv Tryd.underlying3 hk3
      have hmi := hk4 (.lit (.int .i64 0))
      rw [HM.out.at_ i hi] at hmi
      have hmm : m = ((d.vals.getD i []).length - 1 : Nat) := by injection hmi with hmi; injection hmi with _ hmi; exact hmi.symm
      have hb := le_of_wf (hmm ▸ hmw)
      obtain ⟨lo, hlo⟩ : ∃ lo, lo = i * 256 := ⟨_, rfl⟩
      have H1 : St w0 W1 (IL p d x (.slice (some ⟨g, 0, none⟩) N cc) r (fun z => left z && !z.sameKey (.int .i64 (i : Nat))) left cnt' L) := HT.out.setRng hrg hg1
      obtain ⟨e1, e2, hcall⟩ := IL.round H1.drew HO.out HM.out hi hlo hb
      have hLn := HL.out
      have q1 : (0 : Int) ≤ (lo : Int) := by omega
      have q2 : (lo : Int) ≤ (N : Int) := by omega
      have q3 : (N : Int) ≤ (cc : Int) := by omega
      have hne : ¬ (cc = lo) := by omega
      have hb1 : i ≤ 1048576 := by omega
      have wi1 := wi_mul hlo hb1
      obtain ⟨k, hk⟩ : ∃ k : Nat, k = (d.vals.getD i []).length - 1 := ⟨_, rfl⟩
      rw [← hk] at hcall hmm
      subst hmm
      have HC := Aside0.mk hcall
      clear H1 hrg hg1 hs1 hb hmi hmw hk hk1 hk2 hk3 hk4 hhas hi hlo e1 e2 hcall hLn HT ez
      go_wp2_with fail
      go_region_held3 (fun _ => True) (trivial) ((go_at_call 46; refine HC.out.mono ?_; rintro e W2 ⟨a, c, W3, rfl, rfl, hcp, hfin⟩))
      all_goals (
        clear wi1 hb1 q1 q2 q3 hne
        go_wp2
        go_roundg cnt'
        case measure => exact hlt
        case rel => exact ⟨_, hfin⟩)
end
end Go.Proofs.YtfhdiddlloiglaaDoor
end
section
/- The disk's Clone; New and Load. -/
namespace Go.Proofs.YtfhdiddlloiglaaDoor
open Go.RowKit Go.Maps Go.Proofs.YtfhdiddlloiglaaDoorW.PrintWords
attribute [local go_sem ↓] Go.wp_at_zero Go.wp_at_succ
set_option linter.unusedVariables false
set_option linter.unusedSimpArgs false
set_option maxRecDepth 100000

theorem St.dupE {w0 w : World} {A : Res} {L : List Res} (H : St w0 w (A :: L)) (hE : ∀ {w : World} {T S : Foot}, A.has w T S → ∀ i, ¬ S i) : St w0 w (A :: A :: L) := by
  obtain ⟨⟨T, S, ⟨S1, S2, h1, h2, h3, h4⟩, hT, hS, h0⟩, hb⟩ := H
  exact ⟨⟨T, S, ⟨S1, S, h1, ⟨S1, S2, h1, h2, h3, h4⟩, fun i hi => absurd hi (hE h1 i), fun i => ⟨.inr, fun h => h.elim (fun h => absurd h (hE h1 i)) id⟩⟩, hT, hS, h0⟩, hb⟩
theorem cell_far {w : World} {b k p j : Nat} {u : Value} (h : p ≠ b) : (w.setCell ⟨b, k, none⟩ u).cell? ⟨p, j, none⟩ = w.cell? ⟨p, j, none⟩ := World.cell?_of_block (w := w) (Below.heap_setCell w ⟨b, k, none⟩ u p h)
section
variable {w0 w : World} {p : Nat} {d : Dsk} {L : List Res}
/-- What Clone's loads read. -/
def CC (p : Nat) (d : Dsk) (x : DX) (W : World) : Prop :=
  W.cell? ⟨p, 0, none⟩ = some (.slice (some ⟨x.a, 0, none⟩) (d.vals.length * 256) x.cap) ∧ W.cell? ⟨p, 1, none⟩ = some (.map (some x.mf)) ∧ W.cell? ⟨p, 2, none⟩ = some (.map (some x.mm))
theorem CC.of {x : DX} (h : DiskIs w p d x) : CC p d x w := by
  obtain ⟨c0, c1, c2, _⟩ := h.atF.toAt
  exact ⟨c0, c1, c2⟩
theorem St.gainMap {w0 w w' : World} {L : List Res} {H : Type} {P : Program} {k : TypeId} {R : Value → Option (DataW H × List MemPlace)} {n : Nat} {D : DataW H} (h : St w0 w L) (hb : Below w.heap.size w w') (h' : w'.ownsMap P k R w.heap.size n D) : St w0 w' (rMap P k R w.heap.size n D :: L) :=
  h.gain hb fun T _ => ⟨fun i => i = w.heap.size, ⟨h', fun _ => Iff.rfl⟩, fun i hi => by omega⟩
/-- The struct's cells. -/
def dCells (x : DX) (d : Dsk) : Array Value := #[.slice (some ⟨x.a, 0, none⟩) (d.vals.length * 256) x.cap, .map (some x.mf), .map (some x.mm), .int .i64 d.left, .bool d.off, .int .i64 (d.taken : Nat)]
theorem zeros_row {w : World} (n : Nat) (hn : n ≤ maxLen) : (w.alloc (zeros n)).ownsRow w.heap.size 5 1 (.slice (some ⟨w.heap.size, 0, none⟩) n n) n (bytes (List.replicate n 0)) := by
  have e : (madeCells #[.int .u8 0] n).toList = bytes (List.replicate n 0) := by
    rw [toList_madeCells_one]; simp [bytes]
  refine ⟨by simp, .inr ⟨w.heap.size, n, madeCells #[.int .u8 0] n, rfl, Nat.le_refl _, (MapKept.heap_alloc w _).1, Nat.le_refl _, hn, ?_, ?_⟩⟩
  · rw [← Array.length_toList, e]; simp
  · rw [e, List.take_of_length_le (by simp)]
theorem newD_sure (n : Nat) : (newD n).sure = List.replicate (n * 256) 0 := by
  unfold Dsk.sure newD
  induction n with
  | zero => rfl
  | succ n ih =>
    simp only [List.replicate_succ, List.flatMap_cons] at ih ⊢
    rw [ih]
    show zeroSec ++ _ = _
    unfold zeroSec
    rw [List.replicate_append_replicate]
    congr 1
    omega
theorem vals_one {Df : DU} {vals : List (List Sec)} (h : ∀ l ∈ vals, l.length = 1) (H : St w0 w L) : St w0 w (rVals Df vals :: L) :=
  H.emp.imp fun T S hh _ _ => ⟨fun i k s hk hs => by
    have hks := (List.getElem?_eq_some_iff.1 hs).1
    by_cases hi : i < vals.length
    · have := h (vals.getD i []) (by rw [List.getD_eq_getElem?_getD, List.getElem?_eq_getElem hi]; exact List.getElem_mem hi)
      omega
    · rw [List.getD_eq_getElem?_getD, List.getElem?_eq_none (by omega)] at hks; simp at hks, hh⟩
theorem newD_one (n : Nat) : ∀ l ∈ (newD n).vals, l.length = 1 := fun l hl => by rw [(List.mem_replicate.1 hl).2]; rfl
theorem St.new (H : St w0 w L) {n : Nat} (h1 : 1 ≤ n) (h2 : n ≤ 4096) : Calls Tryd.prog 27 #[.int .i64 (n : Nat)] w fun e w' => ∃ p, e = .returned (.tuple #[.pointer (some ⟨p, 0, none⟩), .int .i64 0]) ∧ St w0 w' (rDisk p (newD n) :: L) := by
  refine (new_ok n h1 h2).mono ?_
  rintro e w' ⟨rfl, rfl⟩
  refine ⟨_, rfl, ?_⟩
  have hz : (w.alloc (zeros (n * 256))).ownsRow w.heap.size 5 1 (.slice (some ⟨w.heap.size, 0, none⟩) (n * 256) (n * 256)) (n * 256) (bytes (List.replicate (n * 256) 0)) := zeros_row (n * 256) (by simp only [maxLen]; omega)
  have H1 := H.gainRow ((Below.refl _ w).alloc (Nat.le_refl _) _) hz
  have H2 := H1.gainMap ((Below.refl _ _).alloc (Nat.le_refl _) _) (World.ownsMap_made _ Tryd.prog 102 rdVal)
  have H3 := H2.gainMap (H := Unit) ((Below.refl _ _).alloc (Nat.le_refl _) _) (World.ownsMap_made _ Tryd.prog 3 (plainElem Tryd.prog 3))
  have H4 := H3.alloc (.cells #[.slice (some ⟨w.heap.size, 0, none⟩) (n * 256) (n * 256), .map (some (w.heap.size + 1)), .map (some (w.heap.size + 2)), .int .i64 (-1), .bool false, .int .i64 0] 83)
  have H5 := vals_one (Df := .map []) (newD_one n) H4
  have e1 : (w.alloc (zeros (n * 256))).heap.size = w.heap.size + 1 := by simp
  have e2 : ((w.alloc (zeros (n * 256))).alloc (.map #[] 0)).heap.size = w.heap.size + 2 := by simp
  have e3 : (((w.alloc (zeros (n * 256))).alloc (.map #[] 0)).alloc (.map #[] 0)).heap.size = w.heap.size + 3 := by simp
  rw [e1, e2, e3] at H5
  -- vals, blk, mm, mf, row, L
  have hl : (newD n).vals.length = n := by simp [newD]
  have hex : (newD n).extra = 0 := by
    have := sum_le (c := 0) (newD n).vals fun l hl => by rw [newD_one n l hl]; omega
    unfold Dsk.extra
    omega
  refine St.mkDisk ⟨w.heap.size, n * 256, w.heap.size + 1, w.heap.size + 2, .map [], .map []⟩ ?_
  unfold rDiskX
  refine St.infact ⟨newD_ok h1 h2, Many.empty (newD_one n)⟩ ?_
  rw [hex, newD_sure]
  have ho : dObj ⟨w.heap.size, n * 256, w.heap.size + 1, w.heap.size + 2, .map [], .map []⟩ (newD n) = .cells #[.slice (some ⟨w.heap.size, 0, none⟩) (n * 256) (n * 256), .map (some (w.heap.size + 1)), .map (some (w.heap.size + 2)), .int .i64 (-1), .bool false, .int .i64 0] 83 := by
    simp only [dObj, hl]; rfl
  rw [ho, hl]
  exact H5.perm ((List.perm_middle (l₁ := [_])).trans (List.Perm.cons _ ((List.perm_middle (l₁ := [_, _, _])).trans (List.Perm.cons _ ((List.perm_middle (l₁ := [_, _])).trans (List.Perm.cons _ (List.Perm.swap _ _ _)))))))
theorem new_err {n : Int} (h : ¬ (1 ≤ n ∧ n ≤ 4096)) : Calls Tryd.prog 27 #[.int .i64 n] w fun e w' => e = .returned (.tuple #[.pointer none, .int .i64 2]) ∧ w' = w := new_bad n h
end
end Go.Proofs.YtfhdiddlloiglaaDoor
end
section
/- The laws' helpers: full, SameBytes, Among. -/
namespace Go.Proofs.YtfhdiddlloiglaaDoor
open Go.RowKit Go.Maps Go.Proofs.YtfhdiddlloiglaaDoorW.PrintWords
attribute [local go_sem ↓] Go.wp_at_zero Go.wp_at_succ
set_option linter.unusedVariables false
set_option linter.unusedSimpArgs false
set_option maxRecDepth 100000

/-- Among. -/
def among (n : Int) (m : Nat) : Nat := ((n % 18446744073709551616) % (m : Int)).toNat
theorem among_lt (n : Int) {m : Nat} (h : 0 < m) : among n m < m := by
  unfold among
  have h1 := Int.emod_lt_of_pos (n % 18446744073709551616) (show (0 : Int) < m by omega)
  have h2 := Int.emod_nonneg (n % 18446744073709551616) (show (m : Int) ≠ 0 by omega)
  omega
theorem among_val (n : Int) {m : Nat} (h : 0 < m) (hm : m ≤ 1048576) : wrap64 ((IntKind.u64.wrap n).tmod (m : Int)) = ((among n m : Nat) : Int) := by
  have e : IntKind.u64.wrap n = n % 18446744073709551616 := IntKind.wrap_u64 n
  rw [e, Int.tmod_eq_emod_of_nonneg (Int.emod_nonneg _ (by omega))]
  have h1 := Int.emod_lt_of_pos (n % 18446744073709551616) (show (0 : Int) < m by omega)
  have h2 := Int.emod_nonneg (n % 18446744073709551616) (show (m : Int) ≠ 0 by omega)
  unfold among
  rw [Int.toNat_of_nonneg h2]
  unfold wrap64
  omega
theorem among_calls (w : World) (n : Int) {m : Nat} (h : 0 < m) (hm : m ≤ 1048576) : Calls Tryd.prog 16 #[.int .i64 n, .int .i64 (m : Nat)] w fun e w' => e = .returned (.int .i64 (among n m : Nat)) ∧ w' = w := by
  have e := among_val n h hm
  have b0 : ((m : Int) == 0) = false := by simpa using (by omega : (m : Int) ≠ 0)
  have eu : IntKind.u64.wrap (m : Int) = (m : Int) := by rw [IntKind.wrap_u64]; omega
  have E := Aside0.mk e
  clear e
  go_enter Tryd.func16, Tryd.ntmps16
  go_wp2
  go_ret
  exact ⟨by rw [← E.out]; rfl, rfl⟩
/-- A cell of a row is written. -/
theorem row_set {w : World} {base g n cap i : Nat} {e : TypeId} {xs : List Value} (h : w.ownsRow base e 1 (.slice (some ⟨g, 0, none⟩) n cap) n xs) (hi : i < n) (u : Value) :
    (w.setCell ⟨g, i, none⟩ u).ownsRow base e 1 (.slice (some ⟨g, 0, none⟩) n cap) n (xs.set i u) ∧ w.grownBy (w.setCell ⟨g, i, none⟩ u) (some g) ∧ w.frozen? ⟨g, i, none⟩ = false ∧ w.cell? ⟨g, i, none⟩ = xs[i]? := by
  have h0 := h
  obtain ⟨h1, h2⟩ := h
  rcases h2 with ⟨e, _⟩ | ⟨g', cap', cur, e, hb, hg, h3, h4, h5, h6⟩
  · cases e
  · injection e with e1 e2 e3
    injection e1 with e1
    injection e1 with e1
    subst e1 e3
    refine ⟨⟨by simpa using h1, .inr ⟨g, cap, cur.setIfInBounds i u, rfl, hb, heap_setCell_self hg u, h3, h4, by simpa using h5, ?_⟩⟩, ⟨rfl, rfl, rfl, by simp [World.setCell], fun k hk hne => Below.heap_setCell w ⟨g, i, none⟩ u k (fun e => hne (by rw [e]))⟩, free_of_blk hg i, ?_⟩
    · rw [Array.toList_setIfInBounds, ← h6, List.take_set]
    · rw [cell_of_blk hg i, ← h6, List.getElem?_take_of_lt (by omega), Array.getElem?_toList]
set_option maxHeartbeats 1000000 in
/-- full: a sector of one byte. -/
theorem full_calls (w : World) (c : Int) : Calls Tryd.prog 40 #[.int .u8 c] w fun e w' => ∃ v, e = .returned v ∧ w'.ownsRow w.heap.size 5 1 v 256 (bytes (List.replicate 256 c)) ∧ Below w.heap.size w w' := by
  have hm := make_bytes w 256 (by omega) (by omega)
  have hz := zeros_row (w := w) 256 (by simp [maxLen])
  have hb0 : Below w.heap.size w (w.alloc (zeros 256)) := (Below.refl _ w).alloc (Nat.le_refl _) _
  have e2 : (256 : Int).toNat = 256 := rfl
  rw [e2] at hm
  have HZ := Aside0.mk hz
  have HB := Aside0.mk hb0
  clear hz hb0 e2
  obtain ⟨g, hg⟩ : ∃ g, g = w.heap.size := ⟨_, rfl⟩
  generalize w.alloc (zeros 256) = W0 at *
  rw [← hg] at hm HZ HB ⊢
  clear hg
  go_enter Tryd.func40, Tryd.ntmps40
  go_wp2_with fail
  go_loopw [4] (fun i W => ∃ k : Nat, i = .int .i64 (k : Int) ∧ k ≤ 256 ∧ Aside0 (W.ownsRow g 5 1 (.slice (some ⟨g, 0, none⟩) 256 256) 256 (bytes (List.replicate k c ++ List.replicate (256 - k) 0))) ∧ Aside0 (Below g w W)) (fun i _ => 256 - (RowKit.intOf i).toNat)
  case atStart => exact ⟨0, rfl, by omega, by simpa using HZ, HB⟩
  case round =>
    clear HZ HB
    obtain ⟨k, rfl, hk, HO, HB⟩ := hrel
    by_cases hlt : k < 256
    · have t1 : decide ((k : Int) < 256) = true := decide_eq_true (by omega)
      have t2 : (0 : Int) ≤ (k : Int) := by omega
      have t3 : (k : Int) < 256 := by omega
      obtain ⟨r1, r2, r3, r4⟩ := row_set HO.out hlt (.int .u8 c)
      have e : (bytes (List.replicate k c ++ List.replicate (256 - k) 0)).set k (.int .u8 c) = bytes (List.replicate (k + 1) c ++ List.replicate (256 - (k + 1)) 0) := by
        have e1 : List.replicate (256 - k) (0 : Int) = 0 :: List.replicate (256 - (k + 1)) 0 := by rw [show 256 - k = (256 - (k + 1)) + 1 by omega, List.replicate_succ]
        have e2 : List.replicate (k + 1) c = List.replicate k c ++ [c] := List.replicate_succ'
        rw [e1, e2]
        simp only [bytes, List.map_append, List.map_cons, List.map_replicate]
        rw [List.set_append_right _ _ (by simp)]
        simp
      rw [e] at r1
      have hc : wr.cell? ⟨g, k, none⟩ = some (.int .u8 0) := by
        rw [r4]
        simp only [bytes, List.map_append, List.map_replicate]
        rw [List.getElem?_append_right (by simp), List.length_replicate, Nat.sub_self, List.getElem?_replicate, if_pos (by omega)]
      have R1 := Aside0.mk r1
      have B1 := Aside0.mk (HB.out.grown r2 (Nat.le_of_lt (HO.out.lt g rfl).2) (by intro k hk; cases hk; exact Nat.le_refl _))
      clear r1 r2 r4 e HO
      go_wp2
      go_roundw
      case rel => exact ⟨k + 1, by go_num, by omega, R1, B1⟩
      case measure => simp only [RowKit.intOf]; omega
    · have hk2 : k = 256 := by omega
      subst hk2
      have t1 : decide (((256 : Nat) : Int) < 256) = false := by decide
      go_wp2
      go_ret
      refine ⟨_, rfl, ?_, HB.out⟩
      have := HO.out
      rwa [Nat.sub_self, List.replicate_zero, List.append_nil] at this
/-- SameBytes. -/
theorem Rd.at_ {w : World} {A : Option Addr} {l : List Int} (h : Rd w A l) {j : Nat} (hj : j < l.length) : ∃ ad, A = some ad ∧ w.cell? (ad.add j) = some (.int .u8 (l.getD j 0)) := by
  obtain ⟨ad, e, hc⟩ := h.2.2 (by omega)
  obtain ⟨c, hs, hr, hcell⟩ := hc j _ (List.getElem?_eq_getElem hj)
  have hr : c = [.int .u8 l[j]] := hr
  subst hr
  refine ⟨ad, e, ?_⟩
  have := hcell 0 _ rfl
  rw [List.getD_eq_getElem?_getD, List.getElem?_eq_getElem hj]
  simpa [Kd.int, Kd.scalar] using this
theorem eq_of_take {l1 l2 : List Int} (hl : l1.length = l2.length) (h : ∀ j, j < l1.length → l1.getD j 0 = l2.getD j 0) : l1 = l2 := by
  refine List.ext_getElem hl fun j h1 h2 => ?_
  have := h j h1
  rwa [List.getD_eq_getElem?_getD, List.getD_eq_getElem?_getD, List.getElem?_eq_getElem h1, List.getElem?_eq_getElem h2] at this
set_option maxHeartbeats 2000000 in
theorem same_calls {w : World} {A1 A2 : Option Addr} {c1 c2 : Nat} {l1 l2 : List Int} (h1 : Rd w A1 l1) (h2 : Rd w A2 l2) : Calls Tryd.prog 26 #[.slice A1 l1.length c1, .slice A2 l2.length c2] w fun e w' => e = .returned (.bool (decide (l1 = l2))) ∧ Below w.heap.size w w' := by
  have hL1 : l1.length ≤ 9223372036854775807 := h1.2.1
  by_cases hl : l1.length = l2.length
  · obtain ⟨n, hn⟩ : ∃ n, n = l1.length := ⟨_, rfl⟩
    have hb : ((n : Int) != (n : Int)) = false := by simp
    have H1 := Aside0.mk h1
    have H2 := Aside0.mk h2
    have HN := Aside0.mk hn
    have HL := Aside0.mk hl
    rw [← hl, ← hn]
    rw [← hn] at hL1
    have HB := Aside0.mk (Below.refl w.heap.size w)
    clear h1 h2 hl hn
    go_enter Tryd.func26, Tryd.ntmps26
    go_wp2_with fail
    go_loopw [5] (fun i W => ∃ k : Nat, i = .int .i64 (k : Int) ∧ k ≤ n ∧ (∀ j, j < k → l1.getD j 0 = l2.getD j 0) ∧ Aside0 (Below w.heap.size w W)) (fun i _ => n - (RowKit.intOf i).toNat)
    case atStart => exact ⟨0, rfl, Nat.zero_le _, fun j hj => absurd hj (by omega), HB⟩
    case round =>
      clear HB
      obtain ⟨k, rfl, hk, hF, HB⟩ := hrel
      by_cases hlt : k < n
      · have t1 : decide ((k : Int) < (n : Int)) = true := decide_eq_true (by omega)
        have t2 : (0 : Int) ≤ (k : Int) := by omega
        have t3 : (k : Int) < (n : Int) := by omega
        have e1 := HN.out
        have e2 := HL.out
        obtain ⟨a1, rfl, hc1⟩ := Rd.at_ (H1.out.below HB.out) (j := k) (by omega)
        obtain ⟨a2, rfl, hc2⟩ := Rd.at_ (H2.out.below HB.out) (j := k) (by omega)
        have HF := Aside0.mk hF
        have HB2 := Aside0.mk HB.out.drew
        generalize hx : l1.getD k 0 = x at hc1
        generalize hy : l2.getD k 0 = y at hc2
        have HX := Aside0.mk hx
        have HY := Aside0.mk hy
        clear e1 e2 hF hx hy
        by_cases hxy : x = y
        · subst hxy
          have bx : (x != x) = false := by simp
          go_wp2_with fail
          go_region_held3 (fun W => W.cell? (a1.add k) = some (.int .u8 x) ∧ W.cell? (a2.add k) = some (.int .u8 x)) (go_keep) (fail)
          go_wp2
          go_roundw
          case rel => exact ⟨k + 1, by go_num, by omega, fun j hj => by
            by_cases e : j = k
            · subst e; rw [HX.out, HY.out]
            · exact HF.out j (by omega), HB2⟩
          case measure => simp only [RowKit.intOf]; omega
        · have bx : (x != y) = true := by simpa using hxy
          have hd : decide (l1 = l2) = false := decide_eq_false fun e => hxy (by rw [← HX.out, ← HY.out, e])
          have HD := Aside0.mk hd
          clear hd
          go_wp2_with fail
          go_region_held3 (fun W => W.cell? (a1.add k) = some (.int .u8 x) ∧ W.cell? (a2.add k) = some (.int .u8 y)) (go_keep) (fail)
          go_wp2
          go_ret
          exact ⟨by rw [HD.out]; rfl, HB2.out⟩
      · have hk2 : k = n := by omega
        have t1 : decide ((k : Int) < (n : Int)) = false := decide_eq_false (by omega)
        have hd : decide (l1 = l2) = true := decide_eq_true (eq_of_take HL.out fun j hj => hF j (by rw [hk2, HN.out]; exact hj))
        have HD := Aside0.mk hd
        clear hF hd
        go_wp2
        go_ret
        exact ⟨by rw [HD.out]; rfl, HB.out⟩
  · have e : decide (l1 = l2) = false := decide_eq_false fun e => hl (by rw [e])
    have hb : (((l1.length : Nat) : Int) != ((l2.length : Nat) : Int)) = true := by simpa using (by omega : ((l1.length : Nat) : Int) ≠ ((l2.length : Nat) : Int))
    rw [e]
    clear h1 h2
    go_enter Tryd.func26, Tryd.ntmps26
    go_wp2
    go_ret
    exact ⟨rfl, Below.refl _ _⟩
end Go.Proofs.YtfhdiddlloiglaaDoor
end
section
/- The chapter's example works. -/
namespace Go.Proofs.YtfhdiddlloiglaaDoor
open Go.RowKit Go.Maps Go.Proofs.YtfhdiddlloiglaaDoorW.PrintWords
set_option linter.unusedVariables false
set_option linter.unusedSimpArgs false
set_option maxRecDepth 100000

/-- A sector of one byte. -/
def fullS (c : Int) : Sec := List.replicate 256 c
theorem fullS_len (c : Int) : (fullS c).length = 256 := List.length_replicate
theorem fullS_mem {c : Int} (h : 0 ≤ c ∧ c ≤ 255) : ∀ x ∈ fullS c, 0 ≤ x ∧ x ≤ 255 := fun x hx => by rw [(List.mem_replicate.1 hx).2]; exact h
section
variable {w0 w : World} {p : Nat} {d : Dsk} {L : List Res}
theorem rRow_rd {v : Value} {A : Option Addr} {n c : Nat} {l : List Int} (hn : l.length = n) {w : World} {T S : Foot} (h : (rRow 5 1 (.slice A n c) n (bytes l)).has w T S) : Rd w A l := by
  subst hn
  obtain ⟨_, _, h⟩ := own_rd h.1
  exact h
theorem St.rdRow {A : Option Addr} {n c : Nat} {l : List Int} (H : St w0 w (rRow 5 1 (.slice A n c) n (bytes l) :: L)) (hn : l.length = n) : Rd w A l := by
  obtain ⟨T, S, h, _⟩ := H.fst
  exact rRow_rd (v := .slice A n c) hn h
theorem same_of {w : World} {A1 A2 : Option Addr} {n1 n2 c1 c2 : Nat} {l1 l2 : List Int} (h1 : Rd w A1 l1) (h2 : Rd w A2 l2) (e1 : l1.length = n1) (e2 : l2.length = n2) : Calls Tryd.prog 26 #[.slice A1 n1 c1, .slice A2 n2 c2] w fun e w' => e = .returned (.bool (decide (l1 = l2))) ∧ Below w.heap.size w w' := by
  subst e1 e2
  exact same_calls h1 h2
/-- Write of a row of one's own. -/
theorem St.writeRow {g cc : Nat} {b : Sec} (H : St w0 w (rDisk p d :: rRow 5 1 (.slice (some ⟨g, 0, none⟩) 256 cc) 256 (bytes b) :: L)) (hl : b.length = 256) (hb : ∀ x ∈ b, 0 ≤ x ∧ x ≤ 255) (ht : d.taken < maxTaken) (i : Int) :
    Calls Tryd.prog 41 #[.pointer (some ⟨p, 0, none⟩), .int .i64 i, .slice (some ⟨g, 0, none⟩) 256 cc] w fun e w' => e = .returned (.int .i64 (d.write i b).1) ∧ St w0 w' (rDisk p (d.write i b).2 :: L) := by
  have := St.write (A := some ⟨g, 0, none⟩) (b := b) H (fun {w T S} h => rRow_rd (v := .slice (some ⟨g, 0, none⟩) 256 cc) hl h) ht hb i cc (by simp)
  rw [hl] at this
  refine this.mono ?_
  rintro e w' ⟨h1, h2⟩
  exact ⟨h1, (St.swap h2).drop⟩
/-- full, and what it made. -/
theorem St.full (H : St w0 w L) (c : Int) : Calls Tryd.prog 40 #[.int .u8 c] w fun e w' => ∃ g cc, e = .returned (.slice (some ⟨g, 0, none⟩) 256 cc) ∧ St w0 w' (rRow 5 1 (.slice (some ⟨g, 0, none⟩) 256 cc) 256 (bytes (fullS c)) :: L) := by
  refine (full_calls w c).mono ?_
  rintro e w' ⟨v, rfl, hv, hb⟩
  have H1 := H.gainRow hb hv
  obtain ⟨g, cc, rfl, _, _⟩ := hv.form (by omega)
  exact ⟨g, cc, rfl, H1⟩
/-- Read, and what it made. -/
theorem St.readAt (H : St w0 w (rDisk p d :: L)) (i : Int) {s : Sec} {e0 : Int} (hs : d.read i = (s, e0)) : Calls Tryd.prog 19 #[.pointer (some ⟨p, 0, none⟩), .int .i64 i] w fun e w' => ∃ A c, e = .returned (.tuple #[.slice A s.length c, .int .i64 e0]) ∧ St w0 w' (rRow 5 1 (.slice A s.length c) s.length (bytes s) :: rDisk p d :: L) := by
  refine (H.read i).mono ?_
  rintro e w' ⟨v, rfl, hv, hb⟩
  rw [hs] at hv ⊢
  have H1 := H.gainRow hb hv
  obtain ⟨A, c, rfl⟩ := own_slice hv
  exact ⟨A, c, rfl, H1⟩
end
/-! ### the example's disks -/
def e0 : Dsk := newD 2
def e1 : Dsk := ⟨[[zeroSec, fullS 97], [zeroSec]], -1, false, 1⟩
def e2 : Dsk := ⟨[[fullS 97], [zeroSec]], -1, false, 2⟩
def e3 : Dsk := ⟨[[fullS 97, fullS 98], [zeroSec]], -1, false, 3⟩
def e4 : Dsk := ⟨[[fullS 97, fullS 98, fullS 99], [zeroSec]], -1, false, 4⟩
def e5 : Dsk := ⟨[[fullS 98], [zeroSec]], -1, false, 4⟩
def e6 : Dsk := ⟨[[fullS 97], [zeroSec]], -1, false, 4⟩
theorem w01 : e0.write 0 (fullS 97) = (0, e1) := by simp [Dsk.write, e0, newD, Dsk.take, Dsk.put, fullS_len, e1, List.replicate]; try omega
theorem s12 : e1.sync = (0, e2) := by simp [Dsk.sync, e1, Dsk.take, Dsk.settled, lastOf, e2]; try omega
theorem w23 : e2.write 0 (fullS 98) = (0, e3) := by simp [Dsk.write, e2, Dsk.take, Dsk.put, fullS_len, e3]; try omega
theorem w34 : e3.write 0 (fullS 99) = (0, e4) := by simp [Dsk.write, e3, Dsk.take, Dsk.put, fullS_len, e4]; try omega
theorem p4 : e4.pending = 1 := by simp [Dsk.pending, e4]
theorem c45 : e4.crash [1] = e5 := by simp [Dsk.crash, e4, Dsk.crashed, Dsk.pick, e5]
theorem c46 : e4.crash [] = e6 := by simp [Dsk.crash, e4, Dsk.crashed, Dsk.pick, e6]
theorem r5 : e5.read 0 = (fullS 98, 0) := by simp [Dsk.read, e5, lastOf]
theorem r6 : e6.read 0 = (fullS 97, 0) := by simp [Dsk.read, e6, lastOf]
theorem i5 : e5.image.length = 512 := by simp [Dsk.image, e5, lastOf, fullS_len, zeroSec]
section
variable {w0 w : World} {p : Nat} {d d' : Dsk} {L : List Res}
theorem St.writeTo {g cc : Nat} {b : Sec} {i e : Int} (h : d.write i b = (e, d')) (H : St w0 w (rDisk p d :: rRow 5 1 (.slice (some ⟨g, 0, none⟩) 256 cc) 256 (bytes b) :: L)) (hl : b.length = 256) (hb : ∀ x ∈ b, 0 ≤ x ∧ x ≤ 255) (ht : d.taken < maxTaken) :
    Calls Tryd.prog 41 #[.pointer (some ⟨p, 0, none⟩), .int .i64 i, .slice (some ⟨g, 0, none⟩) 256 cc] w fun x w' => x = .returned (.int .i64 e) ∧ St w0 w' (rDisk p d' :: L) := by
  have := H.writeRow hl hb ht i
  rw [h] at this
  exact this
theorem St.syncTo {e : Int} (h : d.sync = (e, d')) (H : St w0 w (rDisk p d :: L)) (ht : d.taken < maxTaken) : Calls Tryd.prog 42 #[.pointer (some ⟨p, 0, none⟩)] w fun x w' => x = .returned (.int .i64 e) ∧ St w0 w' (rDisk p d' :: L) := by
  have := H.sync ht
  rw [h] at this
  exact this
theorem blk_rdI {g : Nat} {l : List Int} (hl : l.length ≤ 9223372036854775807) {w : World} {T S : Foot} (h : (rBlk g (.cells (l.map (Value.int .i64)).toArray 3)).has w T S) : RdI w (some ⟨g, 0, none⟩) l :=
  ⟨rfl, hl, fun _ => ⟨⟨g, 0, none⟩, rfl, fun j p hp => ⟨[.int .i64 p], rfl, rfl, fun i u hu => by
    rcases i with _ | i
    · simp at hu
      subst hu
      show w.cell? ((⟨g, 0, none⟩ : Addr).add (j * 1 + 0)) = _
      rw [addr_add, cell_of_blk h.1]
      simp [hp]
    · simp at hu⟩⟩⟩
theorem nil_rdI {w : World} {T S : Foot} (h : rEmp.has w T S) : RdI w none [] := ⟨rfl, by simp, fun h => absurd h (by simp)⟩
end
end Go.Proofs.YtfhdiddlloiglaaDoor
end
section
/- Numbers into bytes. -/
namespace Go.Proofs.YtfhdiddlloiglaaDoor
open Go.RowKit Go.Proofs.YtfhdiddlloiglaaDoorW.PrintWords
attribute [local go_sem ↓] Go.wp_at_zero Go.wp_at_succ
set_option linter.unusedVariables false
set_option linter.unusedSimpArgs false
set_option maxRecDepth 100000

theorem le_succ : ∀ (k : Nat) (n : Int), le (k + 1) n = le k n ++ [n / 256 ^ k % 256]
  | 0, n => by show [n % 256] = [n / 1 % 256]; rw [Int.ediv_one]
  | k + 1, n => by
    rw [le, le_succ k (n / 256), le, List.cons_append]
    congr 3
    rw [Int.pow_succ, Int.mul_comm, Int.ediv_ediv_of_nonneg (by decide)]
theorem putAt_zero (b : List Int) (i : Nat) (n : Int) : putAt b i 0 n = b := by simp [putAt, le]
theorem putAt_succ {b : List Int} {i k : Nat} {n : Int} (h : i + k < b.length) : putAt b i (k + 1) n = (putAt b i k n).set (i + k) (n / 256 ^ k % 256) := by
  unfold putAt
  have hl : (b.take i ++ le k n).length = i + k := by rw [List.length_append, List.length_take, le_len]; omega
  rw [List.set_append_right _ _ (by omega), hl, Nat.sub_self, List.drop_eq_getElem_cons h, List.set_cons_zero, le_succ]
  simp [Nat.add_assoc]
theorem ownsRow_ty {w : World} {g m n c size : Nat} {e : TypeId} {xs : List Value} (h : w.ownsRow 0 e size (.slice (some ⟨g, 0, none⟩) m c) n xs) : ∃ cur, w.heap[g]? = some (.cells cur e (0, 0)) := by
  rcases h.2 with ⟨h, _⟩ | ⟨g', cap, cur, e1, _, hg, _⟩
  · cases h
  · have : g = g' := by injection e1 with e1 _; injection e1 with e1; injection e1
    subst this
    exact ⟨cur, hg⟩
theorem ownsRow_set {w : World} {g n c : Nat} {e : TypeId} {xs : List Value} (h : w.ownsRow 0 e 1 (.slice (some ⟨g, 0, none⟩) n c) n xs) (i : Nat) (u : Value) : (w.setCell ⟨g, i, none⟩ u).ownsRow 0 e 1 (.slice (some ⟨g, 0, none⟩) n c) n (xs.set i u) := by
  obtain ⟨h1, h2⟩ := h
  refine ⟨by rw [List.length_set]; exact h1, ?_⟩
  rcases h2 with ⟨h, _⟩ | ⟨g', cap, cur, e1, hb, hg, r1, r2, r3, r4⟩
  · cases h
  · have : g = g' := by injection e1 with e1 _; injection e1 with e1; injection e1
    subst this
    refine .inr ⟨g, cap, cur.setIfInBounds i u, e1, hb, heap_setCell_self hg u, r1, r2, by simpa using r3, ?_⟩
    rw [Array.toList_setIfInBounds, List.take_set, r4]
section
variable {w0 w : World} {L : List Res}
theorem St.poke {A : Option Addr} {n c k : Nat} {xs : List Value} (H : St w0 w (rRow 5 1 (.slice A n c) n xs :: L)) (hk : k < n) : ∃ g, A = some ⟨g, 0, none⟩ ∧ (∃ U, w.cell? ⟨g, k, none⟩ = some U) ∧ w.frozen? ⟨g, k, none⟩ = false ∧ ∀ u, St w0 (w.setCell ⟨g, k, none⟩ u) (rRow 5 1 (.slice A n c) n (xs.set k u) :: L) := by
  have hr := H.row
  obtain ⟨g, cap, e, _, _⟩ := hr.form (by omega)
  injection e with e1 _ e3
  subst e1 e3
  have hlx : xs.length = n := by have := hr.1; omega
  have hc := hr.cells (g := g) rfl k xs[k] (List.getElem?_eq_getElem (by omega))
  rw [addr_add, Nat.zero_add] at hc
  obtain ⟨cur, t⟩ := ownsRow_ty hr
  refine ⟨g, rfl, ⟨_, hc⟩, free_of_blk t k, fun u => ?_⟩
  exact H.setRow (ownsRow_set hr k u) ⟨rfl, rfl, rfl, by simp [World.setCell], fun p hp hne => Below.heap_setCell _ _ _ _ fun e => hne (by rw [e]; rfl)⟩ (.inl rfl)
set_option maxHeartbeats 1000000 in
theorem St.put {A : Option Addr} {n c i k : Nat} {b : List Int} {v : Int} (H : St w0 w L) (hb : Rd w A b) (hn : b.length = n) (hA : A = none → c = 0) (hk : 1 ≤ k ∧ k ≤ 4) (hi : i + k ≤ n) (hn2 : n ≤ 1048576) (hv0 : 0 ≤ v) (hv : v < 256 ^ k) :
    Calls Tryd.prog 68 #[.slice A n c, .int .i64 (i : Int), .int .i64 (k : Int), .int .i64 v] w fun e w' => ∃ g c', e = .returned (.tuple #[.slice (some ⟨g, 0, none⟩) n c', .int .i64 0]) ∧ St w0 w' (rRow 5 1 (.slice (some ⟨g, 0, none⟩) n c') n (bytes (putAt b i k v)) :: L) := by
  have ht := there_calls w A n c i k hk hi hn2
  have hc := clone_calls (c := c) hb (by omega) hA
  rw [hn] at hc
  have HC := Aside0.mk hc
  have HT := Aside0.mk ht
  have HN := Aside0.mk hn
  have HH := Aside0.mk H
  have h1 : decide (v < 0) = false := decide_eq_false (by omega)
  have hp : (256 : Int) ^ k = 2 ^ (8 * k) := by rw [Int.pow_mul]; rfl
  have hz : v / 2 ^ (8 * k) = 0 := Int.ediv_eq_zero_of_lt hv0 (by rw [← hp]; exact hv)
  have wm : IntKind.i64.wrap (8 * (k : Int)) = ((8 * k : Nat) : Int) := by rw [IntWalk.i64_in _ (by omega)]; omega
  have hv64 : v < 9223372036854775808 := by
    have hk4 : k = 1 ∨ k = 2 ∨ k = 3 ∨ k = 4 := by omega
    rcases hk4 with rfl | rfl | rfl | rfl
    · have e : (256 : Int) ^ 1 = 256 := by decide
      omega
    · have e : (256 : Int) ^ 2 = 65536 := by decide
      omega
    · have e : (256 : Int) ^ 3 = 16777216 := by decide
      omega
    · have e : (256 : Int) ^ 4 = 4294967296 := by decide
      omega
  clear hb hn hc ht H hv hp
  go_enter Tryd.func68, Tryd.ntmps68
  go_wp2_with fail
  refine HT.out.mono ?_
  rintro e W1 ⟨rfl, rfl⟩
  clear HT
  go_wp2_with fail
  refine HC.out.mono ?_
  rintro e W2 ⟨v0, rfl, ho, hbl, hnn⟩
  obtain ⟨g, c', rfl, _, _⟩ := ho.form (by omega)
  have HI : Aside0 (St w0 W2 (rRow 5 1 (.slice (some ⟨g, 0, none⟩) n c') n (bytes (putAt b i 0 v)) :: L)) := ⟨by rw [putAt_zero]; exact HH.out.gainRow hbl ho⟩
  clear HC HH ho hbl hnn
  go_wp2_with fail
  go_loopw [31] (fun v31 W => ∃ j : Nat, v31 = .int .i64 (j : Int) ∧ j ≤ k ∧ Aside0 (St w0 W (rRow 5 1 (.slice (some ⟨g, 0, none⟩) n c') n (bytes (putAt b i j v)) :: L))) (fun v31 _ => k - (RowKit.intOf v31).toNat)
  case atStart => exact ⟨0, rfl, Nat.zero_le _, HI⟩
  case round =>
    clear HI
    obtain ⟨j, rfl, hj, HJ⟩ := hrel
    by_cases hjk : j < k
    · have t1 : decide ((j : Int) < (k : Int)) = true := decide_eq_true (by omega)
      have t1' : (j : Int) < (k : Int) := by omega
      obtain ⟨g', eg, ⟨U, hU⟩, hfz, hset⟩ := HJ.out.poke (k := i + j) (by omega)
      obtain ⟨rfl⟩ : g = g' := by injection eg with eg; injection eg
      have wi : IntKind.i64.wrap ((i : Int) + (j : Int)) = ((i + j : Nat) : Int) := by rw [IntWalk.i64_in _ (by omega)]; omega
      have q1 : ((i + j : Nat) : Int) < (n : Int) := by omega
      have q0 : (0 : Int) ≤ ((i + j : Nat) : Int) := by omega
      have wj : IntKind.i64.wrap (8 * (j : Int)) = ((8 * j : Nat) : Int) := by rw [IntWalk.i64_in _ (by omega)]; omega
      obtain ⟨x, hx⟩ : ∃ x, x = v / 256 ^ j % 256 := ⟨_, rfl⟩
      have hpj : (2 : Int) ^ (8 * j) = 256 ^ j := by rw [Int.pow_mul]; rfl
      have hw8 : IntKind.u8.wrap (v / 2 ^ (8 * j)) = x := by
        rw [hpj, hx]
        simp only [IntKind.wrap, IntKind.bits, IntKind.signed]
        simp
      have HS : Aside0 (∀ u, St w0 (wr.setCell ⟨g, i + j, none⟩ u) (rRow 5 1 (.slice (some ⟨g, 0, none⟩) n c') n ((bytes (putAt b i j v)).set (i + j) u) :: L)) := ⟨hset⟩
      have hres : Aside0 ((bytes (putAt b i j v)).set (i + j) (.int .u8 x) = bytes (putAt b i (j + 1) v)) := ⟨by
        rw [putAt_succ (by rw [HN.out]; omega), bytes, bytes, List.map_set, hx]⟩
      clear hset hx eg hpj HJ
      go_wp2
      go_roundw
      case rel => exact ⟨j + 1, by go_num, hjk, ⟨by rw [← hres.out]; exact HS.out _⟩⟩
      case measure => simp only [RowKit.intOf]; omega
    · have hje : j = k := by omega
      subst hje
      have t1 : decide ((j : Int) < (j : Int)) = false := decide_eq_false (by omega)
      go_wp2
      go_ret2
      exact ⟨g, c', rfl, HJ.out⟩
end
end Go.Proofs.YtfhdiddlloiglaaDoor
end
