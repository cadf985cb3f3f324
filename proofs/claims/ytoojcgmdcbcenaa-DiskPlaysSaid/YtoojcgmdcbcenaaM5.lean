/- The disk's settle: one value of each sector that was written becomes sure. -/
import Derived.Test.YtoojcgmdcbcenaaM4
import Derived.Test.YtoojcgmdcbcenaaPk
import Derived.Laws.CopyRow
namespace Go.Proofs.Ytoojcgmdcbcenaa
open Go.RowKit Go.Maps Go.Proofs.YtoojcgmdcbcenaaW.PrintWords
attribute [local go_sem ↓] Go.wp_at_zero Go.wp_at_succ
set_option linter.unusedVariables false
set_option linter.unusedSimpArgs false
set_option maxRecDepth 100000

theorem info5map : (Try.prog.info? 5).map (·.size) = some 1 := by
  obtain ⟨i, hi, hz, hs, hb⟩ := info5
  rw [hi]; simp [hs]
/-- copy into a row of bytes. -/
theorem row_copy {w : World} {g n cap off dLen dCap sLen sCap : Nat} {ad : Addr} {bs s : List Int} (h : w.ownsRow 0 5 1 (.slice (some ⟨g, 0, none⟩) n cap) bs.length (bytes bs)) (hR : Rd w (some ad) s) (hs : s.length = min sLen dLen) (hf : off + s.length ≤ bs.length) :
    ∃ w', (∀ ty, (Builtin.copy_ #[31, 31] ty #[.slice (some ⟨g, off, none⟩) dLen dCap, .slice (some ad) sLen sCap]).run Try.prog w = .ok (goInt s.length) w') ∧
      w'.ownsRow 0 5 1 (.slice (some ⟨g, 0, none⟩) n cap) (bs.take off ++ s ++ bs.drop (off + s.length)).length (bytes (bs.take off ++ s ++ bs.drop (off + s.length))) ∧ w.grownBy w' (some g) := by
  have h0 := h
  obtain ⟨h1, h2⟩ := h
  rcases h2 with ⟨e, _⟩ | ⟨g', cap', cur, e, hb, hg, h3, h4, h5, h6⟩
  · cases e
  · injection e with e1 e2 e3
    injection e1 with e1
    injection e1 with e1
    subst e1 e2 e3
    have hfit : off + s.length ≤ cur.size := by omega
    refine ⟨w.setRow g (cur.toList.take off ++ bytes s ++ cur.toList.drop (off + (bytes s).length)).toArray, fun ty => ?_, ?_, ?_⟩
    · have := run_copy_row (P := Try.prog) w 31 31 ty 5 g off dLen dCap ad sLen sCap cur 5 (bytes s) Try.underlying31 info5map hg (by simp [hs]) hR.cells (by simpa using hfit) (by intro u hu; simp [bytes] at hu; obtain ⟨z, _, rfl⟩ := hu; rfl)
      simpa using this
    · have hlen : (bs.take off ++ s ++ bs.drop (off + s.length)).length = bs.length := by simp; omega
      rw [hlen]
      refine ⟨by simp; omega, .inr ⟨g, cap, _, rfl, hb, setRow_heap w g _ _ 5 _ hg, h3, h4, ?_, ?_⟩⟩
      · simp; omega
      · have hc : cur.toList = bytes bs ++ cur.toList.drop bs.length := by
          rw [Nat.mul_one] at h6
          rw [← h6]; simp
        have hbl : (bytes bs).length = bs.length := by simp
        simp only [bytes, List.map_append, List.map_take, List.map_drop]
        rw [Nat.mul_one]
        rw [hc]
        have e1 : (bytes bs ++ cur.toList.drop bs.length).take off = (bytes bs).take off := List.take_append_of_le_length (by omega)
        have e2 : (bytes bs ++ cur.toList.drop bs.length).drop (off + (bytes s).length) = (bytes bs).drop (off + s.length) ++ cur.toList.drop bs.length := by
          rw [List.drop_append_of_le_length (by simp; omega)]; simp
        rw [e1, e2, ← List.append_assoc, List.take_left' (by simp; omega)]
    · exact ⟨rfl, rfl, rfl, by simp [World.setRow], fun k hk hne => setRow_other w g k _ (fun e => hne (by rw [e]))⟩
abbrev ints (l : List Nat) : List Value := l.map fun i => Value.int .i64 (i : Nat)
section
variable {w0 w : World} {p : Nat} {d : Dsk} {L : List Res}
/-- On the way through settle: the row of sure bytes is bs. -/
def SL (p : Nat) (d : Dsk) (x : DX) (kv : Value) (bs : List Int) (J : Res) (L : List Res) : List Res :=
  rRow 3 1 kv (pend d.vals).length (ints (pend d.vals)) :: rRow 5 1 (.slice (some ⟨x.a, 0, none⟩) (d.vals.length * 256) x.cap) bs.length (bytes bs) :: rBlk p (dObj x d) ::
    rMap Try.prog 73 rdVal x.mf d.extra x.Df :: rMap Try.prog 3 (plainElem Try.prog 3) x.mm d.extra x.Dm :: rVals x.Df d.vals :: J :: L
/-- What loads read on the way through settle. -/
def SC (p : Nat) (d : Dsk) (x : DX) (i m : Nat) (W : World) : Prop :=
  W.cell? ⟨p, 0, none⟩ = some (.slice (some ⟨x.a, 0, none⟩) (d.vals.length * 256) x.cap) ∧ W.cell? ⟨p, 2, none⟩ = some (.map (some x.mm)) ∧ (Instr.lookup 51 (.map (some x.mm)) (.int .i64 (i : Nat)) false).run Try.prog W = .ok (.int .i64 (m : Nat)) W
theorem SL.cells {kv : Value} {x : DX} {bs : List Int} {J : Res} (H : St w0 w (SL p d x kv bs J L)) (hM : Many x.Dm d.vals) (hn : d.vals.length ≤ 4096) {i : Nat} (hi : i < d.vals.length) : SC p d x i ((d.vals.getD i []).length - 1) w := by
  have blk := H.drop.drop.blk
  refine ⟨by simp [World.cell?, blk, dObj], by simp [World.cell?, blk, dObj], ?_⟩
  obtain ⟨c, hrun, hat, hw⟩ := H.drop.drop.drop.drop.map.lookup_int (t := 51) K3 Try.underlying51 Try.underlying3 (zero3 w) (keyOf_int_mk Try.underlying3 (wf64 (x := (i : Nat)) (by omega) (by omega)))
  rw [hM.at_ i hi] at hat
  injection hat with hat
  injection hat with _ hat
  subst hat
  exact hrun
theorem SL.value {kv : Value} {x : DX} {bs : List Int} {J : Res} (H : St w0 w (SL p d x kv bs J L)) (hok : d.Ok) (ht : d.taken ≤ maxTaken) (hbl : bs.length = d.vals.length * 256) {i k : Nat} (hi : i < d.vals.length) (hk : k < (d.vals.getD i []).length) (hb : (bs.drop (i * 256)).take 256 = headOf (d.vals.getD i [])) :
    Calls Try.prog 40 #[.pointer (some ⟨p, 0, none⟩), .int .i64 (i : Nat), .int .i64 (k : Nat)] w fun e w' => ∃ a c, e = .returned (.slice (some a) 256 c) ∧ 256 ≤ c ∧ Rd w (some a) ((d.vals.getD i []).getD k []) ∧ w' = w := by
  have blk := H.drop.drop.blk
  have hn := hok.n2
  have hs := hok.sec _ (hok.get hi)
  have hmany := hok.many _ (hok.get hi)
  unfold maxTaken at ht
  by_cases h0 : k = 0
  · subst h0
    have e0 : (d.vals.getD i []).getD 0 [] = headOf (d.vals.getD i []) := (headOf_get _).symm
    rw [e0, ← hb]
    exact value0_calls (n := d.vals.length * 256) (c := x.cap) (g := x.a) (by simp [World.cell?, blk, dObj]) H.drop.row (by omega) (by omega)
  · obtain ⟨T, S, hv, _⟩ := H.drop.drop.drop.drop.drop.fst
    obtain ⟨b, c, h3, h4⟩ := hv.1 i k _ (by omega) (List.getElem?_eq_getElem hk)
    obtain ⟨v, ps, hrun, hv2⟩ := H.drop.drop.drop.map.lookup (t := 50) K73 Try.underlying50 (zero31 w) rdVal_nil (spot_key (a := (i : Nat)) (b := (k : Nat)) (wf64 (by omega) (by omega)) (wf64 (by omega) (by omega)))
    rw [h3] at hv2
    obtain rfl := rdVal_inv hv2
    rw [List.getD_eq_getElem?_getD, List.getElem?_eq_getElem hk]
    exact value1_calls (mf := x.mf) (by simp [World.cell?, blk, dObj]) h0 hrun (hs _ (List.getElem_mem hk)).1 h4.2
theorem SL.copy {kv : Value} {x : DX} {bs s : List Int} {J : Res} (H : St w0 w (SL p d x kv bs J L)) {a : Addr} {c lo : Nat} (hR : Rd w (some a) s) (hs : s.length = 256) (hf : lo + 256 ≤ bs.length) (hbl : bs.length = d.vals.length * 256) :
    ∃ w', (∀ ty, (Builtin.copy_ #[31, 31] ty #[.slice (some ⟨x.a, lo, none⟩) (d.vals.length * 256 - lo) (x.cap - lo), .slice (some a) 256 c]).run Try.prog w = .ok (goInt 256) w') ∧ St w0 w' (SL p d x kv (bs.take lo ++ s ++ bs.drop (lo + 256)) J L) := by
  obtain ⟨w', h1, h2, h3⟩ := row_copy (dLen := d.vals.length * 256 - lo) (dCap := x.cap - lo) (sLen := 256) (sCap := c) (off := lo) H.drop.row hR (by omega) (by omega)
  rw [hs] at h1 h2
  exact ⟨w', h1, St.swap ((St.swap H).setRow h2 h3 (.inl rfl))⟩
/-- One round of settle, behind the draw. -/
theorem SL.round {pk : Nat → Nat → Nat} {WJ : Nat → Res} {fid : FuncId} {caps : Array Value} {kv : Value} {x : DX} (hpk : ∀ j m, pk j m ≤ m) {n0 : Nat}
    (hwh : ∀ {w : World} {L : List Res} (j i m : Nat), j ≤ 4096 → St w0 w (WJ j :: L) → m ≤ n0 → Calls Try.prog fid (#[.int .i64 (i : Nat), .int .i64 (m : Nat)] ++ caps) w fun e w' => e = .returned (.int .i64 (pk j m : Nat)) ∧ St w0 w' (WJ (j + 1) :: L))
    (hok : d.Ok) (ht : d.taken ≤ maxTaken) (hn0 : d.taken ≤ n0) (hM : Many x.Dm d.vals) {t : Nat} (htl : t < (pend d.vals).length) (H : St w0 w (SL p d x kv (chosen (upto pk t) 0 d.vals).flatten (WJ t) L)) {i m lo : Nat} (hi : i = (pend d.vals)[t]) (hm : m = (d.vals.getD i []).length - 1) (hlo : lo = i * 256) :
    Calls Try.prog fid (#[.int .i64 (i : Nat), .int .i64 (m : Nat)] ++ caps) w fun e W1 => e = .returned (.int .i64 (pk t m : Nat)) ∧ SC p d x i m W1 ∧
      Calls Try.prog 40 #[.pointer (some ⟨p, 0, none⟩), .int .i64 (i : Nat), .int .i64 (pk t m : Nat)] W1 fun e W2 => ∃ a c W3, e = .returned (.slice (some a) 256 c) ∧ W2 = W1 ∧
        (∀ ty, (Builtin.copy_ #[31, 31] ty #[.slice (some ⟨x.a, lo, none⟩) (d.vals.length * 256 - lo) (x.cap - lo), .slice (some a) 256 c]).run Try.prog W1 = .ok (goInt 256) W3) ∧ SC p d x i m W3 ∧
        Aside0 (St w0 W3 (SL p d x kv (chosen (upto pk (t + 1)) 0 d.vals).flatten (WJ (t + 1)) L)) := by
  have hn := hok.n2
  obtain ⟨hil, hi1⟩ := pend_mem.1 (hi ▸ List.getElem_mem htl)
  have hmany := hok.many _ (hok.get hil)
  have hup : ∀ t j m, upto pk t j m ≤ m := fun t j m => by unfold upto; split; exact hpk j m; omega
  have hsec : ∀ t, ∀ s ∈ chosen (upto pk t) 0 d.vals, s.length = 256 := fun t => chosen_mem (hup t) d.vals 0 fun l hl => ⟨hok.ne l hl, fun s hs => (hok.sec l hl s hs).1⟩
  have hbl : ∀ t, (chosen (upto pk t) 0 d.vals).flatten.length = d.vals.length * 256 := fun t => by
    rw [flatten_len (hsec t), chosen_length]
  have hkm := hpk t m
  have hst := chosen_step pk d.vals 0 t htl
  simp only [Nat.zero_add] at hst
  rw [← hi, ← hm] at hst
  have hv256 : ((d.vals.getD i []).getD (pk t m) []).length = 256 := by
    rw [List.getD_eq_getElem?_getD, List.getElem?_eq_getElem (show pk t m < (d.vals.getD i []).length by omega)]
    exact (hok.sec _ (hok.get hil) _ (List.getElem_mem _)).1
  have hfl := flatten_set hv256 (chosen (upto pk t) 0 d.vals) i (hsec t) (by rw [chosen_length]; exact hil)
  rw [← hst] at hfl
  have hpart : ((chosen (upto pk t) 0 d.vals).flatten.drop (i * 256)).take 256 = headOf (d.vals.getD i []) := by
    have := chosen_at pk d.vals 0 t htl
    rw [Nat.zero_add, ← hi] at this
    rw [flatten_part i (hsec t) (by rw [chosen_length]; exact hil), this]
  have H7 := St.rot7 H
  refine (hwh t i m (by have := pend_length d.vals; omega) H7 (by omega)).mono ?_
  rintro e W1 ⟨rfl, H1⟩
  have H2 : St w0 W1 (SL p d x kv (chosen (upto pk t) 0 d.vals).flatten (WJ (t + 1)) L) := St.back7 H1
  refine ⟨rfl, hm ▸ SL.cells H2 hM hn hil, ?_⟩
  refine (SL.value H2 hok ht (hbl t) hil (show pk t m < _ by omega) hpart).mono ?_
  rintro e W2 ⟨a, c, rfl, hc, hR, rfl⟩
  obtain ⟨W3, hcp, H3⟩ := SL.copy H2 (c := c) (lo := lo) hR hv256 (by rw [hbl]; omega) (hbl t)
  rw [hlo] at H3
  rw [← hfl] at H3
  exact ⟨a, c, W3, rfl, rfl, hcp, hm ▸ SL.cells H3 hM hn hil, ⟨H3⟩⟩
theorem wr_mul {i lo : Nat} (h : lo = i * 256) (hb : i ≤ 1048576) : wrap64 ((i : Int) * 256) = (lo : Int) := by unfold wrap64; omega
theorem wr_succ {t : Nat} (hb : t ≤ 1048576) : wrap64 ((t : Int) + 1) = ((t + 1 : Nat) : Int) := by unfold wrap64; omega
theorem wi_mul {i lo : Nat} (h : lo = i * 256) (hb : i ≤ 1048576) : IntKind.i64.wrap ((i : Int) * 256) = (lo : Int) := by rw [← wr_mul h hb]; unfold wrap64; exact IntKind.wrap_i64 _
/-- A disk of which one value of each sector is left. -/
def Dsk.only (d : Dsk) (l : List Sec) : Dsk := { d with vals := l.map fun s => [s] }
/-- Behind the loop: the maps are cleared. -/
theorem settle_fin {pk : Nat → Nat → Nat} {J : Res} {kv : Value} {x : DX} {wr : World} (hpk : ∀ j m, pk j m ≤ m) (hok : d.Ok) (HT1 : St w0 wr (SL p d x kv (chosen (upto pk (pend d.vals).length) 0 d.vals).flatten J L)) :
    ∃ W1 W2, wr.cell? ⟨p, 1, none⟩ = some (.map (some x.mf)) ∧ (∀ ty, (Builtin.clear_ #[50] ty #[.map (some x.mf)]).run Try.prog wr = .ok (.tuple #[]) W1) ∧ W1.cell? ⟨p, 2, none⟩ = some (.map (some x.mm)) ∧
      (∀ ty, (Builtin.clear_ #[51] ty #[.map (some x.mm)]).run Try.prog W1 = .ok (.tuple #[]) W2) ∧ St w0 W2 (rDisk p (d.only (chosen pk 0 d.vals)) :: J :: L) := by
  have HT2 := HT1.drop
  have hch : chosen (upto pk (pend d.vals).length) 0 d.vals = chosen pk 0 d.vals := by
    have := chosen_all pk d.vals 0
    rwa [Nat.zero_add] at this
  rw [hch] at HT2
  -- row, blk, mf, mm, vals, WJ, L
  have H3 := St.rot3 HT2
  obtain ⟨W1, hc1, ho1, hg1⟩ := ownsMap_clear H3.map Try.underlying50
  have H4 := H3.setMap ho1 hg1.grown
  -- mf', row, blk, mm, vals
  have H5 := St.rot4 H4
  obtain ⟨W2, hc2, ho2, hg2⟩ := ownsMap_clear H5.map Try.underlying51
  have H6 := H5.setMap ho2 hg2.grown
  -- mm', mf', row, blk, vals, WJ
  have blk0 := HT2.drop.blk
  have blk1 := H5.drop.drop.drop.blk
  have b1 : wr.cell? ⟨p, 1, none⟩ = some (.map (some x.mf)) := by simp [World.cell?, blk0, dObj]
  have b2 : W1.cell? ⟨p, 2, none⟩ = some (.map (some x.mm)) := by simp [World.cell?, blk1, dObj]
  have hfin : St w0 W2 (rDisk p (d.only (chosen pk 0 d.vals)) :: J :: L) := by
    have hmem : ∀ s ∈ chosen pk 0 d.vals, SecOk s := chosen_mem hpk d.vals 0 fun l hl => ⟨hok.ne l hl, hok.sec l hl⟩
    have hv : (d.only (chosen pk 0 d.vals)).vals = (chosen pk 0 d.vals).map fun s => [s] := rfl
    have hl : (d.only (chosen pk 0 d.vals)).vals.length = d.vals.length := by rw [hv, List.length_map, chosen_length]
    have hone : ∀ l ∈ (d.only (chosen pk 0 d.vals)).vals, l.length = 1 := fun l hl => by
      rw [hv] at hl; obtain ⟨s, _, rfl⟩ := List.mem_map.1 hl; rfl
    have hok2 : (d.only (chosen pk 0 d.vals)).Ok := by
      refine ⟨by rw [hl]; exact hok.n1, by rw [hl]; exact hok.n2, fun l hl => ?_, fun l hl s hs => ?_, hok.left1, hok.left2, fun l hl => ?_⟩
      · have := hone l hl; intro e; rw [e] at this; cases this
      · rw [hv] at hl; obtain ⟨s', hs', rfl⟩ := List.mem_map.1 hl
        rw [List.mem_singleton.1 hs]; exact hmem _ hs'
      · rw [hone l hl]; omega
    have hs : (d.only (chosen pk 0 d.vals)).sure = (chosen pk 0 d.vals).flatten := by
      rw [Dsk.sure, hv, List.flatMap_map, List.flatMap_def]
      congr 1
      simp [headOf]
    have hfl : (chosen pk 0 d.vals).flatten.length = d.vals.length * 256 := by
      rw [flatten_len fun s hs => (hmem s hs).1, chosen_length]
    refine St.mkDisk { x with Df := .map [], Dm := .map [] } ?_
    unfold rDiskX
    refine St.infact ⟨hok2, Many.empty hone⟩ ?_
    have ho : ∀ y : DX, y.a = x.a → y.cap = x.cap → y.mf = x.mf → y.mm = x.mm → dObj y (d.only (chosen pk 0 d.vals)) = dObj x d := fun y e1 e2 e3 e4 => by simp only [dObj, e1, e2, e3, e4, hl]; rfl
    rw [ho { x with Df := .map [], Dm := .map [] } rfl rfl rfl rfl, hs, hl]
    rw [hfl] at H6
    have hex : (d.only (chosen pk 0 d.vals)).extra = 0 := by
      have := sum_le (c := 0) (d.only (chosen pk 0 d.vals)).vals fun l hl => by rw [hone l hl]; omega
      unfold Dsk.extra
      omega
    rw [hex]
    have H6b : St w0 W2 (rVals (.map []) (d.only (chosen pk 0 d.vals)).vals :: _) := (St.rot5 H6).imp fun T S hh _ _ => ⟨fun i k s hk hs => by
      have hks := (List.getElem?_eq_some_iff.1 hs).1
      by_cases hi : i < (d.only (chosen pk 0 d.vals)).vals.length
      · have := hone ((d.only (chosen pk 0 d.vals)).vals.getD i []) (hok2.get hi)
        omega
      · rw [List.getD_eq_getElem?_getD, List.getElem?_eq_none (by omega)] at hks; simp at hks, hh.2⟩
    have H7 := St.rot4 (St.back5 H6b)
    exact H7.perm (List.Perm.cons _ ((List.perm_middle (l₁ := [_, _])).trans ((List.Perm.swap _ _ _).cons _)))
  exact ⟨W1, W2, b1, hc1, b2, hc2, hfin⟩
set_option maxHeartbeats 4000000 in
theorem settle_calls {pk : Nat → Nat → Nat} {WJ : Nat → Res} {fid : FuncId} {caps : Array Value} (hpk : ∀ j m, pk j m ≤ m) {n0 : Nat}
    (hwh : ∀ {w : World} {L : List Res} (j i m : Nat), j ≤ 4096 → St w0 w (WJ j :: L) → m ≤ n0 → Calls Try.prog fid (#[.int .i64 (i : Nat), .int .i64 (m : Nat)] ++ caps) w fun e w' => e = .returned (.int .i64 (pk j m : Nat)) ∧ St w0 w' (WJ (j + 1) :: L))
    (hen : ∀ args W, (callFunc fid args).run Try.prog W = .ok (.enter fid args) W)
    (H : St w0 w (rDisk p d :: WJ 0 :: L)) (ht : d.taken ≤ maxTaken) (hn0 : d.taken ≤ n0) :
    Calls Try.prog 43 #[.pointer (some ⟨p, 0, none⟩), .func (.func fid) #[] caps] w fun e w' => e = .returned (.tuple #[]) ∧ ∃ j, St w0 w' (rDisk p (d.only (chosen pk 0 d.vals)) :: WJ j :: L) := by
  obtain ⟨x, H⟩ := H.disk
  have h := H.diskIs
  have hok := h.ok
  have hn := hok.n2
  have hM := h.many
  have hent := h.mm.entries K3
  have hsz := hM.size hent
  have hpl := pend_length d.vals
  have ct2 := h.atF.toAt.c2
  have hkeys := keys_calls (some x.mm) w
  have hsort := sorted_calls h.mm (by rw [hsz]; simp only [maxLen]; omega) (by rw [hsz]; omega)
  have HH := Aside0.mk H
  have HN := Aside0.mk hn
  have HM := Aside0.mk hM
  have HE := Aside0.mk hent
  have HP := Aside0.mk hpl
  have HT := Aside0.mk ht
  clear H h hsz hn hM hent hpl ht
  go_enter Try.func43, Try.ntmps43
  go_wp2_with fail
  refine hkeys.mono ?_
  rintro e w1 ⟨rfl, rfl⟩
  go_wp2_with fail
  refine hsort.mono ?_
  rintro e w1 ⟨v, ss, rfl, hperm, hrow, hbl⟩
  have hsorted := HM.out.sorted HE.out hperm
  rw [hsorted] at hrow
  have hlen : ss.length = (pend d.vals).length := by
    have := hperm.length_eq
    rw [this, ← (HM.out.perm HE.out).length_eq, List.length_map]
  rw [hlen] at hrow
  have HW : St w0 w1 (SL p d x v (chosen (upto pk 0) 0 d.vals).flatten (WJ 0) L) := by
    have hb0 : Below w.heap.size w (w.alloc (.cells #[.map (some x.mm)] 51)) := (Below.refl _ w).alloc (Nat.le_refl _) _
    have e1 : (w.alloc (.cells #[.map (some x.mm)] 51)).heap.size = w.heap.size + 1 := by simp
    rw [← e1] at hrow hbl
    have H1 := (HH.out.go hb0).gainRow hbl hrow
    have H2 := (St.fact (St.swap H1)).2
    have ei : List.map (Value.int .i64) (List.map (fun i : Nat => (i : Int)) (pend d.vals)) = ints (pend d.vals) := by simp [ints]
    rw [ei] at H2
    unfold SL
    have ef : (chosen (upto pk 0) 0 d.vals).flatten = d.sure := by rw [chosen_zero, Dsk.sure, List.flatMap_def]
    rw [ef, hok.sure_len]
    exact St.back3 H2
  obtain ⟨A, cc, rfl⟩ := own_slice hrow
  have HS := Aside0.mk HW
  have HO := Aside0.mk hok
  clear hperm hrow hbl hsorted hlen HW HH ct2 hkeys hsort hok
  go_wp2_with fail
  go_loopw [13] (fun i W => ∃ t : Nat, i = .int .i64 (t : Int) ∧ t ≤ (pend d.vals).length ∧ Aside0 (St w0 W (SL p d x (.slice A (pend d.vals).length cc) (chosen (upto pk t) 0 d.vals).flatten (WJ t) L))) (fun i _ => (pend d.vals).length - (RowKit.intOf i).toNat)
  case atStart => exact ⟨0, rfl, Nat.zero_le _, HS⟩
  case round =>
    clear HS
    obtain ⟨t, rfl, htl, HT1⟩ := hrel
    by_cases hlt : t < (pend d.vals).length
    · have t1 : decide ((t : Int) < ((pend d.vals).length : Int)) = true := decide_eq_true (by omega)
      have t3 : (t : Int) < ((pend d.vals).length : Int) := by omega
      have t4 : (0 : Int) ≤ (t : Int) := by omega
      obtain ⟨i, hi⟩ : ∃ i, i = (pend d.vals)[t] := ⟨_, rfl⟩
      obtain ⟨m, hm⟩ : ∃ m, m = (d.vals.getD i []).length - 1 := ⟨_, rfl⟩
      obtain ⟨lo, hlo⟩ : ∃ lo, lo = i * 256 := ⟨_, rfl⟩
      have hil := (pend_mem.1 (hi ▸ List.getElem_mem hlt)).1
      have hR := SL.round hpk hwh HO.out HT.out hn0 HM.out hlt HT1.out.drew hi hm hlo
      have hS0 := SL.cells HT1.out HM.out HN.out hil
      have hS1 := SL.cells HT1.out.drew HM.out HN.out hil
      have hrow := HT1.out.row
      obtain ⟨g, cap, he, _, _⟩ := hrow.form (by omega)
      have hA : A = some ⟨g, 0, none⟩ := by injection he
      subst hA
      have hcell : wr.cell? ⟨g, t, none⟩ = some (.int .i64 (i : Nat)) := by
        have := hrow.cells (g := g) rfl t (.int .i64 (i : Nat)) (by simp [ints, hi, hlt])
        rwa [addr_add, Nat.zero_add] at this
      rw [← hm] at hS0 hS1
      obtain ⟨c0, c2, c3⟩ := hS0
      have hiN := HN.out
      have hcap : d.vals.length * 256 ≤ x.cap := by
        have := own_rd HT1.out.drop.row
        have e := this.1
        omega
      have q1 : (0 : Int) ≤ (lo : Int) := by omega
      have q2 : (lo : Int) ≤ ((d.vals.length * 256 : Nat) : Int) := by omega
      have q3 : ((d.vals.length * 256 : Nat) : Int) ≤ (x.cap : Int) := by omega
      have hne : ¬ (x.cap = lo) := by omega
      have hpT := HP.out
      have hb1 : i ≤ 1048576 := by omega
      have hb2 : t ≤ 1048576 := by omega
      obtain ⟨n, hnn⟩ : ∃ n, n = d.vals.length * 256 := ⟨_, rfl⟩
      have wi1 := wi_mul hlo hb1
      have wt : (t : Int) + 1 ≤ 1048577 := by omega
      clear hrow he hi hm hlo hil hiN hcap hpT
      simp only [SC, ← hnn] at hR hS1
      simp only [← hnn] at c0 q2 q3
      clear hnn
      have HR := Aside0.mk hR
      have HS1 := Aside0.mk hS1
      clear hR hS1
      go_wp2_with fail
      go_region_held3 (fun W => W.cell? ⟨p, 0, none⟩ = some (.slice (some ⟨x.a, 0, none⟩) n x.cap) ∧ W.cell? ⟨p, 2, none⟩ = some (.map (some x.mm)) ∧ (Instr.lookup 51 (.map (some x.mm)) (.int .i64 (i : Nat)) false).run Try.prog W = .ok (.int .i64 (m : Nat)) W)
        ((first | exact HS1.out | exact hS2.out | exact hS3.out)) ((first
          | (go_at_call 40; refine h40.out.mono ?_; rintro e W2 ⟨a, c, W3, rfl, rfl, hcp, hS3, hfin⟩; replace hS3 := Aside0.mk hS3)
          | (refine HR.out.mono ?_; rintro e W1 ⟨rfl, hS2, h40⟩; replace hS2 := Aside0.mk hS2; replace h40 := Aside0.mk h40)))
      all_goals (
        clear wi1 hb1 q1 q2 q3 hne
        go_wp2
        go_roundw
        case rel => exact ⟨t + 1, by go_num, hlt, hfin⟩
        case measure => simp only [RowKit.intOf]; omega)
    · have htT : t = (pend d.vals).length := by omega
      have t1 : decide ((t : Int) < ((pend d.vals).length : Int)) = false := decide_eq_false (by omega)
      have HT2 := HT1.out
      rw [htT] at HT2
      obtain ⟨W1, W2, b1, hc1, b2, hc2, hfin⟩ := settle_fin hpk HO.out HT2
      have HF := Aside0.mk hfin
      clear HT2 hfin
      go_wp2
      go_end0
      exact ⟨rfl, _, HF.out⟩
end
end Go.Proofs.Ytoojcgmdcbcenaa
